/- Texts of this claim, joined: G43 to D24. -/
import Derived.KernelRfl
import Derived.Test.YtnlbhjmbaedadaaProg
import Derived.WalkKit
import Derived.Test.YtnlbhjmbaedadaaP6
set_option linter.unusedVariables false
set_option linter.unusedSimpArgs false
set_option maxRecDepth 100000
namespace Go.Proofs.Ytnlbhjmbaedadaa
open Go.Vi
/- (headword/headwordlaw07.Forme).made -/
abbrev R43 := List (Int × Int)
noncomputable def c43 : Code := bodyOf Try.f43
noncomputable def an43 : Ann := (.s .l (.s .l (.s .l (.s (.s .l (.j [5] (.j [5, 6, 21, 22, 23] (.s .l (.s (.j [5, 6, 21, 22, 23] .l .l) (.s (.j [5, 6, 21, 22, 23] .l .l) .l))) .l) .l)) .l))))
def pk43 : List PK := [.c (.pair (.int .u8) (.pair (.int .u8) (.pair (.pair (.int .u8) (.int .u8)) (.pair (.pair (.int .u8) (.int .u8)) (.pair (.pair (.int .u8) (.int .u8)) (.pair (.pair (.int .u8) (.int .u8)) (.pair (.pair (.int .u8) (.int .u8)) (.pair (.pair (.int .u8) (.int .u8)) (.pair (.int .u8) (.int .u8)))))))))), .c (.int .i64)]
def rk43 : List RK := [.sl (.pair (.int .i64) (.int .i64)) 4]
noncomputable def rt43 (st : St) : Option R43 := rtG rk43 st
noncomputable def E43 (n : Nat × Nat) : Env := { T := tab, phi := noPhi, eff := fun _ => false, fuel := n.1, hold := n.2 }
noncomputable def kq43_1 (n : Nat × Nat) : St → Option R43 := run (E43 n) (cB (cB (cB (cB c43)))) (Ann.snd (Ann.snd (Ann.snd (Ann.snd an43)))) rt43 (fun _ _ => none) rt43
noncomputable def kc43_2 (n : Nat × Nat) : St → Option R43 := fun s => normC [5] s (kq43_1 n)
noncomputable def xb43_3 (n : Nat × Nat) : Nat → St → Option R43 := fun j s => bif Nat.beq j 0 then normC [5] s (kq43_1 n) else (fun _ _ => none) j s
noncomputable def F43_4 (n : Nat × Nat) : (St → Option R43) → St → Option R43 := fun K s => run (E43 n) (cA (cA (cB (cA (cB (cB (cB c43))))))) (Ann.fst (Ann.fst (Ann.snd (Ann.fst (Ann.snd (Ann.snd (Ann.snd an43))))))) (fun s => normC [5, 6, 21, 22, 23] s K) (xb43_3 n) rt43 s
noncomputable def kq43_5 (n : Nat × Nat) (m1 : Nat) : St → Option R43 := run (E43 n) (cB (cB (cA (cA (cB (cA (cB (cB (cB c43))))))))) (Ann.snd (Ann.snd (Ann.fst (Ann.fst (Ann.snd (Ann.fst (Ann.snd (Ann.snd (Ann.snd an43))))))))) (fun s => normC [5, 6, 21, 22, 23] s (loopN (F43_4 n) m1)) (xb43_3 n) rt43
noncomputable def kc43_6 (n : Nat × Nat) (m1 : Nat) : St → Option R43 := fun s => normC [5, 6, 21, 22, 23] s (kq43_5 n m1)
noncomputable def kq43_7 (n : Nat × Nat) (m1 : Nat) : St → Option R43 := run (E43 n) (cB (cB (cB (cA (cA (cB (cA (cB (cB (cB c43)))))))))) (Ann.snd (Ann.snd (Ann.snd (Ann.fst (Ann.fst (Ann.snd (Ann.fst (Ann.snd (Ann.snd (Ann.snd an43)))))))))) (fun s => normC [5, 6, 21, 22, 23] s (loopN (F43_4 n) m1)) (xb43_3 n) rt43
noncomputable def kc43_8 (n : Nat × Nat) (m1 : Nat) : St → Option R43 := fun s => normC [5, 6, 21, 22, 23] s (kq43_7 n m1)
noncomputable def xb43_9 (n : Nat × Nat) (m1 : Nat) : Nat → St → Option R43 := fun j s => bif Nat.beq j 1 then normC [5, 6, 21, 22, 23] s (kq43_7 n m1) else (xb43_3 n) j s
noncomputable def L43_1 (n : Nat × Nat) (m : Nat) (top6 : Int) (v21 : List (Int × Int)) (v22 : Int) (v23 : Int) (out5 : List (Int × Int)) : Option R43 := loopN (F43_4 n) m { tm := [uu, uu, uu, uu, uu, .own 5 none false, .c (.int .i64 top6), uu, uu, uu, uu, uu, uu, uu, uu, uu, uu, uu, uu, uu, uu, .c (.sl (.pair (.int .u8) (.int .u8)) v21 false), .c (.int .i64 v22), .c (.int .i64 v23), uu, uu, uu, uu, uu, uu, uu, uu, uu, uu, uu, uu, uu, uu, uu, uu, uu, uu, uu, uu, uu], hp := (upd emp 5 (.arr (.pair (.int .i64) (.int .i64)) out5 true)) }
theorem L43_1_eq (n : Nat × Nat) (m1 : Nat) (top6 : Int) (v21 : List (Int × Int)) (v22 : Int) (v23 : Int) (out5 : List (Int × Int)) : L43_1 n (m1 + 1) top6 v21 v22 v23 out5 =
    (bif decide (v23 < v22) then (idx v21 v23).bind fun x1' =>
      (bif inB 0 2 then (idx [x1'.1, x1'.2] 0).bind fun x2' =>
        (bif (wr .i64 (top6 + 1)) == 0 then none
        else (bif inB 1 2 then (idx [x1'.1, x1'.2] 1).bind fun x3' =>
            (bif (wr .i64 (top6 + 1)) == 0 then none
            else (bif decide (out5.length + [(Int.tmod (wr .i64 x2') (wr .i64 (top6 + 1)), Int.tmod (wr .i64 x3') (wr .i64 (top6 + 1)))].length ≤ lim) then L43_1 n m1 top6 v21 v22 (wr .i64 (v23 + 1)) (out5 ++ [(Int.tmod (wr .i64 x2') (wr .i64 (top6 + 1)), Int.tmod (wr .i64 x3') (wr .i64 (top6 + 1)))])
              else none))
          else none))
      else none)
    else some out5) := by kernel_rfl
noncomputable def S43 (n : Nat × Nat) (f0 : Int × Int × (Int × Int) × (Int × Int) × (Int × Int) × (Int × Int) × (Int × Int) × (Int × Int) × Int × Int) (most1 : Int) : Option R43 := run (E43 n) c43 an43 rt43 (fun _ _ => none) rt43 { tm := [.agg [.int .u8 f0.1, .int .u8 f0.2.1, .int .u8 f0.2.2.1.1, .int .u8 f0.2.2.1.2, .int .u8 f0.2.2.2.1.1, .int .u8 f0.2.2.2.1.2, .int .u8 f0.2.2.2.2.1.1, .int .u8 f0.2.2.2.2.1.2, .int .u8 f0.2.2.2.2.2.1.1, .int .u8 f0.2.2.2.2.2.1.2, .int .u8 f0.2.2.2.2.2.2.1.1, .int .u8 f0.2.2.2.2.2.2.1.2, .int .u8 f0.2.2.2.2.2.2.2.1.1, .int .u8 f0.2.2.2.2.2.2.2.1.2, .int .u8 f0.2.2.2.2.2.2.2.2.1, .int .u8 f0.2.2.2.2.2.2.2.2.2], .c (.int .i64 most1), uu, uu, uu, uu, uu, uu, uu, uu, uu, uu, uu, uu, uu, uu, uu, uu, uu, uu, uu, uu, uu, uu, uu, uu, uu, uu, uu, uu, uu, uu, uu, uu, uu, uu, uu, uu, uu, uu, uu, uu, uu, uu, uu], hp := emp }
theorem S43_eq (n : Nat × Nat) (f0 : Int × Int × (Int × Int) × (Int × Int) × (Int × Int) × (Int × Int) × (Int × Int) × (Int × Int) × Int × Int) (most1 : Int) : S43 n f0 most1 =
    (bif 50 == 0 then none
    else (bif most1 == 0 then none
      else (bif bounds none (some (wr .i64 (1 + (Int.tmod (wr .i64 f0.1) most1)))) none 7 then L43_1 n n.1 (wr .i64 ((Int.tmod (wr .i64 f0.2.1) 50) + 1)) ([f0.2.2.1, f0.2.2.2.1, f0.2.2.2.2.1, f0.2.2.2.2.2.1, f0.2.2.2.2.2.2.1, f0.2.2.2.2.2.2.2.1, f0.2.2.2.2.2.2.2.2].take (Int.toNat (wr .i64 (1 + (Int.tmod (wr .i64 f0.1) most1))))) (([f0.2.2.1, f0.2.2.2.1, f0.2.2.2.2.1, f0.2.2.2.2.2.1, f0.2.2.2.2.2.2.1, f0.2.2.2.2.2.2.2.1, f0.2.2.2.2.2.2.2.2].take (Int.toNat (wr .i64 (1 + (Int.tmod (wr .i64 f0.1) most1))))).length : Int) 0 []
        else none))) := by kernel_rfl
theorem S43_run (n : Nat × Nat) (xs : pksDen pk43) : S43 n xs.1 xs.2.1 = runG (E43 n) noScope c43 an43 (rtG rk43) (fun _ _ => none) (rtG rk43) (st0 pk43 xs Try.f43.ntmps) := by kernel_rfl
noncomputable def P43 (n : Nat × Nat) := phiOf pk43 rk43 (fun xs => S43 n xs.1 xs.2.1)
theorem call43 : CallOK Try.prog 43 := callOK_of Try.func43 (by kernel_rfl) (by kernel_rfl)
theorem env43 (n : Nat × Nat) : EnvOK Try.prog (E43 n) := envOK0 noPhi_ok rfl rfl
theorem par43 (n : Nat × Nat) : EnvPar (E43 n) := envPar0 noPhi_par rfl
theorem FC43 (n : Nat × Nat) : FCs Try.prog 43 (P43 n) := phiOf_FCs fun xs r h vs hv => FC.of_runG tabOK eqsOK (env43 n) (par43 n) mixed (fun _ => noScope_ok) Try.func43 (c := c43) (an := an43) (pks := pk43) (rks := rk43) (by kernel_rfl) (by kernel_rfl) hv ((S43_run n xs).symm.trans h)
end Go.Proofs.Ytnlbhjmbaedadaa
set_option linter.unusedVariables false
set_option linter.unusedSimpArgs false
set_option maxRecDepth 100000
namespace Go.Proofs.Ytnlbhjmbaedadaa
open Go.Vi
/- headword/headwordlaw07.printed -/
abbrev R49 := List Int
noncomputable def c49 : Code := bodyOf Try.f49
noncomputable def an49 : Ann := (.s .l (.s .l (.s (.s .l (.j [5] (.j [0, 1, 5, 15, 16] (.s .l (.s (.j [0, 1, 5, 15, 16] .l .l) (.s (.j [0, 1, 5, 15, 16] (.s .l (.s .l (.s (.s .l (.j [0, 1, 5, 7, 15, 16] (.j [0, 1, 5, 6, 7, 15, 16, 20, 21] (.s .l (.s (.j [0, 1, 5, 6, 7, 15, 16, 20, 21] .l .l) (.s (.j [0, 1, 5, 6, 7, 15, 16, 20, 21] (.s .l (.s .l (.s (.s .l (.j [0, 1, 5, 6, 7, 8, 9, 15, 16, 20, 21] (.j [0, 1, 5, 6, 7, 8, 9, 15, 16, 20, 21, 27, 28, 29] (.s .l (.s (.j [0, 1, 5, 6, 7, 8, 9, 15, 16, 20, 21, 27, 28, 29] .l .l) (.s (.j [0, 1, 5, 6, 7, 8, 9, 15, 16, 20, 21, 27, 28, 29] .l .l) .l))) .l) .l)) (.s (.s .l (.j [0, 1, 5, 6, 7, 9, 15, 16, 20, 21] (.j [0, 1, 5, 6, 7, 9, 15, 16, 20, 21, 45, 46, 47] (.s .l (.s (.j [0, 1, 5, 6, 7, 9, 15, 16, 20, 21, 45, 46, 47] .l .l) (.s (.j [0, 1, 5, 6, 7, 9, 15, 16, 20, 21, 45, 46, 47] .l .l) .l))) .l) .l)) .l)))) .l) .l))) .l) .l)) .l))) .l) .l))) .l) .l)) .l)))
def pk49 : List PK := [.c (.sl (.pair (.int .i64) (.int .i64))), .c (.sl (.int .i64))]
def rk49 : List RK := [.own (.int .i64) 4]
noncomputable def rt49 (st : St) : Option R49 := rtG rk49 st
noncomputable def E49 (n : Nat × Nat) : Env := { T := tab, phi := noPhi, eff := fun _ => false, fuel := n.1, hold := n.2 }
noncomputable def kq49_1 (n : Nat × Nat) : St → Option R49 := run (E49 n) (cB (cB (cB c49))) (Ann.snd (Ann.snd (Ann.snd an49))) rt49 (fun _ _ => none) rt49
noncomputable def kc49_2 (n : Nat × Nat) : St → Option R49 := fun s => normC [5] s (kq49_1 n)
noncomputable def xb49_3 (n : Nat × Nat) : Nat → St → Option R49 := fun j s => bif Nat.beq j 0 then normC [5] s (kq49_1 n) else (fun _ _ => none) j s
noncomputable def F49_4 (n : Nat × Nat) : (St → Option R49) → St → Option R49 := fun K s => run (E49 n) (cA (cA (cB (cA (cB (cB c49)))))) (Ann.fst (Ann.fst (Ann.snd (Ann.fst (Ann.snd (Ann.snd an49)))))) (fun s => normC [0, 1, 5, 15, 16] s K) (xb49_3 n) rt49 s
noncomputable def kq49_5 (n : Nat × Nat) (m1 : Nat) : St → Option R49 := run (E49 n) (cB (cB (cA (cA (cB (cA (cB (cB c49)))))))) (Ann.snd (Ann.snd (Ann.fst (Ann.fst (Ann.snd (Ann.fst (Ann.snd (Ann.snd an49)))))))) (fun s => normC [0, 1, 5, 15, 16] s (loopN (F49_4 n) m1)) (xb49_3 n) rt49
noncomputable def kc49_6 (n : Nat × Nat) (m1 : Nat) : St → Option R49 := fun s => normC [0, 1, 5, 15, 16] s (kq49_5 n m1)
noncomputable def kq49_7 (n : Nat × Nat) (m1 : Nat) : St → Option R49 := run (E49 n) (cB (cB (cB (cA (cA (cB (cA (cB (cB c49))))))))) (Ann.snd (Ann.snd (Ann.snd (Ann.fst (Ann.fst (Ann.snd (Ann.fst (Ann.snd (Ann.snd an49))))))))) (fun s => normC [0, 1, 5, 15, 16] s (loopN (F49_4 n) m1)) (xb49_3 n) rt49
noncomputable def kc49_8 (n : Nat × Nat) (m1 : Nat) : St → Option R49 := fun s => normC [0, 1, 5, 15, 16] s (kq49_7 n m1)
noncomputable def xb49_9 (n : Nat × Nat) (m1 : Nat) : Nat → St → Option R49 := fun j s => bif Nat.beq j 1 then normC [0, 1, 5, 15, 16] s (kq49_7 n m1) else (xb49_3 n) j s
noncomputable def kq49_10 (n : Nat × Nat) (m1 : Nat) : St → Option R49 := run (E49 n) (cB (cB (cB (cA (cA (cB (cB (cA (cA (cB (cA (cB (cB c49))))))))))))) (Ann.snd (Ann.snd (Ann.snd (Ann.fst (Ann.fst (Ann.snd (Ann.snd (Ann.fst (Ann.fst (Ann.snd (Ann.fst (Ann.snd (Ann.snd an49))))))))))))) (kc49_8 n m1) (xb49_9 n m1) rt49
noncomputable def kc49_11 (n : Nat × Nat) (m1 : Nat) : St → Option R49 := fun s => normC [0, 1, 5, 7, 15, 16] s (kq49_10 n m1)
noncomputable def xb49_12 (n : Nat × Nat) (m1 : Nat) : Nat → St → Option R49 := fun j s => bif Nat.beq j 2 then normC [0, 1, 5, 7, 15, 16] s (kq49_10 n m1) else (xb49_9 n m1) j s
noncomputable def F49_13 (n : Nat × Nat) (m1 : Nat) : (St → Option R49) → St → Option R49 := fun K s => run (E49 n) (cA (cA (cB (cA (cB (cB (cA (cA (cB (cB (cA (cA (cB (cA (cB (cB c49)))))))))))))))) (Ann.fst (Ann.fst (Ann.snd (Ann.fst (Ann.snd (Ann.snd (Ann.fst (Ann.fst (Ann.snd (Ann.snd (Ann.fst (Ann.fst (Ann.snd (Ann.fst (Ann.snd (Ann.snd an49)))))))))))))))) (fun s => normC [0, 1, 5, 6, 7, 15, 16, 20, 21] s K) (xb49_12 n m1) rt49 s
noncomputable def kq49_14 (n : Nat × Nat) (m1 m2 : Nat) : St → Option R49 := run (E49 n) (cB (cB (cA (cA (cB (cA (cB (cB (cA (cA (cB (cB (cA (cA (cB (cA (cB (cB c49)))))))))))))))))) (Ann.snd (Ann.snd (Ann.fst (Ann.fst (Ann.snd (Ann.fst (Ann.snd (Ann.snd (Ann.fst (Ann.fst (Ann.snd (Ann.snd (Ann.fst (Ann.fst (Ann.snd (Ann.fst (Ann.snd (Ann.snd an49)))))))))))))))))) (fun s => normC [0, 1, 5, 6, 7, 15, 16, 20, 21] s (loopN (F49_13 n m1) m2)) (xb49_12 n m1) rt49
noncomputable def kc49_15 (n : Nat × Nat) (m1 m2 : Nat) : St → Option R49 := fun s => normC [0, 1, 5, 6, 7, 15, 16, 20, 21] s (kq49_14 n m1 m2)
noncomputable def kq49_16 (n : Nat × Nat) (m1 m2 : Nat) : St → Option R49 := run (E49 n) (cB (cB (cB (cA (cA (cB (cA (cB (cB (cA (cA (cB (cB (cA (cA (cB (cA (cB (cB c49))))))))))))))))))) (Ann.snd (Ann.snd (Ann.snd (Ann.fst (Ann.fst (Ann.snd (Ann.fst (Ann.snd (Ann.snd (Ann.fst (Ann.fst (Ann.snd (Ann.snd (Ann.fst (Ann.fst (Ann.snd (Ann.fst (Ann.snd (Ann.snd an49))))))))))))))))))) (fun s => normC [0, 1, 5, 6, 7, 15, 16, 20, 21] s (loopN (F49_13 n m1) m2)) (xb49_12 n m1) rt49
noncomputable def kc49_17 (n : Nat × Nat) (m1 m2 : Nat) : St → Option R49 := fun s => normC [0, 1, 5, 6, 7, 15, 16, 20, 21] s (kq49_16 n m1 m2)
noncomputable def xb49_18 (n : Nat × Nat) (m1 m2 : Nat) : Nat → St → Option R49 := fun j s => bif Nat.beq j 3 then normC [0, 1, 5, 6, 7, 15, 16, 20, 21] s (kq49_16 n m1 m2) else (xb49_12 n m1) j s
noncomputable def kq49_19 (n : Nat × Nat) (m1 m2 : Nat) : St → Option R49 := run (E49 n) (cB (cB (cB (cA (cA (cB (cB (cA (cA (cB (cA (cB (cB (cA (cA (cB (cB (cA (cA (cB (cA (cB (cB c49))))))))))))))))))))))) (Ann.snd (Ann.snd (Ann.snd (Ann.fst (Ann.fst (Ann.snd (Ann.snd (Ann.fst (Ann.fst (Ann.snd (Ann.fst (Ann.snd (Ann.snd (Ann.fst (Ann.fst (Ann.snd (Ann.snd (Ann.fst (Ann.fst (Ann.snd (Ann.fst (Ann.snd (Ann.snd an49))))))))))))))))))))))) (kc49_17 n m1 m2) (xb49_18 n m1 m2) rt49
noncomputable def kc49_20 (n : Nat × Nat) (m1 m2 : Nat) : St → Option R49 := fun s => normC [0, 1, 5, 6, 7, 8, 9, 15, 16, 20, 21] s (kq49_19 n m1 m2)
noncomputable def xb49_21 (n : Nat × Nat) (m1 m2 : Nat) : Nat → St → Option R49 := fun j s => bif Nat.beq j 4 then normC [0, 1, 5, 6, 7, 8, 9, 15, 16, 20, 21] s (kq49_19 n m1 m2) else (xb49_18 n m1 m2) j s
noncomputable def F49_22 (n : Nat × Nat) (m1 m2 : Nat) : (St → Option R49) → St → Option R49 := fun K s => run (E49 n) (cA (cA (cB (cA (cB (cB (cA (cA (cB (cB (cA (cA (cB (cA (cB (cB (cA (cA (cB (cB (cA (cA (cB (cA (cB (cB c49)))))))))))))))))))))))))) (Ann.fst (Ann.fst (Ann.snd (Ann.fst (Ann.snd (Ann.snd (Ann.fst (Ann.fst (Ann.snd (Ann.snd (Ann.fst (Ann.fst (Ann.snd (Ann.fst (Ann.snd (Ann.snd (Ann.fst (Ann.fst (Ann.snd (Ann.snd (Ann.fst (Ann.fst (Ann.snd (Ann.fst (Ann.snd (Ann.snd an49)))))))))))))))))))))))))) (fun s => normC [0, 1, 5, 6, 7, 8, 9, 15, 16, 20, 21, 27, 28, 29] s K) (xb49_21 n m1 m2) rt49 s
noncomputable def kq49_23 (n : Nat × Nat) (m1 m2 m3 : Nat) : St → Option R49 := run (E49 n) (cB (cB (cA (cA (cB (cA (cB (cB (cA (cA (cB (cB (cA (cA (cB (cA (cB (cB (cA (cA (cB (cB (cA (cA (cB (cA (cB (cB c49)))))))))))))))))))))))))))) (Ann.snd (Ann.snd (Ann.fst (Ann.fst (Ann.snd (Ann.fst (Ann.snd (Ann.snd (Ann.fst (Ann.fst (Ann.snd (Ann.snd (Ann.fst (Ann.fst (Ann.snd (Ann.fst (Ann.snd (Ann.snd (Ann.fst (Ann.fst (Ann.snd (Ann.snd (Ann.fst (Ann.fst (Ann.snd (Ann.fst (Ann.snd (Ann.snd an49)))))))))))))))))))))))))))) (fun s => normC [0, 1, 5, 6, 7, 8, 9, 15, 16, 20, 21, 27, 28, 29] s (loopN (F49_22 n m1 m2) m3)) (xb49_21 n m1 m2) rt49
noncomputable def kc49_24 (n : Nat × Nat) (m1 m2 m3 : Nat) : St → Option R49 := fun s => normC [0, 1, 5, 6, 7, 8, 9, 15, 16, 20, 21, 27, 28, 29] s (kq49_23 n m1 m2 m3)
noncomputable def kq49_25 (n : Nat × Nat) (m1 m2 m3 : Nat) : St → Option R49 := run (E49 n) (cB (cB (cB (cA (cA (cB (cA (cB (cB (cA (cA (cB (cB (cA (cA (cB (cA (cB (cB (cA (cA (cB (cB (cA (cA (cB (cA (cB (cB c49))))))))))))))))))))))))))))) (Ann.snd (Ann.snd (Ann.snd (Ann.fst (Ann.fst (Ann.snd (Ann.fst (Ann.snd (Ann.snd (Ann.fst (Ann.fst (Ann.snd (Ann.snd (Ann.fst (Ann.fst (Ann.snd (Ann.fst (Ann.snd (Ann.snd (Ann.fst (Ann.fst (Ann.snd (Ann.snd (Ann.fst (Ann.fst (Ann.snd (Ann.fst (Ann.snd (Ann.snd an49))))))))))))))))))))))))))))) (fun s => normC [0, 1, 5, 6, 7, 8, 9, 15, 16, 20, 21, 27, 28, 29] s (loopN (F49_22 n m1 m2) m3)) (xb49_21 n m1 m2) rt49
noncomputable def kc49_26 (n : Nat × Nat) (m1 m2 m3 : Nat) : St → Option R49 := fun s => normC [0, 1, 5, 6, 7, 8, 9, 15, 16, 20, 21, 27, 28, 29] s (kq49_25 n m1 m2 m3)
noncomputable def xb49_27 (n : Nat × Nat) (m1 m2 m3 : Nat) : Nat → St → Option R49 := fun j s => bif Nat.beq j 5 then normC [0, 1, 5, 6, 7, 8, 9, 15, 16, 20, 21, 27, 28, 29] s (kq49_25 n m1 m2 m3) else (xb49_21 n m1 m2) j s
noncomputable def kq49_28 (n : Nat × Nat) (m1 m2 : Nat) : St → Option R49 := run (E49 n) (cB (cB (cB (cB (cA (cA (cB (cB (cA (cA (cB (cA (cB (cB (cA (cA (cB (cB (cA (cA (cB (cA (cB (cB c49)))))))))))))))))))))))) (Ann.snd (Ann.snd (Ann.snd (Ann.snd (Ann.fst (Ann.fst (Ann.snd (Ann.snd (Ann.fst (Ann.fst (Ann.snd (Ann.fst (Ann.snd (Ann.snd (Ann.fst (Ann.fst (Ann.snd (Ann.snd (Ann.fst (Ann.fst (Ann.snd (Ann.fst (Ann.snd (Ann.snd an49)))))))))))))))))))))))) (kc49_17 n m1 m2) (xb49_18 n m1 m2) rt49
noncomputable def kc49_29 (n : Nat × Nat) (m1 m2 : Nat) : St → Option R49 := fun s => normC [0, 1, 5, 6, 7, 9, 15, 16, 20, 21] s (kq49_28 n m1 m2)
noncomputable def xb49_30 (n : Nat × Nat) (m1 m2 : Nat) : Nat → St → Option R49 := fun j s => bif Nat.beq j 6 then normC [0, 1, 5, 6, 7, 9, 15, 16, 20, 21] s (kq49_28 n m1 m2) else (xb49_18 n m1 m2) j s
noncomputable def F49_31 (n : Nat × Nat) (m1 m2 : Nat) : (St → Option R49) → St → Option R49 := fun K s => run (E49 n) (cA (cA (cB (cA (cB (cB (cB (cA (cA (cB (cB (cA (cA (cB (cA (cB (cB (cA (cA (cB (cB (cA (cA (cB (cA (cB (cB c49))))))))))))))))))))))))))) (Ann.fst (Ann.fst (Ann.snd (Ann.fst (Ann.snd (Ann.snd (Ann.snd (Ann.fst (Ann.fst (Ann.snd (Ann.snd (Ann.fst (Ann.fst (Ann.snd (Ann.fst (Ann.snd (Ann.snd (Ann.fst (Ann.fst (Ann.snd (Ann.snd (Ann.fst (Ann.fst (Ann.snd (Ann.fst (Ann.snd (Ann.snd an49))))))))))))))))))))))))))) (fun s => normC [0, 1, 5, 6, 7, 9, 15, 16, 20, 21, 45, 46, 47] s K) (xb49_30 n m1 m2) rt49 s
noncomputable def kq49_32 (n : Nat × Nat) (m1 m2 m3 : Nat) : St → Option R49 := run (E49 n) (cB (cB (cA (cA (cB (cA (cB (cB (cB (cA (cA (cB (cB (cA (cA (cB (cA (cB (cB (cA (cA (cB (cB (cA (cA (cB (cA (cB (cB c49))))))))))))))))))))))))))))) (Ann.snd (Ann.snd (Ann.fst (Ann.fst (Ann.snd (Ann.fst (Ann.snd (Ann.snd (Ann.snd (Ann.fst (Ann.fst (Ann.snd (Ann.snd (Ann.fst (Ann.fst (Ann.snd (Ann.fst (Ann.snd (Ann.snd (Ann.fst (Ann.fst (Ann.snd (Ann.snd (Ann.fst (Ann.fst (Ann.snd (Ann.fst (Ann.snd (Ann.snd an49))))))))))))))))))))))))))))) (fun s => normC [0, 1, 5, 6, 7, 9, 15, 16, 20, 21, 45, 46, 47] s (loopN (F49_31 n m1 m2) m3)) (xb49_30 n m1 m2) rt49
noncomputable def kc49_33 (n : Nat × Nat) (m1 m2 m3 : Nat) : St → Option R49 := fun s => normC [0, 1, 5, 6, 7, 9, 15, 16, 20, 21, 45, 46, 47] s (kq49_32 n m1 m2 m3)
noncomputable def kq49_34 (n : Nat × Nat) (m1 m2 m3 : Nat) : St → Option R49 := run (E49 n) (cB (cB (cB (cA (cA (cB (cA (cB (cB (cB (cA (cA (cB (cB (cA (cA (cB (cA (cB (cB (cA (cA (cB (cB (cA (cA (cB (cA (cB (cB c49)))))))))))))))))))))))))))))) (Ann.snd (Ann.snd (Ann.snd (Ann.fst (Ann.fst (Ann.snd (Ann.fst (Ann.snd (Ann.snd (Ann.snd (Ann.fst (Ann.fst (Ann.snd (Ann.snd (Ann.fst (Ann.fst (Ann.snd (Ann.fst (Ann.snd (Ann.snd (Ann.fst (Ann.fst (Ann.snd (Ann.snd (Ann.fst (Ann.fst (Ann.snd (Ann.fst (Ann.snd (Ann.snd an49)))))))))))))))))))))))))))))) (fun s => normC [0, 1, 5, 6, 7, 9, 15, 16, 20, 21, 45, 46, 47] s (loopN (F49_31 n m1 m2) m3)) (xb49_30 n m1 m2) rt49
noncomputable def kc49_35 (n : Nat × Nat) (m1 m2 m3 : Nat) : St → Option R49 := fun s => normC [0, 1, 5, 6, 7, 9, 15, 16, 20, 21, 45, 46, 47] s (kq49_34 n m1 m2 m3)
noncomputable def xb49_36 (n : Nat × Nat) (m1 m2 m3 : Nat) : Nat → St → Option R49 := fun j s => bif Nat.beq j 7 then normC [0, 1, 5, 6, 7, 9, 15, 16, 20, 21, 45, 46, 47] s (kq49_34 n m1 m2 m3) else (xb49_30 n m1 m2) j s
noncomputable def L49_1 (n : Nat × Nat) (m : Nat) (l0 : List (Int × Int)) (order1 : List Int) (v15 : Int) (v16 : Int) (out5 : List Int) : Option R49 := loopN (F49_4 n) m { tm := [.c (.sl (.pair (.int .i64) (.int .i64)) l0 false), .c (.sl (.int .i64) order1 false), uu, uu, uu, .own 5 none false, uu, uu, uu, uu, uu, uu, uu, uu, uu, .c (.int .i64 v15), .c (.int .i64 v16), uu, uu, uu, uu, uu, uu, uu, uu, uu, uu, uu, uu, uu, uu, uu, uu, uu, uu, uu, uu, uu, uu, uu, uu, uu, uu, uu, uu, uu, uu, uu, uu, uu, uu, uu, uu, uu, uu, uu, uu, uu, uu, uu, uu, uu, uu, uu, uu, uu, uu, uu, uu], hp := (upd emp 5 (.arr (.int .i64) out5 true)) }
noncomputable def L49_2 (n : Nat × Nat) (m1 : Nat) (m : Nat) (l0 : List (Int × Int)) (order1 : List Int) (p6 : Int) (most7 : Int) (v15 : Int) (v16 : Int) (v20 : Int) (v21 : Int) (out5 : List Int) : Option R49 := loopN (F49_13 n m1) m { tm := [.c (.sl (.pair (.int .i64) (.int .i64)) l0 false), .c (.sl (.int .i64) order1 false), uu, uu, uu, .own 5 none false, .c (.int .i64 p6), .c (.int .i64 most7), uu, uu, uu, uu, uu, uu, uu, .c (.int .i64 v15), .c (.int .i64 v16), uu, uu, uu, .c (.int .i64 v20), .c (.int .i64 v21), uu, uu, uu, uu, uu, uu, uu, uu, uu, uu, uu, uu, uu, uu, uu, uu, uu, uu, uu, uu, uu, uu, uu, uu, uu, uu, uu, uu, uu, uu, uu, uu, uu, uu, uu, uu, uu, uu, uu, uu, uu, uu, uu, uu, uu, uu, uu], hp := (upd emp 5 (.arr (.int .i64) out5 true)) }
noncomputable def L49_3 (n : Nat × Nat) (m1 m2 : Nat) (m : Nat) (l0 : List (Int × Int)) (order1 : List Int) (p6 : Int) (most7 : Int) (q8 : Int) (v9 : Int) (v15 : Int) (v16 : Int) (v20 : Int) (v21 : Int) (v27 : List Int) (v28 : Int) (v29 : Int) (out5 : List Int) : Option R49 := loopN (F49_22 n m1 m2) m { tm := [.c (.sl (.pair (.int .i64) (.int .i64)) l0 false), .c (.sl (.int .i64) order1 false), uu, uu, uu, .own 5 none false, .c (.int .i64 p6), .c (.int .i64 most7), .c (.int .i64 q8), .c (.int .i64 v9), uu, uu, uu, uu, uu, .c (.int .i64 v15), .c (.int .i64 v16), uu, uu, uu, .c (.int .i64 v20), .c (.int .i64 v21), uu, uu, uu, uu, uu, .c (.sl (.int .i64) v27 false), .c (.int .i64 v28), .c (.int .i64 v29), uu, uu, uu, uu, uu, uu, uu, uu, uu, uu, uu, uu, uu, uu, uu, uu, uu, uu, uu, uu, uu, uu, uu, uu, uu, uu, uu, uu, uu, uu, uu, uu, uu, uu, uu, uu, uu, uu, uu], hp := (upd emp 5 (.arr (.int .i64) out5 true)) }
noncomputable def L49_4 (n : Nat × Nat) (m1 m2 : Nat) (m : Nat) (l0 : List (Int × Int)) (order1 : List Int) (p6 : Int) (most7 : Int) (v9 : Int) (v15 : Int) (v16 : Int) (v20 : Int) (v21 : Int) (v45 : List Int) (v46 : Int) (v47 : Int) (out5 : List Int) : Option R49 := loopN (F49_31 n m1 m2) m { tm := [.c (.sl (.pair (.int .i64) (.int .i64)) l0 false), .c (.sl (.int .i64) order1 false), uu, uu, uu, .own 5 none false, .c (.int .i64 p6), .c (.int .i64 most7), uu, .c (.int .i64 v9), uu, uu, uu, uu, uu, .c (.int .i64 v15), .c (.int .i64 v16), uu, uu, uu, .c (.int .i64 v20), .c (.int .i64 v21), uu, uu, uu, uu, uu, uu, uu, uu, uu, uu, uu, uu, uu, uu, uu, uu, uu, uu, uu, uu, uu, uu, uu, .c (.sl (.int .i64) v45 false), .c (.int .i64 v46), .c (.int .i64 v47), uu, uu, uu, uu, uu, uu, uu, uu, uu, uu, uu, uu, uu, uu, uu, uu, uu, uu, uu, uu, uu], hp := (upd emp 5 (.arr (.int .i64) out5 true)) }
theorem L49_1_eq (n : Nat × Nat) (m1 : Nat) (l0 : List (Int × Int)) (order1 : List Int) (v15 : Int) (v16 : Int) (out5 : List Int) : L49_1 n (m1 + 1) l0 order1 v15 v16 out5 =
    (bif decide (v16 < v15) then L49_2 n m1 n.1 l0 order1 v16 0 v15 v16 (wr .i64 (v16 + 1)) 0 out5
    else some out5) := by kernel_rfl
theorem L49_2_eq (n : Nat × Nat) (m1 m2 : Nat) (l0 : List (Int × Int)) (order1 : List Int) (p6 : Int) (most7 : Int) (v15 : Int) (v16 : Int) (v20 : Int) (v21 : Int) (out5 : List Int) : L49_2 n m1 (m2 + 1) l0 order1 p6 most7 v15 v16 v20 v21 out5 =
    (bif decide (v21 < v20) then (bif bounds none (some (wr .i64 (v21 + 1))) none order1.length then L49_3 n m1 m2 n.1 l0 order1 p6 most7 v21 0 v15 v16 v20 v21 (order1.take (Int.toNat (wr .i64 (v21 + 1)))) ((order1.take (Int.toNat (wr .i64 (v21 + 1)))).length : Int) 0 out5
      else none)
    else (bif decide (out5.length + [most7].length ≤ lim) then L49_1 n m1 l0 order1 v15 (wr .i64 (v16 + 1)) (out5 ++ [most7])
      else none)) := by kernel_rfl
theorem L49_3_eq (n : Nat × Nat) (m1 m2 m3 : Nat) (l0 : List (Int × Int)) (order1 : List Int) (p6 : Int) (most7 : Int) (q8 : Int) (v9 : Int) (v15 : Int) (v16 : Int) (v20 : Int) (v21 : Int) (v27 : List Int) (v28 : Int) (v29 : Int) (out5 : List Int) : L49_3 n m1 m2 (m3 + 1) l0 order1 p6 most7 q8 v9 v15 v16 v20 v21 v27 v28 v29 out5 =
    (bif decide (v29 < v28) then (idx v27 v29).bind fun x1' =>
      (idx l0 x1').bind fun x2' =>
      L49_3 n m1 m2 m3 l0 order1 p6 most7 q8 (wr .i64 (v9 + x2'.1)) v15 v16 v20 v21 v27 v28 (wr .i64 (v29 + 1)) out5
    else (bif bounds (some q8) (some (wr .i64 (p6 + 1))) none order1.length then L49_4 n m1 m2 n.1 l0 order1 p6 most7 v9 v15 v16 v20 v21 ((order1.take (Int.toNat (wr .i64 (p6 + 1)))).drop (Int.toNat q8)) (((order1.take (Int.toNat (wr .i64 (p6 + 1)))).drop (Int.toNat q8)).length : Int) 0 out5
      else none)) := by kernel_rfl
theorem L49_4_eq (n : Nat × Nat) (m1 m2 m3 : Nat) (l0 : List (Int × Int)) (order1 : List Int) (p6 : Int) (most7 : Int) (v9 : Int) (v15 : Int) (v16 : Int) (v20 : Int) (v21 : Int) (v45 : List Int) (v46 : Int) (v47 : Int) (out5 : List Int) : L49_4 n m1 m2 (m3 + 1) l0 order1 p6 most7 v9 v15 v16 v20 v21 v45 v46 v47 out5 =
    (bif decide (v47 < v46) then (idx v45 v47).bind fun x3' =>
      (idx l0 x3').bind fun x4' =>
      L49_4 n m1 m2 m3 l0 order1 p6 most7 (wr .i64 (v9 + x4'.2)) v15 v16 v20 v21 v45 v46 (wr .i64 (v47 + 1)) out5
    else L49_2 n m1 m2 l0 order1 p6 (if v9 > most7 then v9 else most7) v15 v16 v20 (wr .i64 (v21 + 1)) out5) := by kernel_rfl
noncomputable def S49 (n : Nat × Nat) (l0 : List (Int × Int)) (order1 : List Int) : Option R49 := run (E49 n) c49 an49 rt49 (fun _ _ => none) rt49 { tm := [.c (.sl (.pair (.int .i64) (.int .i64)) l0 false), .c (.sl (.int .i64) order1 false), uu, uu, uu, uu, uu, uu, uu, uu, uu, uu, uu, uu, uu, uu, uu, uu, uu, uu, uu, uu, uu, uu, uu, uu, uu, uu, uu, uu, uu, uu, uu, uu, uu, uu, uu, uu, uu, uu, uu, uu, uu, uu, uu, uu, uu, uu, uu, uu, uu, uu, uu, uu, uu, uu, uu, uu, uu, uu, uu, uu, uu, uu, uu, uu, uu, uu, uu], hp := emp }
theorem S49_eq (n : Nat × Nat) (l0 : List (Int × Int)) (order1 : List Int) : S49 n l0 order1 =
    L49_1 n n.1 l0 order1 (order1.length : Int) 0 [] := by kernel_rfl
theorem S49_run (n : Nat × Nat) (xs : pksDen pk49) : S49 n xs.1 xs.2.1 = runG (E49 n) noScope c49 an49 (rtG rk49) (fun _ _ => none) (rtG rk49) (st0 pk49 xs Try.f49.ntmps) := by kernel_rfl
noncomputable def P49 (n : Nat × Nat) := phiOf pk49 rk49 (fun xs => S49 n xs.1 xs.2.1)
theorem call49 : CallOK Try.prog 49 := callOK_of Try.func49 (by kernel_rfl) (by kernel_rfl)
theorem env49 (n : Nat × Nat) : EnvOK Try.prog (E49 n) := envOK0 noPhi_ok rfl rfl
theorem par49 (n : Nat × Nat) : EnvPar (E49 n) := envPar0 noPhi_par rfl
theorem FC49 (n : Nat × Nat) : FCs Try.prog 49 (P49 n) := phiOf_FCs fun xs r h vs hv => FC.of_runG tabOK eqsOK (env49 n) (par49 n) mixed (fun _ => noScope_ok) Try.func49 (c := c49) (an := an49) (pks := pk49) (rks := rk49) (by kernel_rfl) (by kernel_rfl) hv ((S49_run n xs).symm.trans h)
end Go.Proofs.Ytnlbhjmbaedadaa
set_option linter.unusedVariables false
set_option linter.unusedSimpArgs false
set_option maxRecDepth 100000
namespace Go.Proofs.Ytnlbhjmbaedadaa
open Go.Vi
/- headword/headwordlaw07.time -/
abbrev R46 := Int
noncomputable def c46 : Code := bodyOf Try.f46
noncomputable def an46 : Ann := .l
def pk46 : List PK := [.c (.sl (.pair (.int .i64) (.int .i64))), .c (.sl (.int .i64))]
def rk46 : List RK := [.c (.int .i64) 4]
noncomputable def rt46 (st : St) : Option R46 := rtG rk46 st
noncomputable def E46 (n : Nat × Nat) : Env := { T := tab, phi := (consPhi 49 (fun _ => true) (P49 n) noPhi), eff := fun _ => false, fuel := n.1, hold := n.2 }
noncomputable def S46 (n : Nat × Nat) (l0 : List (Int × Int)) (order1 : List Int) : Option R46 := run (E46 n) c46 an46 rt46 (fun _ _ => none) rt46 { tm := [.c (.sl (.pair (.int .i64) (.int .i64)) l0 false), .c (.sl (.int .i64) order1 false), uu, uu, uu, uu, uu, uu, uu, uu, uu, uu, uu], hp := emp }
theorem S46_eq (n : Nat × Nat) (l0 : List (Int × Int)) (order1 : List Int) : S46 n l0 order1 =
    (S49 n l0 order1).bind fun r1' =>
    (bif inB (wr .i64 ((order1.length : Int) - 1)) r1'.length then (idx r1' (wr .i64 ((order1.length : Int) - 1))).bind fun x2' =>
      some x2'
    else none) := by kernel_rfl
theorem S46_run (n : Nat × Nat) (xs : pksDen pk46) : S46 n xs.1 xs.2.1 = runG (E46 n) noScope c46 an46 (rtG rk46) (fun _ _ => none) (rtG rk46) (st0 pk46 xs Try.f46.ntmps) := by kernel_rfl
noncomputable def P46 (n : Nat × Nat) := phiOf pk46 rk46 (fun xs => S46 n xs.1 xs.2.1)
theorem call46 : CallOK Try.prog 46 := callOK_of Try.func46 (by kernel_rfl) (by kernel_rfl)
theorem env46 (n : Nat × Nat) : EnvOK Try.prog (E46 n) := envOK0 (consPhi_ok (FC49 n) call49 noPhi_ok) rfl rfl
theorem par46 (n : Nat × Nat) : EnvPar (E46 n) := envPar0 (consPhi_par phiOf_Par1 noPhi_par) rfl
theorem FC46 (n : Nat × Nat) : FCs Try.prog 46 (P46 n) := phiOf_FCs fun xs r h vs hv => FC.of_runG tabOK eqsOK (env46 n) (par46 n) mixed (fun _ => noScope_ok) Try.func46 (c := c46) (an := an46) (pks := pk46) (rks := rk46) (by kernel_rfl) (by kernel_rfl) hv ((S46_run n xs).symm.trans h)
end Go.Proofs.Ytnlbhjmbaedadaa
set_option linter.unusedVariables false
set_option linter.unusedSimpArgs false
set_option maxRecDepth 100000
namespace Go.Proofs.Ytnlbhjmbaedadaa
open Go.Vi
/- headword/headwordlaw07.order -/
abbrev R48 := List Int
noncomputable def c48 : Code := bodyOf Try.f48
noncomputable def an48 : Ann := (.s .l (.s .l (.s (.s .l (.j [5] (.j [3, 5, 11, 12] (.s .l (.s (.j [3, 5, 11, 12] .l .l) (.s (.j [3, 5, 11, 12] .l .l) .l))) .l) .l)) .l)))
def pk48 : List PK := [.c (.int .i64), .c (.pair (.int .u8) (.pair (.int .u8) (.pair (.int .u8) (.pair (.int .u8) (.pair (.int .u8) (.pair (.int .u8) (.int .u8)))))))]
def rk48 : List RK := [.own (.int .i64) 4]
noncomputable def rt48 (st : St) : Option R48 := rtG rk48 st
noncomputable def E48 (n : Nat × Nat) : Env := { T := tab, phi := noPhi, eff := fun _ => false, fuel := n.1, hold := n.2 }
noncomputable def kq48_1 (n : Nat × Nat) : St → Option R48 := run (E48 n) (cB (cB (cB c48))) (Ann.snd (Ann.snd (Ann.snd an48))) rt48 (fun _ _ => none) rt48
noncomputable def kc48_2 (n : Nat × Nat) : St → Option R48 := fun s => normC [5] s (kq48_1 n)
noncomputable def xb48_3 (n : Nat × Nat) : Nat → St → Option R48 := fun j s => bif Nat.beq j 0 then normC [5] s (kq48_1 n) else (fun _ _ => none) j s
noncomputable def F48_4 (n : Nat × Nat) : (St → Option R48) → St → Option R48 := fun K s => run (E48 n) (cA (cA (cB (cA (cB (cB c48)))))) (Ann.fst (Ann.fst (Ann.snd (Ann.fst (Ann.snd (Ann.snd an48)))))) (fun s => normC [3, 5, 11, 12] s K) (xb48_3 n) rt48 s
noncomputable def kq48_5 (n : Nat × Nat) (m1 : Nat) : St → Option R48 := run (E48 n) (cB (cB (cA (cA (cB (cA (cB (cB c48)))))))) (Ann.snd (Ann.snd (Ann.fst (Ann.fst (Ann.snd (Ann.fst (Ann.snd (Ann.snd an48)))))))) (fun s => normC [3, 5, 11, 12] s (loopN (F48_4 n) m1)) (xb48_3 n) rt48
noncomputable def kc48_6 (n : Nat × Nat) (m1 : Nat) : St → Option R48 := fun s => normC [3, 5, 11, 12] s (kq48_5 n m1)
noncomputable def kq48_7 (n : Nat × Nat) (m1 : Nat) : St → Option R48 := run (E48 n) (cB (cB (cB (cA (cA (cB (cA (cB (cB c48))))))))) (Ann.snd (Ann.snd (Ann.snd (Ann.fst (Ann.fst (Ann.snd (Ann.fst (Ann.snd (Ann.snd an48))))))))) (fun s => normC [3, 5, 11, 12] s (loopN (F48_4 n) m1)) (xb48_3 n) rt48
noncomputable def kc48_8 (n : Nat × Nat) (m1 : Nat) : St → Option R48 := fun s => normC [3, 5, 11, 12] s (kq48_7 n m1)
noncomputable def xb48_9 (n : Nat × Nat) (m1 : Nat) : Nat → St → Option R48 := fun j s => bif Nat.beq j 1 then normC [3, 5, 11, 12] s (kq48_7 n m1) else (xb48_3 n) j s
noncomputable def L48_1 (n : Nat × Nat) (m : Nat) (v11 : Int) (v12 : Int) (v3_0 : Int) (v3_1 : Int) (v3_2 : Int) (v3_3 : Int) (v3_4 : Int) (v3_5 : Int) (v3_6 : Int) (to5 : List Int) : Option R48 := loopN (F48_4 n) m { tm := [uu, uu, uu, .ptr 3 0, uu, .own 5 none false, uu, uu, uu, uu, uu, .c (.int .i64 v11), .c (.int .i64 v12), uu, uu, uu, uu, uu, uu, uu, uu, uu, uu, uu, uu, uu, uu, uu, uu, uu, uu, uu, uu, uu, uu, uu, uu, uu, uu, uu, uu, uu], hp := (upd (upd emp 5 (.arr (.int .i64) to5 false)) 3 (.box [.int .u8 v3_0, .int .u8 v3_1, .int .u8 v3_2, .int .u8 v3_3, .int .u8 v3_4, .int .u8 v3_5, .int .u8 v3_6])) }
theorem L48_1_eq (n : Nat × Nat) (m1 : Nat) (v11 : Int) (v12 : Int) (v3_0 : Int) (v3_1 : Int) (v3_2 : Int) (v3_3 : Int) (v3_4 : Int) (v3_5 : Int) (v3_6 : Int) (to5 : List Int) : L48_1 n (m1 + 1) v11 v12 v3_0 v3_1 v3_2 v3_3 v3_4 v3_5 v3_6 to5 =
    (bif decide (v12 < v11) then (bif inB v12 to5.length then (idx to5 v12).bind fun x1' =>
        (bif inB v12 7 then (idx [v3_0, v3_1, v3_2, v3_3, v3_4, v3_5, v3_6] v12).bind fun x2' =>
          (bif (wr .i64 (v12 + 1)) == 0 then none
          else (bif inB (Int.tmod (wr .i64 x2') (wr .i64 (v12 + 1))) (to5.set (Int.toNat v12) v12).length then (idx (to5.set (Int.toNat v12) v12) (Int.tmod (wr .i64 x2') (wr .i64 (v12 + 1)))).bind fun x3' =>
              (bif inB v12 (to5.set (Int.toNat v12) v12).length then (idx (to5.set (Int.toNat v12) v12) v12).bind fun x4' =>
                (bif inB v12 (to5.set (Int.toNat v12) v12).length then (idx (to5.set (Int.toNat v12) v12) v12).bind fun x5' =>
                  (bif inB (Int.tmod (wr .i64 x2') (wr .i64 (v12 + 1))) ((to5.set (Int.toNat v12) v12).set (Int.toNat v12) x3').length then (idx ((to5.set (Int.toNat v12) v12).set (Int.toNat v12) x3') (Int.tmod (wr .i64 x2') (wr .i64 (v12 + 1)))).bind fun x6' =>
                    L48_1 n m1 v11 (wr .i64 (v12 + 1)) v3_0 v3_1 v3_2 v3_3 v3_4 v3_5 v3_6 (((to5.set (Int.toNat v12) v12).set (Int.toNat v12) x3').set (Int.toNat (Int.tmod (wr .i64 x2') (wr .i64 (v12 + 1)))) x4')
                  else none)
                else none)
              else none)
            else none))
        else none)
      else none)
    else some to5) := by kernel_rfl
noncomputable def S48 (n : Nat × Nat) (v0 : Int) (v1 : Int × Int × Int × Int × Int × Int × Int) : Option R48 := run (E48 n) c48 an48 rt48 (fun _ _ => none) rt48 { tm := [.c (.int .i64 v0), .agg [.int .u8 v1.1, .int .u8 v1.2.1, .int .u8 v1.2.2.1, .int .u8 v1.2.2.2.1, .int .u8 v1.2.2.2.2.1, .int .u8 v1.2.2.2.2.2.1, .int .u8 v1.2.2.2.2.2.2], uu, uu, uu, uu, uu, uu, uu, uu, uu, uu, uu, uu, uu, uu, uu, uu, uu, uu, uu, uu, uu, uu, uu, uu, uu, uu, uu, uu, uu, uu, uu, uu, uu, uu, uu, uu, uu, uu, uu, uu], hp := emp }
theorem S48_eq (n : Nat × Nat) (v0 : Int) (v1 : Int × Int × Int × Int × Int × Int × Int) : S48 n v0 v1 =
    (bif decide (0 ≤ v0) && decide (v0 ≤ v0) && decide (v0 ≤ lim) then L48_1 n n.1 ((List.replicate (Int.toNat v0) (0 : Int)).length : Int) 0 v1.1 v1.2.1 v1.2.2.1 v1.2.2.2.1 v1.2.2.2.2.1 v1.2.2.2.2.2.1 v1.2.2.2.2.2.2 (List.replicate (Int.toNat v0) (0 : Int))
    else none) := by kernel_rfl
theorem S48_run (n : Nat × Nat) (xs : pksDen pk48) : S48 n xs.1 xs.2.1 = runG (E48 n) noScope c48 an48 (rtG rk48) (fun _ _ => none) (rtG rk48) (st0 pk48 xs Try.f48.ntmps) := by kernel_rfl
noncomputable def P48 (n : Nat × Nat) := phiOf pk48 rk48 (fun xs => S48 n xs.1 xs.2.1)
theorem call48 : CallOK Try.prog 48 := callOK_of Try.func48 (by kernel_rfl) (by kernel_rfl)
theorem env48 (n : Nat × Nat) : EnvOK Try.prog (E48 n) := envOK0 noPhi_ok rfl rfl
theorem par48 (n : Nat × Nat) : EnvPar (E48 n) := envPar0 noPhi_par rfl
theorem FC48 (n : Nat × Nat) : FCs Try.prog 48 (P48 n) := phiOf_FCs fun xs r h vs hv => FC.of_runG tabOK eqsOK (env48 n) (par48 n) mixed (fun _ => noScope_ok) Try.func48 (c := c48) (an := an48) (pks := pk48) (rks := rk48) (by kernel_rfl) (by kernel_rfl) hv ((S48_run n xs).symm.trans h)
end Go.Proofs.Ytnlbhjmbaedadaa
set_option linter.unusedVariables false
set_option linter.unusedSimpArgs false
set_option maxRecDepth 100000
namespace Go.Proofs.Ytnlbhjmbaedadaa
open Go.Vi
/- headword/headwordlaw07.PressDone -/
abbrev R7 := Bool
noncomputable def c7 : Code := bodyOf Try.f7
noncomputable def an7 : Ann := (.s .l (.s .l (.s .l (.s .l (.s (.s .l (.j [5, 6, 7, 103, 104, 107, 108, 111, 112, 113, 114, 115, 118, 119, 120, 121, 122, 164, 165, 173] .l .l)) (.s .l (.s (.s .l (.j [5, 6, 11, 103, 104, 107, 108, 111, 112, 113, 114, 115, 118, 119, 120, 121, 122, 164, 165, 173] (.j [5, 6, 7, 10, 11, 54, 55, 56, 103, 104, 107, 108, 111, 112, 113, 114, 115, 118, 119, 120, 121, 122, 164, 165, 173] (.s .l (.s (.j [5, 6, 7, 10, 11, 54, 55, 56, 103, 104, 107, 108, 111, 112, 113, 114, 115, 118, 119, 120, 121, 122, 164, 165, 173] .l .l) (.s (.j [5, 6, 7, 10, 11, 54, 55, 56, 103, 104, 107, 108, 111, 112, 113, 114, 115, 118, 119, 120, 121, 122, 164, 165, 173] (.s .l (.s .l (.s .l (.s .l (.j [5, 6, 7, 10, 11, 54, 55, 56, 103, 104, 107, 108, 111, 112, 113, 114, 115, 118, 119, 120, 121, 122, 164, 165, 173] .l .l))))) .l) .l))) .l) .l)) (.s .l (.s .l (.s .l (.s (.s .l (.j [5, 6, 14, 17, 164, 165, 173] .l .l)) (.s .l (.s (.s .l (.j [17, 19, 173] (.j [5, 6, 14, 17, 19, 125, 126, 164, 165, 173] (.s .l (.s (.j [5, 6, 14, 17, 19, 125, 126, 164, 165, 173] .l .l) (.j [] (.j [5, 6, 14, 17, 19, 125, 126, 164, 165, 173] (.s .l (.s .l (.s (.s .l (.j [5, 6, 14, 17, 19, 20, 21, 125, 126, 164, 165, 173] (.j [5, 6, 14, 17, 19, 20, 21, 125, 126, 129, 130, 131, 164, 165, 173] (.s .l (.s (.j [5, 6, 14, 17, 19, 20, 21, 125, 126, 129, 130, 131, 164, 165, 173] .l .l) (.j [] (.j [5, 6, 14, 17, 19, 20, 21, 125, 126, 129, 130, 131, 164, 165, 173] (.s .l (.s (.s .l (.j [5, 6, 14, 17, 19, 20, 21, 22, 23, 125, 126, 129, 130, 131, 164, 165, 173] .l .l)) (.s .l (.j [5, 6, 14, 17, 19, 20, 21, 125, 126, 129, 130, 131, 164, 165, 173] .l .l)))) .l) .l))) .l) .l)) (.s (.s .l (.j [5, 6, 14, 17, 19, 20, 21, 125, 126, 164, 165, 173] .l .l)) (.s .l (.j [5, 6, 14, 17, 19, 125, 126, 164, 165, 173] .l .l)))))) .l) .l))) .l) .l)) .l)))))))))))))
def pk7 : List PK := [.c (.pair (.int .u8) (.pair (.int .u8) (.pair (.pair (.int .u8) (.int .u8)) (.pair (.pair (.int .u8) (.int .u8)) (.pair (.pair (.int .u8) (.int .u8)) (.pair (.pair (.int .u8) (.int .u8)) (.pair (.pair (.int .u8) (.int .u8)) (.pair (.pair (.int .u8) (.int .u8)) (.pair (.int .u8) (.int .u8)))))))))), .c (.pair (.int .u8) (.pair (.int .u8) (.pair (.int .u8) (.pair (.int .u8) (.pair (.int .u8) (.pair (.int .u8) (.int .u8)))))))]
def rk7 : List RK := [.c .bool 4]
noncomputable def rt7 (st : St) : Option R7 := rtG rk7 st
noncomputable def E7 (n : Nat × Nat) : Env := { T := tab, phi := (consPhi 14 (fun _ => true) (P14 n) (consPhi 16 (fun _ => true) (P16 n) (consPhi 18 (fun _ => true) (P18 n) (consPhi 19 (fun _ => true) (P19 n) (consPhi 21 (fun _ => true) (P21 n) (consPhi 23 (fun _ => true) (P23 n) (consPhi 43 (fun _ => true) (P43 n) (consPhi 46 (fun _ => true) (P46 n) (consPhi 48 (fun _ => true) (P48 n) (consPhi 49 (fun _ => true) (P49 n) noPhi)))))))))), eff := fun g => Nat.beq g 43, fuel := n.1, hold := n.2 }
noncomputable def kq7_1 (n : Nat × Nat) : St → Option R7 := run (E7 n) (cB (cB (cB (cB (cB c7))))) (Ann.snd (Ann.snd (Ann.snd (Ann.snd (Ann.snd an7))))) rt7 (fun _ _ => none) rt7
noncomputable def kc7_2 (n : Nat × Nat) : St → Option R7 := fun s => normC [5, 6, 7, 103, 104, 107, 108, 111, 112, 113, 114, 115, 118, 119, 120, 121, 122, 164, 165, 173] s (kq7_1 n)
noncomputable def kq7_3 (n : Nat × Nat) : St → Option R7 := run (E7 n) (cB (cB (cB (cB (cB (cB (cB c7))))))) (Ann.snd (Ann.snd (Ann.snd (Ann.snd (Ann.snd (Ann.snd (Ann.snd an7))))))) rt7 (fun _ _ => none) rt7
noncomputable def kc7_4 (n : Nat × Nat) : St → Option R7 := fun s => normC [5, 6, 11, 103, 104, 107, 108, 111, 112, 113, 114, 115, 118, 119, 120, 121, 122, 164, 165, 173] s (kq7_3 n)
noncomputable def xb7_5 (n : Nat × Nat) : Nat → St → Option R7 := fun j s => bif Nat.beq j 0 then normC [5, 6, 11, 103, 104, 107, 108, 111, 112, 113, 114, 115, 118, 119, 120, 121, 122, 164, 165, 173] s (kq7_3 n) else (fun _ _ => none) j s
noncomputable def F7_6 (n : Nat × Nat) : (St → Option R7) → St → Option R7 := fun K s => run (E7 n) (cA (cA (cB (cA (cB (cB (cB (cB (cB (cB c7)))))))))) (Ann.fst (Ann.fst (Ann.snd (Ann.fst (Ann.snd (Ann.snd (Ann.snd (Ann.snd (Ann.snd (Ann.snd an7)))))))))) (fun s => normC [5, 6, 7, 10, 11, 54, 55, 56, 103, 104, 107, 108, 111, 112, 113, 114, 115, 118, 119, 120, 121, 122, 164, 165, 173] s K) (xb7_5 n) rt7 s
noncomputable def kq7_7 (n : Nat × Nat) (m1 : Nat) : St → Option R7 := run (E7 n) (cB (cB (cA (cA (cB (cA (cB (cB (cB (cB (cB (cB c7)))))))))))) (Ann.snd (Ann.snd (Ann.fst (Ann.fst (Ann.snd (Ann.fst (Ann.snd (Ann.snd (Ann.snd (Ann.snd (Ann.snd (Ann.snd an7)))))))))))) (fun s => normC [5, 6, 7, 10, 11, 54, 55, 56, 103, 104, 107, 108, 111, 112, 113, 114, 115, 118, 119, 120, 121, 122, 164, 165, 173] s (loopN (F7_6 n) m1)) (xb7_5 n) rt7
noncomputable def kc7_8 (n : Nat × Nat) (m1 : Nat) : St → Option R7 := fun s => normC [5, 6, 7, 10, 11, 54, 55, 56, 103, 104, 107, 108, 111, 112, 113, 114, 115, 118, 119, 120, 121, 122, 164, 165, 173] s (kq7_7 n m1)
noncomputable def kq7_9 (n : Nat × Nat) (m1 : Nat) : St → Option R7 := run (E7 n) (cB (cB (cB (cA (cA (cB (cA (cB (cB (cB (cB (cB (cB c7))))))))))))) (Ann.snd (Ann.snd (Ann.snd (Ann.fst (Ann.fst (Ann.snd (Ann.fst (Ann.snd (Ann.snd (Ann.snd (Ann.snd (Ann.snd (Ann.snd an7))))))))))))) (fun s => normC [5, 6, 7, 10, 11, 54, 55, 56, 103, 104, 107, 108, 111, 112, 113, 114, 115, 118, 119, 120, 121, 122, 164, 165, 173] s (loopN (F7_6 n) m1)) (xb7_5 n) rt7
noncomputable def kc7_10 (n : Nat × Nat) (m1 : Nat) : St → Option R7 := fun s => normC [5, 6, 7, 10, 11, 54, 55, 56, 103, 104, 107, 108, 111, 112, 113, 114, 115, 118, 119, 120, 121, 122, 164, 165, 173] s (kq7_9 n m1)
noncomputable def xb7_11 (n : Nat × Nat) (m1 : Nat) : Nat → St → Option R7 := fun j s => bif Nat.beq j 1 then normC [5, 6, 7, 10, 11, 54, 55, 56, 103, 104, 107, 108, 111, 112, 113, 114, 115, 118, 119, 120, 121, 122, 164, 165, 173] s (kq7_9 n m1) else (xb7_5 n) j s
noncomputable def kc7_12 (n : Nat × Nat) (m1 : Nat) : St → Option R7 := fun s => normC [5, 6, 7, 10, 11, 54, 55, 56, 103, 104, 107, 108, 111, 112, 113, 114, 115, 118, 119, 120, 121, 122, 164, 165, 173] s (kc7_10 n m1)
noncomputable def kq7_13 (n : Nat × Nat) : St → Option R7 := run (E7 n) (cB (cB (cB (cB (cB (cB (cB (cB (cB (cB (cB c7))))))))))) (Ann.snd (Ann.snd (Ann.snd (Ann.snd (Ann.snd (Ann.snd (Ann.snd (Ann.snd (Ann.snd (Ann.snd (Ann.snd an7))))))))))) rt7 (fun _ _ => none) rt7
noncomputable def kc7_14 (n : Nat × Nat) : St → Option R7 := fun s => normC [5, 6, 14, 17, 164, 165, 173] s (kq7_13 n)
noncomputable def kq7_15 (n : Nat × Nat) : St → Option R7 := run (E7 n) (cB (cB (cB (cB (cB (cB (cB (cB (cB (cB (cB (cB (cB c7))))))))))))) (Ann.snd (Ann.snd (Ann.snd (Ann.snd (Ann.snd (Ann.snd (Ann.snd (Ann.snd (Ann.snd (Ann.snd (Ann.snd (Ann.snd (Ann.snd an7))))))))))))) rt7 (fun _ _ => none) rt7
noncomputable def kc7_16 (n : Nat × Nat) : St → Option R7 := fun s => normC [17, 19, 173] s (kq7_15 n)
noncomputable def xb7_17 (n : Nat × Nat) : Nat → St → Option R7 := fun j s => bif Nat.beq j 2 then normC [17, 19, 173] s (kq7_15 n) else (fun _ _ => none) j s
noncomputable def F7_18 (n : Nat × Nat) : (St → Option R7) → St → Option R7 := fun K s => run (E7 n) (cA (cA (cB (cA (cB (cB (cB (cB (cB (cB (cB (cB (cB (cB (cB (cB c7)))))))))))))))) (Ann.fst (Ann.fst (Ann.snd (Ann.fst (Ann.snd (Ann.snd (Ann.snd (Ann.snd (Ann.snd (Ann.snd (Ann.snd (Ann.snd (Ann.snd (Ann.snd (Ann.snd (Ann.snd an7)))))))))))))))) (fun s => normC [5, 6, 14, 17, 19, 125, 126, 164, 165, 173] s K) (xb7_17 n) rt7 s
noncomputable def kq7_19 (n : Nat × Nat) (m1 : Nat) : St → Option R7 := run (E7 n) (cB (cB (cA (cA (cB (cA (cB (cB (cB (cB (cB (cB (cB (cB (cB (cB (cB (cB c7)))))))))))))))))) (Ann.snd (Ann.snd (Ann.fst (Ann.fst (Ann.snd (Ann.fst (Ann.snd (Ann.snd (Ann.snd (Ann.snd (Ann.snd (Ann.snd (Ann.snd (Ann.snd (Ann.snd (Ann.snd (Ann.snd (Ann.snd an7)))))))))))))))))) (fun s => normC [5, 6, 14, 17, 19, 125, 126, 164, 165, 173] s (loopN (F7_18 n) m1)) (xb7_17 n) rt7
noncomputable def kc7_20 (n : Nat × Nat) (m1 : Nat) : St → Option R7 := fun s => normC [5, 6, 14, 17, 19, 125, 126, 164, 165, 173] s (kq7_19 n m1)
noncomputable def kq7_21 (n : Nat × Nat) (m1 : Nat) : St → Option R7 := run (E7 n) (cB (cB (cB (cA (cA (cB (cA (cB (cB (cB (cB (cB (cB (cB (cB (cB (cB (cB (cB c7))))))))))))))))))) (Ann.snd (Ann.snd (Ann.snd (Ann.fst (Ann.fst (Ann.snd (Ann.fst (Ann.snd (Ann.snd (Ann.snd (Ann.snd (Ann.snd (Ann.snd (Ann.snd (Ann.snd (Ann.snd (Ann.snd (Ann.snd (Ann.snd an7))))))))))))))))))) (fun s => normC [5, 6, 14, 17, 19, 125, 126, 164, 165, 173] s (loopN (F7_18 n) m1)) (xb7_17 n) rt7
noncomputable def kc7_22 (n : Nat × Nat) (m1 : Nat) : St → Option R7 := fun s => normC [5, 6, 14, 17, 19, 125, 126, 164, 165, 173] s (loopN (fun _ => (kq7_21 n m1)) n.2)
noncomputable def xb7_23 (n : Nat × Nat) (m1 : Nat) : Nat → St → Option R7 := fun j s => bif Nat.beq j 3 then normC [5, 6, 14, 17, 19, 125, 126, 164, 165, 173] s (loopN (fun _ => (kq7_21 n m1)) n.2) else (xb7_17 n) j s
noncomputable def kq7_24 (n : Nat × Nat) (m1 : Nat) : St → Option R7 := run (E7 n) (cB (cB (cB (cA (cA (cB (cB (cA (cA (cB (cA (cB (cB (cB (cB (cB (cB (cB (cB (cB (cB (cB (cB c7))))))))))))))))))))))) (Ann.snd (Ann.snd (Ann.snd (Ann.fst (Ann.fst (Ann.snd (Ann.snd (Ann.fst (Ann.fst (Ann.snd (Ann.fst (Ann.snd (Ann.snd (Ann.snd (Ann.snd (Ann.snd (Ann.snd (Ann.snd (Ann.snd (Ann.snd (Ann.snd (Ann.snd (Ann.snd an7))))))))))))))))))))))) (kc7_22 n m1) (xb7_23 n m1) rt7
noncomputable def kc7_25 (n : Nat × Nat) (m1 : Nat) : St → Option R7 := fun s => normC [5, 6, 14, 17, 19, 20, 21, 125, 126, 164, 165, 173] s (kq7_24 n m1)
noncomputable def xb7_26 (n : Nat × Nat) (m1 : Nat) : Nat → St → Option R7 := fun j s => bif Nat.beq j 4 then normC [5, 6, 14, 17, 19, 20, 21, 125, 126, 164, 165, 173] s (kq7_24 n m1) else (xb7_23 n m1) j s
noncomputable def F7_27 (n : Nat × Nat) (m1 : Nat) : (St → Option R7) → St → Option R7 := fun K s => run (E7 n) (cA (cA (cB (cA (cB (cB (cA (cA (cB (cB (cA (cA (cB (cA (cB (cB (cB (cB (cB (cB (cB (cB (cB (cB (cB (cB c7)))))))))))))))))))))))))) (Ann.fst (Ann.fst (Ann.snd (Ann.fst (Ann.snd (Ann.snd (Ann.fst (Ann.fst (Ann.snd (Ann.snd (Ann.fst (Ann.fst (Ann.snd (Ann.fst (Ann.snd (Ann.snd (Ann.snd (Ann.snd (Ann.snd (Ann.snd (Ann.snd (Ann.snd (Ann.snd (Ann.snd (Ann.snd (Ann.snd an7)))))))))))))))))))))))))) (fun s => normC [5, 6, 14, 17, 19, 20, 21, 125, 126, 129, 130, 131, 164, 165, 173] s K) (xb7_26 n m1) rt7 s
noncomputable def kq7_28 (n : Nat × Nat) (m1 m2 : Nat) : St → Option R7 := run (E7 n) (cB (cB (cA (cA (cB (cA (cB (cB (cA (cA (cB (cB (cA (cA (cB (cA (cB (cB (cB (cB (cB (cB (cB (cB (cB (cB (cB (cB c7)))))))))))))))))))))))))))) (Ann.snd (Ann.snd (Ann.fst (Ann.fst (Ann.snd (Ann.fst (Ann.snd (Ann.snd (Ann.fst (Ann.fst (Ann.snd (Ann.snd (Ann.fst (Ann.fst (Ann.snd (Ann.fst (Ann.snd (Ann.snd (Ann.snd (Ann.snd (Ann.snd (Ann.snd (Ann.snd (Ann.snd (Ann.snd (Ann.snd (Ann.snd (Ann.snd an7)))))))))))))))))))))))))))) (fun s => normC [5, 6, 14, 17, 19, 20, 21, 125, 126, 129, 130, 131, 164, 165, 173] s (loopN (F7_27 n m1) m2)) (xb7_26 n m1) rt7
noncomputable def kc7_29 (n : Nat × Nat) (m1 m2 : Nat) : St → Option R7 := fun s => normC [5, 6, 14, 17, 19, 20, 21, 125, 126, 129, 130, 131, 164, 165, 173] s (kq7_28 n m1 m2)
noncomputable def kq7_30 (n : Nat × Nat) (m1 m2 : Nat) : St → Option R7 := run (E7 n) (cB (cB (cB (cA (cA (cB (cA (cB (cB (cA (cA (cB (cB (cA (cA (cB (cA (cB (cB (cB (cB (cB (cB (cB (cB (cB (cB (cB (cB c7))))))))))))))))))))))))))))) (Ann.snd (Ann.snd (Ann.snd (Ann.fst (Ann.fst (Ann.snd (Ann.fst (Ann.snd (Ann.snd (Ann.fst (Ann.fst (Ann.snd (Ann.snd (Ann.fst (Ann.fst (Ann.snd (Ann.fst (Ann.snd (Ann.snd (Ann.snd (Ann.snd (Ann.snd (Ann.snd (Ann.snd (Ann.snd (Ann.snd (Ann.snd (Ann.snd (Ann.snd an7))))))))))))))))))))))))))))) (fun s => normC [5, 6, 14, 17, 19, 20, 21, 125, 126, 129, 130, 131, 164, 165, 173] s (loopN (F7_27 n m1) m2)) (xb7_26 n m1) rt7
noncomputable def kc7_31 (n : Nat × Nat) (m1 m2 : Nat) : St → Option R7 := fun s => normC [5, 6, 14, 17, 19, 20, 21, 125, 126, 129, 130, 131, 164, 165, 173] s (loopN (fun _ => (kq7_30 n m1 m2)) n.2)
noncomputable def xb7_32 (n : Nat × Nat) (m1 m2 : Nat) : Nat → St → Option R7 := fun j s => bif Nat.beq j 5 then normC [5, 6, 14, 17, 19, 20, 21, 125, 126, 129, 130, 131, 164, 165, 173] s (loopN (fun _ => (kq7_30 n m1 m2)) n.2) else (xb7_26 n m1) j s
noncomputable def kq7_33 (n : Nat × Nat) (m1 m2 : Nat) : St → Option R7 := run (E7 n) (cB (cB (cA (cA (cB (cB (cA (cA (cB (cA (cB (cB (cA (cA (cB (cB (cA (cA (cB (cA (cB (cB (cB (cB (cB (cB (cB (cB (cB (cB (cB (cB c7)))))))))))))))))))))))))))))))) (Ann.snd (Ann.snd (Ann.fst (Ann.fst (Ann.snd (Ann.snd (Ann.fst (Ann.fst (Ann.snd (Ann.fst (Ann.snd (Ann.snd (Ann.fst (Ann.fst (Ann.snd (Ann.snd (Ann.fst (Ann.fst (Ann.snd (Ann.fst (Ann.snd (Ann.snd (Ann.snd (Ann.snd (Ann.snd (Ann.snd (Ann.snd (Ann.snd (Ann.snd (Ann.snd (Ann.snd (Ann.snd an7)))))))))))))))))))))))))))))))) (kc7_31 n m1 m2) (xb7_32 n m1 m2) rt7
noncomputable def kc7_34 (n : Nat × Nat) (m1 m2 : Nat) : St → Option R7 := fun s => normC [5, 6, 14, 17, 19, 20, 21, 22, 23, 125, 126, 129, 130, 131, 164, 165, 173] s (kq7_33 n m1 m2)
noncomputable def kc7_35 (n : Nat × Nat) (m1 m2 : Nat) : St → Option R7 := fun s => normC [5, 6, 14, 17, 19, 20, 21, 125, 126, 129, 130, 131, 164, 165, 173] s (kc7_31 n m1 m2)
noncomputable def kq7_36 (n : Nat × Nat) (m1 : Nat) : St → Option R7 := run (E7 n) (cB (cB (cB (cB (cA (cA (cB (cB (cA (cA (cB (cA (cB (cB (cB (cB (cB (cB (cB (cB (cB (cB (cB (cB c7)))))))))))))))))))))))) (Ann.snd (Ann.snd (Ann.snd (Ann.snd (Ann.fst (Ann.fst (Ann.snd (Ann.snd (Ann.fst (Ann.fst (Ann.snd (Ann.fst (Ann.snd (Ann.snd (Ann.snd (Ann.snd (Ann.snd (Ann.snd (Ann.snd (Ann.snd (Ann.snd (Ann.snd (Ann.snd (Ann.snd an7)))))))))))))))))))))))) (kc7_22 n m1) (xb7_23 n m1) rt7
noncomputable def kc7_37 (n : Nat × Nat) (m1 : Nat) : St → Option R7 := fun s => normC [5, 6, 14, 17, 19, 20, 21, 125, 126, 164, 165, 173] s (kq7_36 n m1)
noncomputable def kc7_38 (n : Nat × Nat) (m1 : Nat) : St → Option R7 := fun s => normC [5, 6, 14, 17, 19, 125, 126, 164, 165, 173] s (kc7_22 n m1)
noncomputable def L7_1 (n : Nat × Nat) (m : Nat) (l5 : List (Int × Int)) (v10 : Int) (work11 : Int) (v55 : Int) (v56 : Int) (o6 : List Int) (v7 : List Int) : Option R7 := loopN (F7_6 n) m { tm := [uu, uu, uu, uu, uu, .c (.sl (.pair (.int .i64) (.int .i64)) l5 false), .own 6 none false, .own 7 none false, uu, uu, .c (.int .i64 v10), .c (.int .i64 work11), uu, uu, uu, uu, uu, uu, uu, uu, uu, uu, uu, uu, uu, uu, uu, uu, uu, uu, uu, uu, uu, uu, uu, uu, uu, uu, uu, uu, uu, uu, uu, uu, uu, uu, uu, uu, uu, uu, uu, uu, uu, uu, .own 6 none false, .c (.int .i64 v55), .c (.int .i64 v56), uu, uu, uu, uu, uu, uu, uu, uu, uu, uu, uu, uu, uu, uu, uu, uu, uu, uu, uu, uu, uu, uu, uu, uu, uu, uu, uu, uu, uu, uu, uu, uu, uu, uu, uu, uu, uu, uu, uu, uu, uu, uu, uu, uu, uu, uu, uu, uu, uu, uu, uu, uu, uu, uu, uu, uu, uu, uu, uu, uu, uu, uu, uu, uu, uu, uu, uu, uu, uu, uu, uu, uu, uu, uu, uu, uu, uu, uu, uu, uu, uu, uu, uu, uu, uu, uu, uu, uu, uu, uu, uu, uu, uu, uu, uu, uu, uu, uu, uu, uu, uu, uu, uu, uu, uu, uu, uu, uu, uu, uu, uu, uu, uu, uu, uu, uu, uu, uu], hp := (upd (upd emp 7 (.arr (.int .i64) v7 false)) 6 (.arr (.int .i64) o6 false)) }
noncomputable def L7_2 (n : Nat × Nat) (m : Nat) (l5 : List (Int × Int)) (v14 : Int) (v17 : Int) (want19 : Int) (v125 : Int) (v126 : Int) (o6 : List Int) : Option R7 := loopN (F7_18 n) m { tm := [uu, uu, uu, uu, uu, .c (.sl (.pair (.int .i64) (.int .i64)) l5 false), .own 6 none false, uu, uu, uu, uu, uu, uu, uu, .c (.int .i64 v14), uu, uu, .c (.int .i64 v17), uu, .c (.int .i64 want19), uu, uu, uu, uu, uu, uu, uu, uu, uu, uu, uu, uu, uu, uu, uu, uu, uu, uu, uu, uu, uu, uu, uu, uu, uu, uu, uu, uu, uu, uu, uu, uu, uu, uu, uu, uu, uu, uu, uu, uu, uu, uu, uu, uu, uu, uu, uu, uu, uu, uu, uu, uu, uu, uu, uu, uu, uu, uu, uu, uu, uu, uu, uu, uu, uu, uu, uu, uu, uu, uu, uu, uu, uu, uu, uu, uu, uu, uu, uu, uu, uu, uu, uu, uu, uu, uu, uu, uu, uu, uu, uu, uu, uu, uu, uu, uu, uu, uu, uu, uu, uu, uu, uu, uu, uu, .c (.int .i64 v125), .c (.int .i64 v126), uu, uu, uu, uu, uu, uu, uu, uu, uu, uu, uu, uu, uu, uu, uu, uu, uu, uu, uu, uu, uu, uu, uu, uu, uu, uu, uu, uu, uu, uu, uu, uu, uu, uu, uu, uu, uu, uu, uu, uu, uu, uu, uu, uu, uu, uu, uu, uu], hp := (upd emp 6 (.arr (.int .i64) o6 false)) }
noncomputable def L7_3 (n : Nat × Nat) (m1 : Nat) (m : Nat) (l5 : List (Int × Int)) (v14 : Int) (v17 : Int) (want19 : Int) (p20 : Int) (sum21 : Int) (v125 : Int) (v126 : Int) (v130 : Int) (v131 : Int) (o6 : List Int) : Option R7 := loopN (F7_27 n m1) m { tm := [uu, uu, uu, uu, uu, .c (.sl (.pair (.int .i64) (.int .i64)) l5 false), .own 6 none false, uu, uu, uu, uu, uu, uu, uu, .c (.int .i64 v14), uu, uu, .c (.int .i64 v17), uu, .c (.int .i64 want19), .c (.int .i64 p20), .c (.int .i64 sum21), uu, uu, uu, uu, uu, uu, uu, uu, uu, uu, uu, uu, uu, uu, uu, uu, uu, uu, uu, uu, uu, uu, uu, uu, uu, uu, uu, uu, uu, uu, uu, uu, uu, uu, uu, uu, uu, uu, uu, uu, uu, uu, uu, uu, uu, uu, uu, uu, uu, uu, uu, uu, uu, uu, uu, uu, uu, uu, uu, uu, uu, uu, uu, uu, uu, uu, uu, uu, uu, uu, uu, uu, uu, uu, uu, uu, uu, uu, uu, uu, uu, uu, uu, uu, uu, uu, uu, uu, uu, uu, uu, uu, uu, uu, uu, uu, uu, uu, uu, uu, uu, uu, uu, .c (.int .i64 v125), .c (.int .i64 v126), uu, uu, .own 6 none false, .c (.int .i64 v130), .c (.int .i64 v131), uu, uu, uu, uu, uu, uu, uu, uu, uu, uu, uu, uu, uu, uu, uu, uu, uu, uu, uu, uu, uu, uu, uu, uu, uu, uu, uu, uu, uu, uu, uu, uu, uu, uu, uu, uu, uu, uu, uu, uu, uu, uu, uu], hp := (upd emp 6 (.arr (.int .i64) o6 false)) }
noncomputable def L7_4 (n : Nat × Nat) (m1 m2 : Nat) (l5 : List (Int × Int)) (v14 : Int) (v17 : Int) (want19 : Int) (p20 : Int) (sum21 : Int) (v125 : Int) (v126 : Int) (v130 : Int) (v131 : Int) (o6 : List Int) : Option R7 := loopN (fun _ => (kq7_30 n m1 m2)) n.2 { tm := [uu, uu, uu, uu, uu, .c (.sl (.pair (.int .i64) (.int .i64)) l5 false), .own 6 none false, uu, uu, uu, uu, uu, uu, uu, .c (.int .i64 v14), uu, uu, .c (.int .i64 v17), uu, .c (.int .i64 want19), .c (.int .i64 p20), .c (.int .i64 sum21), uu, uu, uu, uu, uu, uu, uu, uu, uu, uu, uu, uu, uu, uu, uu, uu, uu, uu, uu, uu, uu, uu, uu, uu, uu, uu, uu, uu, uu, uu, uu, uu, uu, uu, uu, uu, uu, uu, uu, uu, uu, uu, uu, uu, uu, uu, uu, uu, uu, uu, uu, uu, uu, uu, uu, uu, uu, uu, uu, uu, uu, uu, uu, uu, uu, uu, uu, uu, uu, uu, uu, uu, uu, uu, uu, uu, uu, uu, uu, uu, uu, uu, uu, uu, uu, uu, uu, uu, uu, uu, uu, uu, uu, uu, uu, uu, uu, uu, uu, uu, uu, uu, uu, .c (.int .i64 v125), .c (.int .i64 v126), uu, uu, .own 6 none false, .c (.int .i64 v130), .c (.int .i64 v131), uu, uu, uu, uu, uu, uu, uu, uu, uu, uu, uu, uu, uu, uu, uu, uu, uu, uu, uu, uu, uu, uu, uu, uu, uu, uu, uu, uu, uu, uu, uu, uu, uu, uu, uu, uu, uu, uu, uu, uu, uu, uu, uu], hp := (upd emp 6 (.arr (.int .i64) o6 false)) }
noncomputable def L7_5 (n : Nat × Nat) (m1 : Nat) (l5 : List (Int × Int)) (v14 : Int) (v17 : Int) (want19 : Int) (v125 : Int) (v126 : Int) (o6 : List Int) : Option R7 := loopN (fun _ => (kq7_21 n m1)) n.2 { tm := [uu, uu, uu, uu, uu, .c (.sl (.pair (.int .i64) (.int .i64)) l5 false), .own 6 none false, uu, uu, uu, uu, uu, uu, uu, .c (.int .i64 v14), uu, uu, .c (.int .i64 v17), uu, .c (.int .i64 want19), uu, uu, uu, uu, uu, uu, uu, uu, uu, uu, uu, uu, uu, uu, uu, uu, uu, uu, uu, uu, uu, uu, uu, uu, uu, uu, uu, uu, uu, uu, uu, uu, uu, uu, uu, uu, uu, uu, uu, uu, uu, uu, uu, uu, uu, uu, uu, uu, uu, uu, uu, uu, uu, uu, uu, uu, uu, uu, uu, uu, uu, uu, uu, uu, uu, uu, uu, uu, uu, uu, uu, uu, uu, uu, uu, uu, uu, uu, uu, uu, uu, uu, uu, uu, uu, uu, uu, uu, uu, uu, uu, uu, uu, uu, uu, uu, uu, uu, uu, uu, uu, uu, uu, uu, uu, .c (.int .i64 v125), .c (.int .i64 v126), uu, uu, uu, uu, uu, uu, uu, uu, uu, uu, uu, uu, uu, uu, uu, uu, uu, uu, uu, uu, uu, uu, uu, uu, uu, uu, uu, uu, uu, uu, uu, uu, uu, uu, uu, uu, uu, uu, uu, uu, uu, uu, uu, uu, uu, uu, uu, uu], hp := (upd emp 6 (.arr (.int .i64) o6 false)) }
theorem L7_1_eq (n : Nat × Nat) (m1 : Nat) (l5 : List (Int × Int)) (v10 : Int) (work11 : Int) (v55 : Int) (v56 : Int) (o6 : List Int) (v7 : List Int) : L7_1 n (m1 + 1) l5 v10 work11 v55 v56 o6 v7 =
    (bif decide (v56 < v55) then (bif inB v56 o6.length then (idx o6 v56).bind fun x8' =>
        (idx l5 x8').bind fun x9' =>
        (idx l5 x8').bind fun x10' =>
        (bif inB v56 v7.length then (idx v7 v56).bind fun x11' =>
          (bif (x11' != (wr .i64 (v10 + x9'.1))) then some false
          else L7_1 n m1 l5 (wr .i64 (v10 + x9'.1)) (wr .i64 (work11 + x10'.2)) v55 (wr .i64 (v56 + 1)) o6 v7)
        else none)
      else none)
    else (S19 n l5 o6).bind fun r12' =>
      (S21 n l5 o6).bind fun r13' =>
      (S23 n l5 o6).bind fun r14' =>
      ((bif ((r12'.2 != 0) == false) then some (r13'.2 != 0)
        else some true)).bind fun b15' =>
      ((bif (b15' == false) then some (r14'.2 != 0)
        else some true)).bind fun b16' =>
      ((bif (b16' == false) then (S46 n l5 o6).bind fun r17' =>
          some (r12'.1 != r17')
        else some true)).bind fun b18' =>
      ((bif (b18' == false) then some (r13'.1 != (wr .i64 (r12'.1 - work11)))
        else some true)).bind fun b19' =>
      (bif b19' then some false
      else L7_2 n n.1 l5 r12'.1 r14'.1 (-1) (o6.length : Int) 0 o6)) := by kernel_rfl
theorem L7_2_eq (n : Nat × Nat) (m1 : Nat) (l5 : List (Int × Int)) (v14 : Int) (v17 : Int) (want19 : Int) (v125 : Int) (v126 : Int) (o6 : List Int) : L7_2 n (m1 + 1) l5 v14 v17 want19 v125 v126 o6 =
    (bif decide (v126 < v125) then L7_3 n m1 n.1 l5 v14 v17 want19 v126 0 v125 v126 (o6.length : Int) 0 o6
    else ((bif ((v17 == want19) == true) then (S14 n).bind fun r20' =>
          some r20'
        else some false)).bind fun b21' =>
      some b21') := by kernel_rfl
theorem L7_3_eq (n : Nat × Nat) (m1 m2 : Nat) (l5 : List (Int × Int)) (v14 : Int) (v17 : Int) (want19 : Int) (p20 : Int) (sum21 : Int) (v125 : Int) (v126 : Int) (v130 : Int) (v131 : Int) (o6 : List Int) : L7_3 n m1 (m2 + 1) l5 v14 v17 want19 p20 sum21 v125 v126 v130 v131 o6 =
    (bif decide (v131 < v130) then (bif inB v131 o6.length then (idx o6 v131).bind fun x22' =>
        (bif decide (v131 ≤ p20) then (idx l5 x22').bind fun x23' =>
          (bif decide (v131 ≥ p20) then (idx l5 x22').bind fun x24' =>
            L7_4 n m1 m2 l5 v14 v17 want19 p20 (wr .i64 ((wr .i64 (sum21 + x23'.1)) + x24'.2)) v125 v126 v130 v131 o6
          else L7_4 n m1 m2 l5 v14 v17 want19 p20 (wr .i64 (sum21 + x23'.1)) v125 v126 v130 v131 o6)
        else (bif decide (v131 ≥ p20) then (idx l5 x22').bind fun x25' =>
            L7_4 n m1 m2 l5 v14 v17 want19 p20 (wr .i64 (sum21 + x25'.2)) v125 v126 v130 v131 o6
          else L7_4 n m1 m2 l5 v14 v17 want19 p20 sum21 v125 v126 v130 v131 o6))
      else none)
    else (bif decide (sum21 > v14) then some false
      else ((bif ((sum21 == v14) == true) then some (decide (want19 < 0))
          else some false)).bind fun b26' =>
        (bif b26' then L7_5 n m1 l5 v14 v17 p20 v125 v126 o6
        else L7_5 n m1 l5 v14 v17 want19 v125 v126 o6))) := by kernel_rfl
theorem L7_4_raw (n : Nat × Nat) (m1 m2 : Nat) (l5 : List (Int × Int)) (v14 : Int) (v17 : Int) (want19 : Int) (p20 : Int) (sum21 : Int) (v125 : Int) (v126 : Int) (v130 : Int) (v131 : Int) (o6 : List Int) : (kq7_30 n m1 m2) { tm := [uu, uu, uu, uu, uu, .c (.sl (.pair (.int .i64) (.int .i64)) l5 false), .own 6 none false, uu, uu, uu, uu, uu, uu, uu, .c (.int .i64 v14), uu, uu, .c (.int .i64 v17), uu, .c (.int .i64 want19), .c (.int .i64 p20), .c (.int .i64 sum21), uu, uu, uu, uu, uu, uu, uu, uu, uu, uu, uu, uu, uu, uu, uu, uu, uu, uu, uu, uu, uu, uu, uu, uu, uu, uu, uu, uu, uu, uu, uu, uu, uu, uu, uu, uu, uu, uu, uu, uu, uu, uu, uu, uu, uu, uu, uu, uu, uu, uu, uu, uu, uu, uu, uu, uu, uu, uu, uu, uu, uu, uu, uu, uu, uu, uu, uu, uu, uu, uu, uu, uu, uu, uu, uu, uu, uu, uu, uu, uu, uu, uu, uu, uu, uu, uu, uu, uu, uu, uu, uu, uu, uu, uu, uu, uu, uu, uu, uu, uu, uu, uu, uu, .c (.int .i64 v125), .c (.int .i64 v126), uu, uu, .own 6 none false, .c (.int .i64 v130), .c (.int .i64 v131), uu, uu, uu, uu, uu, uu, uu, uu, uu, uu, uu, uu, uu, uu, uu, uu, uu, uu, uu, uu, uu, uu, uu, uu, uu, uu, uu, uu, uu, uu, uu, uu, uu, uu, uu, uu, uu, uu, uu, uu, uu, uu, uu], hp := (upd emp 6 (.arr (.int .i64) o6 false)) } =
    L7_3 n m1 m2 l5 v14 v17 want19 p20 sum21 v125 v126 v130 (wr .i64 (v131 + 1)) o6 := by kernel_rfl
theorem L7_5_raw (n : Nat × Nat) (m1 : Nat) (l5 : List (Int × Int)) (v14 : Int) (v17 : Int) (want19 : Int) (v125 : Int) (v126 : Int) (o6 : List Int) : (kq7_21 n m1) { tm := [uu, uu, uu, uu, uu, .c (.sl (.pair (.int .i64) (.int .i64)) l5 false), .own 6 none false, uu, uu, uu, uu, uu, uu, uu, .c (.int .i64 v14), uu, uu, .c (.int .i64 v17), uu, .c (.int .i64 want19), uu, uu, uu, uu, uu, uu, uu, uu, uu, uu, uu, uu, uu, uu, uu, uu, uu, uu, uu, uu, uu, uu, uu, uu, uu, uu, uu, uu, uu, uu, uu, uu, uu, uu, uu, uu, uu, uu, uu, uu, uu, uu, uu, uu, uu, uu, uu, uu, uu, uu, uu, uu, uu, uu, uu, uu, uu, uu, uu, uu, uu, uu, uu, uu, uu, uu, uu, uu, uu, uu, uu, uu, uu, uu, uu, uu, uu, uu, uu, uu, uu, uu, uu, uu, uu, uu, uu, uu, uu, uu, uu, uu, uu, uu, uu, uu, uu, uu, uu, uu, uu, uu, uu, uu, uu, .c (.int .i64 v125), .c (.int .i64 v126), uu, uu, uu, uu, uu, uu, uu, uu, uu, uu, uu, uu, uu, uu, uu, uu, uu, uu, uu, uu, uu, uu, uu, uu, uu, uu, uu, uu, uu, uu, uu, uu, uu, uu, uu, uu, uu, uu, uu, uu, uu, uu, uu, uu, uu, uu, uu, uu], hp := (upd emp 6 (.arr (.int .i64) o6 false)) } =
    L7_2 n m1 l5 v14 v17 want19 v125 (wr .i64 (v126 + 1)) o6 := by kernel_rfl
noncomputable def S7 (n : Nat × Nat) (f0 : Int × Int × (Int × Int) × (Int × Int) × (Int × Int) × (Int × Int) × (Int × Int) × (Int × Int) × Int × Int) (v1 : Int × Int × Int × Int × Int × Int × Int) : Option R7 := run (E7 n) c7 an7 rt7 (fun _ _ => none) rt7 { tm := [.agg [.int .u8 f0.1, .int .u8 f0.2.1, .int .u8 f0.2.2.1.1, .int .u8 f0.2.2.1.2, .int .u8 f0.2.2.2.1.1, .int .u8 f0.2.2.2.1.2, .int .u8 f0.2.2.2.2.1.1, .int .u8 f0.2.2.2.2.1.2, .int .u8 f0.2.2.2.2.2.1.1, .int .u8 f0.2.2.2.2.2.1.2, .int .u8 f0.2.2.2.2.2.2.1.1, .int .u8 f0.2.2.2.2.2.2.1.2, .int .u8 f0.2.2.2.2.2.2.2.1.1, .int .u8 f0.2.2.2.2.2.2.2.1.2, .int .u8 f0.2.2.2.2.2.2.2.2.1, .int .u8 f0.2.2.2.2.2.2.2.2.2], .agg [.int .u8 v1.1, .int .u8 v1.2.1, .int .u8 v1.2.2.1, .int .u8 v1.2.2.2.1, .int .u8 v1.2.2.2.2.1, .int .u8 v1.2.2.2.2.2.1, .int .u8 v1.2.2.2.2.2.2], uu, uu, uu, uu, uu, uu, uu, uu, uu, uu, uu, uu, uu, uu, uu, uu, uu, uu, uu, uu, uu, uu, uu, uu, uu, uu, uu, uu, uu, uu, uu, uu, uu, uu, uu, uu, uu, uu, uu, uu, uu, uu, uu, uu, uu, uu, uu, uu, uu, uu, uu, uu, uu, uu, uu, uu, uu, uu, uu, uu, uu, uu, uu, uu, uu, uu, uu, uu, uu, uu, uu, uu, uu, uu, uu, uu, uu, uu, uu, uu, uu, uu, uu, uu, uu, uu, uu, uu, uu, uu, uu, uu, uu, uu, uu, uu, uu, uu, uu, uu, uu, uu, uu, uu, uu, uu, uu, uu, uu, uu, uu, uu, uu, uu, uu, uu, uu, uu, uu, uu, uu, uu, uu, uu, uu, uu, uu, uu, uu, uu, uu, uu, uu, uu, uu, uu, uu, uu, uu, uu, uu, uu, uu, uu, uu, uu, uu, uu, uu, uu, uu, uu, uu, uu, uu, uu, uu, uu, uu, uu, uu, uu, uu, uu, uu, uu, uu, uu, uu, uu, uu, uu, uu], hp := emp }
theorem S7_eq (n : Nat × Nat) (f0 : Int × Int × (Int × Int) × (Int × Int) × (Int × Int) × (Int × Int) × (Int × Int) × (Int × Int) × Int × Int) (v1 : Int × Int × Int × Int × Int × Int × Int) : S7 n f0 v1 =
    (S43 n f0 7).bind fun r1' =>
    (S48 n (r1'.length : Int) v1).bind fun r2' =>
    (S16 n r1' r2').bind fun r3' =>
    ((bif ((r3'.2.2 != 0) == false) then some ((r3'.1.length : Int) != (r1'.length : Int))
      else some true)).bind fun b4' =>
    ((bif (b4' == false) then (S49 n r1' r2').bind fun r5' =>
        (S18 n r3'.2.1 r5').bind fun r6' =>
        some (!r6')
      else some true)).bind fun b7' =>
    (bif b7' then some false
    else L7_1 n n.1 r1' 0 0 (r2'.length : Int) 0 r2' r3'.1) := by kernel_rfl
theorem S7_run (n : Nat × Nat) (xs : pksDen pk7) : S7 n xs.1 xs.2.1 = runG (E7 n) noScope c7 an7 (rtG rk7) (fun _ _ => none) (rtG rk7) (st0 pk7 xs Try.f7.ntmps) := by kernel_rfl
noncomputable def P7 (n : Nat × Nat) := phiOf pk7 rk7 (fun xs => S7 n xs.1 xs.2.1)
theorem call7 : CallOK Try.prog 7 := callOK_of Try.func7 (by kernel_rfl) (by kernel_rfl)
theorem env7 (n : Nat × Nat) : EnvOK Try.prog (E7 n) := envOK0 (consPhi_ok (FC14 n) call14 (consPhi_ok (FC16 n) call16 (consPhi_ok (FC18 n) call18 (consPhi_ok (FC19 n) call19 (consPhi_ok (FC21 n) call21 (consPhi_ok (FC23 n) call23 (consPhi_ok (FC43 n) call43 (consPhi_ok (FC46 n) call46 (consPhi_ok (FC48 n) call48 (consPhi_ok (FC49 n) call49 noPhi_ok)))))))))) rfl rfl
theorem par7 (n : Nat × Nat) : EnvPar (E7 n) := envPar0 (consPhi_par phiOf_Par1 (consPhi_par phiOf_Par1 (consPhi_par phiOf_Par1 (consPhi_par phiOf_Par1 (consPhi_par phiOf_Par1 (consPhi_par phiOf_Par1 (consPhi_par phiOf_Par1 (consPhi_par phiOf_Par1 (consPhi_par phiOf_Par1 (consPhi_par phiOf_Par1 noPhi_par)))))))))) rfl
theorem FC7 (n : Nat × Nat) : FCs Try.prog 7 (P7 n) := phiOf_FCs fun xs r h vs hv => FC.of_runG tabOK eqsOK (env7 n) (par7 n) mixed (fun _ => noScope_ok) Try.func7 (c := c7) (an := an7) (pks := pk7) (rks := rk7) (by kernel_rfl) (by kernel_rfl) hv ((S7_run n xs).symm.trans h)
end Go.Proofs.Ytnlbhjmbaedadaa
set_option linter.unusedVariables false
set_option linter.unusedSimpArgs false
set_option maxRecDepth 100000
namespace Go.Proofs.Ytnlbhjmbaedadaa
open Go.Vi
/-D 43 -/
noncomputable def DF43_1 (n : Nat × Nat) (f1 : Int → (List (Int × Int)) → Int → Int → (List (Int × Int)) → Option R43) (top6 : Int) (v21 : List (Int × Int)) (v22 : Int) (v23 : Int) (out5 : List (Int × Int)) : Option R43 :=
    (bif decide (v23 < v22) then (idx v21 v23).bind fun x1' =>
      (bif inB 0 2 then (idx [x1'.1, x1'.2] 0).bind fun x2' =>
        (bif (wr .i64 (top6 + 1)) == 0 then none
        else (bif inB 1 2 then (idx [x1'.1, x1'.2] 1).bind fun x3' =>
            (bif (wr .i64 (top6 + 1)) == 0 then none
            else (bif decide (out5.length + [(Int.tmod (wr .i64 x2') (wr .i64 (top6 + 1)), Int.tmod (wr .i64 x3') (wr .i64 (top6 + 1)))].length ≤ lim) then f1 top6 v21 v22 (wr .i64 (v23 + 1)) (out5 ++ [(Int.tmod (wr .i64 x2') (wr .i64 (top6 + 1)), Int.tmod (wr .i64 x3') (wr .i64 (top6 + 1)))])
              else none))
          else none))
      else none)
    else some out5)
noncomputable def DL43_1 (n : Nat × Nat) (m : Nat) : Int → (List (Int × Int)) → Int → Int → (List (Int × Int)) → Option R43 := Nat.rec (motive := fun _ => Int → (List (Int × Int)) → Int → Int → (List (Int × Int)) → Option R43) (fun _ _ _ _ _ => none) (fun _ ih => DF43_1 n ih) m
theorem DL43_1_succ (n : Nat × Nat) (m : Nat) : DL43_1 n (m + 1) = DF43_1 n (DL43_1 n m) := rfl
theorem DL43_1_eq (n : Nat × Nat) (hn : n.2 = 1) : ∀ m, L43_1 n m = DL43_1 n m
  | 0 => by funext top6 v21 v22 v23 out5; kernel_rfl
  | m + 1 => by
    have ih := DL43_1_eq n hn m
    funext top6 v21 v22 v23 out5; refine (L43_1_eq n m top6 v21 v22 v23 out5).trans ?_
    rw [DL43_1_succ]
    unfold DF43_1
    (try simp only [ih]) <;> first | with_reducible rfl | rfl
noncomputable def D43 (n : Nat × Nat) (f0 : Int × Int × (Int × Int) × (Int × Int) × (Int × Int) × (Int × Int) × (Int × Int) × (Int × Int) × Int × Int) (most1 : Int) : Option R43 :=
    (bif 50 == 0 then none
    else (bif most1 == 0 then none
      else (bif bounds none (some (wr .i64 (1 + (Int.tmod (wr .i64 f0.1) most1)))) none 7 then DL43_1 n n.1 (wr .i64 ((Int.tmod (wr .i64 f0.2.1) 50) + 1)) ([f0.2.2.1, f0.2.2.2.1, f0.2.2.2.2.1, f0.2.2.2.2.2.1, f0.2.2.2.2.2.2.1, f0.2.2.2.2.2.2.2.1, f0.2.2.2.2.2.2.2.2].take (Int.toNat (wr .i64 (1 + (Int.tmod (wr .i64 f0.1) most1))))) (([f0.2.2.1, f0.2.2.2.1, f0.2.2.2.2.1, f0.2.2.2.2.2.1, f0.2.2.2.2.2.2.1, f0.2.2.2.2.2.2.2.1, f0.2.2.2.2.2.2.2.2].take (Int.toNat (wr .i64 (1 + (Int.tmod (wr .i64 f0.1) most1))))).length : Int) 0 []
        else none)))
theorem S43_D (n : Nat × Nat) (hn : n.2 = 1) : S43 n = D43 n := by
  funext f0 most1; refine (S43_eq n f0 most1).trans ?_
  unfold D43
  (try simp only [DL43_1_eq n hn]) <;> first | with_reducible rfl | rfl
end Go.Proofs.Ytnlbhjmbaedadaa
set_option linter.unusedVariables false
set_option linter.unusedSimpArgs false
set_option maxRecDepth 100000
namespace Go.Proofs.Ytnlbhjmbaedadaa
open Go.Vi
/-D 49 -/
noncomputable def DF49_4 (n : Nat × Nat) (f1 : (List (Int × Int)) → List Int → Int → Int → List Int → Option R49) (f2 : (List (Int × Int)) → List Int → Int → Int → Int → Int → Int → Int → List Int → Option R49) (f3 : (List (Int × Int)) → List Int → Int → Int → Int → Int → Int → Int → Int → List Int → Int → Int → List Int → Option R49) (l0 : List (Int × Int)) (order1 : List Int) (p6 : Int) (most7 : Int) (v9 : Int) (v15 : Int) (v16 : Int) (v20 : Int) (v21 : Int) (v45 : List Int) (v46 : Int) (v47 : Int) (out5 : List Int) : Option R49 :=
    (bif decide (v47 < v46) then (idx v45 v47).bind fun x3' =>
      (idx l0 x3').bind fun x4' =>
      f3 l0 order1 p6 most7 (wr .i64 (v9 + x4'.2)) v15 v16 v20 v21 v45 v46 (wr .i64 (v47 + 1)) out5
    else f2 l0 order1 p6 (if v9 > most7 then v9 else most7) v15 v16 v20 (wr .i64 (v21 + 1)) out5)
noncomputable def DL49_4 (n : Nat × Nat) (f1 : (List (Int × Int)) → List Int → Int → Int → List Int → Option R49) (f2 : (List (Int × Int)) → List Int → Int → Int → Int → Int → Int → Int → List Int → Option R49) (m : Nat) : (List (Int × Int)) → List Int → Int → Int → Int → Int → Int → Int → Int → List Int → Int → Int → List Int → Option R49 := Nat.rec (motive := fun _ => (List (Int × Int)) → List Int → Int → Int → Int → Int → Int → Int → Int → List Int → Int → Int → List Int → Option R49) (fun _ _ _ _ _ _ _ _ _ _ _ _ _ => none) (fun _ ih => DF49_4 n f1 f2 ih) m
theorem DL49_4_succ (n : Nat × Nat) (f1 : (List (Int × Int)) → List Int → Int → Int → List Int → Option R49) (f2 : (List (Int × Int)) → List Int → Int → Int → Int → Int → Int → Int → List Int → Option R49) (m : Nat) : DL49_4 n f1 f2 (m + 1) = DF49_4 n f1 f2 (DL49_4 n f1 f2 m) := rfl
theorem DL49_4_eq (n : Nat × Nat) (hn : n.2 = 1) (m1 m2 : Nat) : ∀ m, L49_4 n m1 m2 m = DL49_4 n (L49_1 n m1) (L49_2 n m1 m2) m
  | 0 => by funext l0 order1 p6 most7 v9 v15 v16 v20 v21 v45 v46 v47 out5; kernel_rfl
  | m + 1 => by
    have ih := DL49_4_eq n hn m1 m2 m
    funext l0 order1 p6 most7 v9 v15 v16 v20 v21 v45 v46 v47 out5; refine (L49_4_eq n m1 m2 m l0 order1 p6 most7 v9 v15 v16 v20 v21 v45 v46 v47 out5).trans ?_
    rw [DL49_4_succ]
    unfold DF49_4
    (try simp only [ih]) <;> first | with_reducible rfl | rfl
noncomputable def DF49_3 (n : Nat × Nat) (f1 : (List (Int × Int)) → List Int → Int → Int → List Int → Option R49) (f2 : (List (Int × Int)) → List Int → Int → Int → Int → Int → Int → Int → List Int → Option R49) (f3 : (List (Int × Int)) → List Int → Int → Int → Int → Int → Int → Int → Int → Int → List Int → Int → Int → List Int → Option R49) (l0 : List (Int × Int)) (order1 : List Int) (p6 : Int) (most7 : Int) (q8 : Int) (v9 : Int) (v15 : Int) (v16 : Int) (v20 : Int) (v21 : Int) (v27 : List Int) (v28 : Int) (v29 : Int) (out5 : List Int) : Option R49 :=
    (bif decide (v29 < v28) then (idx v27 v29).bind fun x1' =>
      (idx l0 x1').bind fun x2' =>
      f3 l0 order1 p6 most7 q8 (wr .i64 (v9 + x2'.1)) v15 v16 v20 v21 v27 v28 (wr .i64 (v29 + 1)) out5
    else (bif bounds (some q8) (some (wr .i64 (p6 + 1))) none order1.length then DL49_4 n f1 f2 n.1 l0 order1 p6 most7 v9 v15 v16 v20 v21 ((order1.take (Int.toNat (wr .i64 (p6 + 1)))).drop (Int.toNat q8)) (((order1.take (Int.toNat (wr .i64 (p6 + 1)))).drop (Int.toNat q8)).length : Int) 0 out5
      else none))
noncomputable def DL49_3 (n : Nat × Nat) (f1 : (List (Int × Int)) → List Int → Int → Int → List Int → Option R49) (f2 : (List (Int × Int)) → List Int → Int → Int → Int → Int → Int → Int → List Int → Option R49) (m : Nat) : (List (Int × Int)) → List Int → Int → Int → Int → Int → Int → Int → Int → Int → List Int → Int → Int → List Int → Option R49 := Nat.rec (motive := fun _ => (List (Int × Int)) → List Int → Int → Int → Int → Int → Int → Int → Int → Int → List Int → Int → Int → List Int → Option R49) (fun _ _ _ _ _ _ _ _ _ _ _ _ _ _ => none) (fun _ ih => DF49_3 n f1 f2 ih) m
theorem DL49_3_succ (n : Nat × Nat) (f1 : (List (Int × Int)) → List Int → Int → Int → List Int → Option R49) (f2 : (List (Int × Int)) → List Int → Int → Int → Int → Int → Int → Int → List Int → Option R49) (m : Nat) : DL49_3 n f1 f2 (m + 1) = DF49_3 n f1 f2 (DL49_3 n f1 f2 m) := rfl
theorem DL49_3_eq (n : Nat × Nat) (hn : n.2 = 1) (m1 m2 : Nat) : ∀ m, L49_3 n m1 m2 m = DL49_3 n (L49_1 n m1) (L49_2 n m1 m2) m
  | 0 => by funext l0 order1 p6 most7 q8 v9 v15 v16 v20 v21 v27 v28 v29 out5; kernel_rfl
  | m + 1 => by
    have ih := DL49_3_eq n hn m1 m2 m
    funext l0 order1 p6 most7 q8 v9 v15 v16 v20 v21 v27 v28 v29 out5; refine (L49_3_eq n m1 m2 m l0 order1 p6 most7 q8 v9 v15 v16 v20 v21 v27 v28 v29 out5).trans ?_
    rw [DL49_3_succ]
    unfold DF49_3
    (try simp only [ih, DL49_4_eq n hn]) <;> first | with_reducible rfl | rfl
noncomputable def DF49_2 (n : Nat × Nat) (f1 : (List (Int × Int)) → List Int → Int → Int → List Int → Option R49) (f2 : (List (Int × Int)) → List Int → Int → Int → Int → Int → Int → Int → List Int → Option R49) (l0 : List (Int × Int)) (order1 : List Int) (p6 : Int) (most7 : Int) (v15 : Int) (v16 : Int) (v20 : Int) (v21 : Int) (out5 : List Int) : Option R49 :=
    (bif decide (v21 < v20) then (bif bounds none (some (wr .i64 (v21 + 1))) none order1.length then DL49_3 n f1 f2 n.1 l0 order1 p6 most7 v21 0 v15 v16 v20 v21 (order1.take (Int.toNat (wr .i64 (v21 + 1)))) ((order1.take (Int.toNat (wr .i64 (v21 + 1)))).length : Int) 0 out5
      else none)
    else (bif decide (out5.length + [most7].length ≤ lim) then f1 l0 order1 v15 (wr .i64 (v16 + 1)) (out5 ++ [most7])
      else none))
noncomputable def DL49_2 (n : Nat × Nat) (f1 : (List (Int × Int)) → List Int → Int → Int → List Int → Option R49) (m : Nat) : (List (Int × Int)) → List Int → Int → Int → Int → Int → Int → Int → List Int → Option R49 := Nat.rec (motive := fun _ => (List (Int × Int)) → List Int → Int → Int → Int → Int → Int → Int → List Int → Option R49) (fun _ _ _ _ _ _ _ _ _ => none) (fun _ ih => DF49_2 n f1 ih) m
theorem DL49_2_succ (n : Nat × Nat) (f1 : (List (Int × Int)) → List Int → Int → Int → List Int → Option R49) (m : Nat) : DL49_2 n f1 (m + 1) = DF49_2 n f1 (DL49_2 n f1 m) := rfl
theorem DL49_2_eq (n : Nat × Nat) (hn : n.2 = 1) (m1 : Nat) : ∀ m, L49_2 n m1 m = DL49_2 n (L49_1 n m1) m
  | 0 => by funext l0 order1 p6 most7 v15 v16 v20 v21 out5; kernel_rfl
  | m + 1 => by
    have ih := DL49_2_eq n hn m1 m
    funext l0 order1 p6 most7 v15 v16 v20 v21 out5; refine (L49_2_eq n m1 m l0 order1 p6 most7 v15 v16 v20 v21 out5).trans ?_
    rw [DL49_2_succ]
    unfold DF49_2
    (try simp only [ih, DL49_4_eq n hn, DL49_3_eq n hn]) <;> first | with_reducible rfl | rfl
noncomputable def DF49_1 (n : Nat × Nat) (f1 : (List (Int × Int)) → List Int → Int → Int → List Int → Option R49) (l0 : List (Int × Int)) (order1 : List Int) (v15 : Int) (v16 : Int) (out5 : List Int) : Option R49 :=
    (bif decide (v16 < v15) then DL49_2 n f1 n.1 l0 order1 v16 0 v15 v16 (wr .i64 (v16 + 1)) 0 out5
    else some out5)
noncomputable def DL49_1 (n : Nat × Nat) (m : Nat) : (List (Int × Int)) → List Int → Int → Int → List Int → Option R49 := Nat.rec (motive := fun _ => (List (Int × Int)) → List Int → Int → Int → List Int → Option R49) (fun _ _ _ _ _ => none) (fun _ ih => DF49_1 n ih) m
theorem DL49_1_succ (n : Nat × Nat) (m : Nat) : DL49_1 n (m + 1) = DF49_1 n (DL49_1 n m) := rfl
theorem DL49_1_eq (n : Nat × Nat) (hn : n.2 = 1) : ∀ m, L49_1 n m = DL49_1 n m
  | 0 => by funext l0 order1 v15 v16 out5; kernel_rfl
  | m + 1 => by
    have ih := DL49_1_eq n hn m
    funext l0 order1 v15 v16 out5; refine (L49_1_eq n m l0 order1 v15 v16 out5).trans ?_
    rw [DL49_1_succ]
    unfold DF49_1
    (try simp only [ih, DL49_4_eq n hn, DL49_3_eq n hn, DL49_2_eq n hn]) <;> first | with_reducible rfl | rfl
noncomputable def D49 (n : Nat × Nat) (l0 : List (Int × Int)) (order1 : List Int) : Option R49 :=
    DL49_1 n n.1 l0 order1 (order1.length : Int) 0 []
theorem S49_D (n : Nat × Nat) (hn : n.2 = 1) : S49 n = D49 n := by
  funext l0 order1; refine (S49_eq n l0 order1).trans ?_
  unfold D49
  (try simp only [DL49_4_eq n hn, DL49_3_eq n hn, DL49_2_eq n hn, DL49_1_eq n hn]) <;> first | with_reducible rfl | rfl
end Go.Proofs.Ytnlbhjmbaedadaa
set_option linter.unusedVariables false
set_option linter.unusedSimpArgs false
set_option maxRecDepth 100000
namespace Go.Proofs.Ytnlbhjmbaedadaa
open Go.Vi
/-D 46 -/
noncomputable def D46 (n : Nat × Nat) (l0 : List (Int × Int)) (order1 : List Int) : Option R46 :=
    (D49 n l0 order1).bind fun r1' =>
    (bif inB (wr .i64 ((order1.length : Int) - 1)) r1'.length then (idx r1' (wr .i64 ((order1.length : Int) - 1))).bind fun x2' =>
      some x2'
    else none)
theorem S46_D (n : Nat × Nat) (hn : n.2 = 1) : S46 n = D46 n := by
  funext l0 order1; refine (S46_eq n l0 order1).trans ?_
  unfold D46
  (try simp only [S49_D n hn]) <;> first | with_reducible rfl | rfl
end Go.Proofs.Ytnlbhjmbaedadaa
set_option linter.unusedVariables false
set_option linter.unusedSimpArgs false
set_option maxRecDepth 100000
namespace Go.Proofs.Ytnlbhjmbaedadaa
open Go.Vi
/-D 48 -/
noncomputable def DF48_1 (n : Nat × Nat) (f1 : Int → Int → Int → Int → Int → Int → Int → Int → Int → List Int → Option R48) (v11 : Int) (v12 : Int) (v3_0 : Int) (v3_1 : Int) (v3_2 : Int) (v3_3 : Int) (v3_4 : Int) (v3_5 : Int) (v3_6 : Int) (to5 : List Int) : Option R48 :=
    (bif decide (v12 < v11) then (bif inB v12 to5.length then (idx to5 v12).bind fun x1' =>
        (bif inB v12 7 then (idx [v3_0, v3_1, v3_2, v3_3, v3_4, v3_5, v3_6] v12).bind fun x2' =>
          (bif (wr .i64 (v12 + 1)) == 0 then none
          else (bif inB (Int.tmod (wr .i64 x2') (wr .i64 (v12 + 1))) (to5.set (Int.toNat v12) v12).length then (idx (to5.set (Int.toNat v12) v12) (Int.tmod (wr .i64 x2') (wr .i64 (v12 + 1)))).bind fun x3' =>
              (bif inB v12 (to5.set (Int.toNat v12) v12).length then (idx (to5.set (Int.toNat v12) v12) v12).bind fun x4' =>
                (bif inB v12 (to5.set (Int.toNat v12) v12).length then (idx (to5.set (Int.toNat v12) v12) v12).bind fun x5' =>
                  (bif inB (Int.tmod (wr .i64 x2') (wr .i64 (v12 + 1))) ((to5.set (Int.toNat v12) v12).set (Int.toNat v12) x3').length then (idx ((to5.set (Int.toNat v12) v12).set (Int.toNat v12) x3') (Int.tmod (wr .i64 x2') (wr .i64 (v12 + 1)))).bind fun x6' =>
                    f1 v11 (wr .i64 (v12 + 1)) v3_0 v3_1 v3_2 v3_3 v3_4 v3_5 v3_6 (((to5.set (Int.toNat v12) v12).set (Int.toNat v12) x3').set (Int.toNat (Int.tmod (wr .i64 x2') (wr .i64 (v12 + 1)))) x4')
                  else none)
                else none)
              else none)
            else none))
        else none)
      else none)
    else some to5)
noncomputable def DL48_1 (n : Nat × Nat) (m : Nat) : Int → Int → Int → Int → Int → Int → Int → Int → Int → List Int → Option R48 := Nat.rec (motive := fun _ => Int → Int → Int → Int → Int → Int → Int → Int → Int → List Int → Option R48) (fun _ _ _ _ _ _ _ _ _ _ => none) (fun _ ih => DF48_1 n ih) m
theorem DL48_1_succ (n : Nat × Nat) (m : Nat) : DL48_1 n (m + 1) = DF48_1 n (DL48_1 n m) := rfl
theorem DL48_1_eq (n : Nat × Nat) (hn : n.2 = 1) : ∀ m, L48_1 n m = DL48_1 n m
  | 0 => by funext v11 v12 v3_0 v3_1 v3_2 v3_3 v3_4 v3_5 v3_6 to5; kernel_rfl
  | m + 1 => by
    have ih := DL48_1_eq n hn m
    funext v11 v12 v3_0 v3_1 v3_2 v3_3 v3_4 v3_5 v3_6 to5; refine (L48_1_eq n m v11 v12 v3_0 v3_1 v3_2 v3_3 v3_4 v3_5 v3_6 to5).trans ?_
    rw [DL48_1_succ]
    unfold DF48_1
    (try simp only [ih]) <;> first | with_reducible rfl | rfl
noncomputable def D48 (n : Nat × Nat) (v0 : Int) (v1 : Int × Int × Int × Int × Int × Int × Int) : Option R48 :=
    (bif decide (0 ≤ v0) && decide (v0 ≤ v0) && decide (v0 ≤ lim) then DL48_1 n n.1 ((List.replicate (Int.toNat v0) (0 : Int)).length : Int) 0 v1.1 v1.2.1 v1.2.2.1 v1.2.2.2.1 v1.2.2.2.2.1 v1.2.2.2.2.2.1 v1.2.2.2.2.2.2 (List.replicate (Int.toNat v0) (0 : Int))
    else none)
theorem S48_D (n : Nat × Nat) (hn : n.2 = 1) : S48 n = D48 n := by
  funext v0 v1; refine (S48_eq n v0 v1).trans ?_
  unfold D48
  (try simp only [DL48_1_eq n hn]) <;> first | with_reducible rfl | rfl
end Go.Proofs.Ytnlbhjmbaedadaa
set_option linter.unusedVariables false
set_option linter.unusedSimpArgs false
set_option maxRecDepth 100000
namespace Go.Proofs.Ytnlbhjmbaedadaa
open Go.Vi
/-D 7 -/
noncomputable def DL7_4 (n : Nat × Nat) (f1 : (List (Int × Int)) → Int → Int → Int → Int → Int → List Int → Option R7) (f2 : (List (Int × Int)) → Int → Int → Int → Int → Int → Int → Int → Int → Int → List Int → Option R7) (l5 : List (Int × Int)) (v14 : Int) (v17 : Int) (want19 : Int) (p20 : Int) (sum21 : Int) (v125 : Int) (v126 : Int) (v130 : Int) (v131 : Int) (o6 : List Int) : Option R7 :=
    f2 l5 v14 v17 want19 p20 sum21 v125 v126 v130 (wr .i64 (v131 + 1)) o6
theorem DL7_4_eq (n : Nat × Nat) (hn : n.2 = 1) (m1 m2 : Nat) : L7_4 n m1 m2 = DL7_4 n (L7_2 n m1) (L7_3 n m1 m2) := by
  funext l5 v14 v17 want19 p20 sum21 v125 v126 v130 v131 o6; refine ((held_eq hn _).trans (L7_4_raw n m1 m2 l5 v14 v17 want19 p20 sum21 v125 v126 v130 v131 o6)).trans ?_
  unfold DL7_4
  (try simp only [S14_D n hn, S16_D n hn, S18_D n hn, S19_D n hn, S21_D n hn, S23_D n hn, S43_D n hn, S46_D n hn, S48_D n hn, S49_D n hn]) <;> first | with_reducible rfl | rfl
noncomputable def DL7_5 (n : Nat × Nat) (f1 : (List (Int × Int)) → Int → Int → Int → Int → Int → List Int → Option R7) (l5 : List (Int × Int)) (v14 : Int) (v17 : Int) (want19 : Int) (v125 : Int) (v126 : Int) (o6 : List Int) : Option R7 :=
    f1 l5 v14 v17 want19 v125 (wr .i64 (v126 + 1)) o6
theorem DL7_5_eq (n : Nat × Nat) (hn : n.2 = 1) (m1 : Nat) : L7_5 n m1 = DL7_5 n (L7_2 n m1) := by
  funext l5 v14 v17 want19 v125 v126 o6; refine ((held_eq hn _).trans (L7_5_raw n m1 l5 v14 v17 want19 v125 v126 o6)).trans ?_
  unfold DL7_5
  (try simp only [DL7_4_eq n hn, S14_D n hn, S16_D n hn, S18_D n hn, S19_D n hn, S21_D n hn, S23_D n hn, S43_D n hn, S46_D n hn, S48_D n hn, S49_D n hn]) <;> first | with_reducible rfl | rfl
noncomputable def DF7_3 (n : Nat × Nat) (f1 : (List (Int × Int)) → Int → Int → Int → Int → Int → List Int → Option R7) (f2 : (List (Int × Int)) → Int → Int → Int → Int → Int → Int → Int → Int → Int → List Int → Option R7) (l5 : List (Int × Int)) (v14 : Int) (v17 : Int) (want19 : Int) (p20 : Int) (sum21 : Int) (v125 : Int) (v126 : Int) (v130 : Int) (v131 : Int) (o6 : List Int) : Option R7 :=
    (bif decide (v131 < v130) then (bif inB v131 o6.length then (idx o6 v131).bind fun x22' =>
        (bif decide (v131 ≤ p20) then (idx l5 x22').bind fun x23' =>
          (bif decide (v131 ≥ p20) then (idx l5 x22').bind fun x24' =>
            DL7_4 n f1 f2 l5 v14 v17 want19 p20 (wr .i64 ((wr .i64 (sum21 + x23'.1)) + x24'.2)) v125 v126 v130 v131 o6
          else DL7_4 n f1 f2 l5 v14 v17 want19 p20 (wr .i64 (sum21 + x23'.1)) v125 v126 v130 v131 o6)
        else (bif decide (v131 ≥ p20) then (idx l5 x22').bind fun x25' =>
            DL7_4 n f1 f2 l5 v14 v17 want19 p20 (wr .i64 (sum21 + x25'.2)) v125 v126 v130 v131 o6
          else DL7_4 n f1 f2 l5 v14 v17 want19 p20 sum21 v125 v126 v130 v131 o6))
      else none)
    else (bif decide (sum21 > v14) then some false
      else ((bif ((sum21 == v14) == true) then some (decide (want19 < 0))
          else some false)).bind fun b26' =>
        (bif b26' then DL7_5 n f1 l5 v14 v17 p20 v125 v126 o6
        else DL7_5 n f1 l5 v14 v17 want19 v125 v126 o6)))
noncomputable def DL7_3 (n : Nat × Nat) (f1 : (List (Int × Int)) → Int → Int → Int → Int → Int → List Int → Option R7) (m : Nat) : (List (Int × Int)) → Int → Int → Int → Int → Int → Int → Int → Int → Int → List Int → Option R7 := Nat.rec (motive := fun _ => (List (Int × Int)) → Int → Int → Int → Int → Int → Int → Int → Int → Int → List Int → Option R7) (fun _ _ _ _ _ _ _ _ _ _ _ => none) (fun _ ih => DF7_3 n f1 ih) m
theorem DL7_3_succ (n : Nat × Nat) (f1 : (List (Int × Int)) → Int → Int → Int → Int → Int → List Int → Option R7) (m : Nat) : DL7_3 n f1 (m + 1) = DF7_3 n f1 (DL7_3 n f1 m) := rfl
theorem DL7_3_eq (n : Nat × Nat) (hn : n.2 = 1) (m1 : Nat) : ∀ m, L7_3 n m1 m = DL7_3 n (L7_2 n m1) m
  | 0 => by funext l5 v14 v17 want19 p20 sum21 v125 v126 v130 v131 o6; kernel_rfl
  | m + 1 => by
    have ih := DL7_3_eq n hn m1 m
    funext l5 v14 v17 want19 p20 sum21 v125 v126 v130 v131 o6; refine (L7_3_eq n m1 m l5 v14 v17 want19 p20 sum21 v125 v126 v130 v131 o6).trans ?_
    rw [DL7_3_succ]
    unfold DF7_3
    (try simp only [ih, DL7_4_eq n hn, DL7_5_eq n hn, S14_D n hn, S16_D n hn, S18_D n hn, S19_D n hn, S21_D n hn, S23_D n hn, S43_D n hn, S46_D n hn, S48_D n hn, S49_D n hn]) <;> first | with_reducible rfl | rfl
noncomputable def DF7_2 (n : Nat × Nat) (f1 : (List (Int × Int)) → Int → Int → Int → Int → Int → List Int → Option R7) (l5 : List (Int × Int)) (v14 : Int) (v17 : Int) (want19 : Int) (v125 : Int) (v126 : Int) (o6 : List Int) : Option R7 :=
    (bif decide (v126 < v125) then DL7_3 n f1 n.1 l5 v14 v17 want19 v126 0 v125 v126 (o6.length : Int) 0 o6
    else ((bif ((v17 == want19) == true) then (D14 n).bind fun r20' =>
          some r20'
        else some false)).bind fun b21' =>
      some b21')
noncomputable def DL7_2 (n : Nat × Nat) (m : Nat) : (List (Int × Int)) → Int → Int → Int → Int → Int → List Int → Option R7 := Nat.rec (motive := fun _ => (List (Int × Int)) → Int → Int → Int → Int → Int → List Int → Option R7) (fun _ _ _ _ _ _ _ => none) (fun _ ih => DF7_2 n ih) m
theorem DL7_2_succ (n : Nat × Nat) (m : Nat) : DL7_2 n (m + 1) = DF7_2 n (DL7_2 n m) := rfl
theorem DL7_2_eq (n : Nat × Nat) (hn : n.2 = 1) : ∀ m, L7_2 n m = DL7_2 n m
  | 0 => by funext l5 v14 v17 want19 v125 v126 o6; kernel_rfl
  | m + 1 => by
    have ih := DL7_2_eq n hn m
    funext l5 v14 v17 want19 v125 v126 o6; refine (L7_2_eq n m l5 v14 v17 want19 v125 v126 o6).trans ?_
    rw [DL7_2_succ]
    unfold DF7_2
    (try simp only [ih, DL7_4_eq n hn, DL7_5_eq n hn, DL7_3_eq n hn, S14_D n hn, S16_D n hn, S18_D n hn, S19_D n hn, S21_D n hn, S23_D n hn, S43_D n hn, S46_D n hn, S48_D n hn, S49_D n hn]) <;> first | with_reducible rfl | rfl
noncomputable def DF7_1 (n : Nat × Nat) (f1 : (List (Int × Int)) → Int → Int → Int → Int → List Int → List Int → Option R7) (l5 : List (Int × Int)) (v10 : Int) (work11 : Int) (v55 : Int) (v56 : Int) (o6 : List Int) (v7 : List Int) : Option R7 :=
    (bif decide (v56 < v55) then (bif inB v56 o6.length then (idx o6 v56).bind fun x8' =>
        (idx l5 x8').bind fun x9' =>
        (idx l5 x8').bind fun x10' =>
        (bif inB v56 v7.length then (idx v7 v56).bind fun x11' =>
          (bif (x11' != (wr .i64 (v10 + x9'.1))) then some false
          else f1 l5 (wr .i64 (v10 + x9'.1)) (wr .i64 (work11 + x10'.2)) v55 (wr .i64 (v56 + 1)) o6 v7)
        else none)
      else none)
    else (D19 n l5 o6).bind fun r12' =>
      (D21 n l5 o6).bind fun r13' =>
      (D23 n l5 o6).bind fun r14' =>
      ((bif ((r12'.2 != 0) == false) then some (r13'.2 != 0)
        else some true)).bind fun b15' =>
      ((bif (b15' == false) then some (r14'.2 != 0)
        else some true)).bind fun b16' =>
      ((bif (b16' == false) then (D46 n l5 o6).bind fun r17' =>
          some (r12'.1 != r17')
        else some true)).bind fun b18' =>
      ((bif (b18' == false) then some (r13'.1 != (wr .i64 (r12'.1 - work11)))
        else some true)).bind fun b19' =>
      (bif b19' then some false
      else DL7_2 n n.1 l5 r12'.1 r14'.1 (-1) (o6.length : Int) 0 o6))
noncomputable def DL7_1 (n : Nat × Nat) (m : Nat) : (List (Int × Int)) → Int → Int → Int → Int → List Int → List Int → Option R7 := Nat.rec (motive := fun _ => (List (Int × Int)) → Int → Int → Int → Int → List Int → List Int → Option R7) (fun _ _ _ _ _ _ _ => none) (fun _ ih => DF7_1 n ih) m
theorem DL7_1_succ (n : Nat × Nat) (m : Nat) : DL7_1 n (m + 1) = DF7_1 n (DL7_1 n m) := rfl
theorem DL7_1_eq (n : Nat × Nat) (hn : n.2 = 1) : ∀ m, L7_1 n m = DL7_1 n m
  | 0 => by funext l5 v10 work11 v55 v56 o6 v7; kernel_rfl
  | m + 1 => by
    have ih := DL7_1_eq n hn m
    funext l5 v10 work11 v55 v56 o6 v7; refine (L7_1_eq n m l5 v10 work11 v55 v56 o6 v7).trans ?_
    rw [DL7_1_succ]
    unfold DF7_1
    (try simp only [ih, DL7_4_eq n hn, DL7_5_eq n hn, DL7_3_eq n hn, DL7_2_eq n hn, S14_D n hn, S16_D n hn, S18_D n hn, S19_D n hn, S21_D n hn, S23_D n hn, S43_D n hn, S46_D n hn, S48_D n hn, S49_D n hn]) <;> first | with_reducible rfl | rfl
noncomputable def D7 (n : Nat × Nat) (f0 : Int × Int × (Int × Int) × (Int × Int) × (Int × Int) × (Int × Int) × (Int × Int) × (Int × Int) × Int × Int) (v1 : Int × Int × Int × Int × Int × Int × Int) : Option R7 :=
    (D43 n f0 7).bind fun r1' =>
    (D48 n (r1'.length : Int) v1).bind fun r2' =>
    (D16 n r1' r2').bind fun r3' =>
    ((bif ((r3'.2.2 != 0) == false) then some ((r3'.1.length : Int) != (r1'.length : Int))
      else some true)).bind fun b4' =>
    ((bif (b4' == false) then (D49 n r1' r2').bind fun r5' =>
        (D18 n r3'.2.1 r5').bind fun r6' =>
        some (!r6')
      else some true)).bind fun b7' =>
    (bif b7' then some false
    else DL7_1 n n.1 r1' 0 0 (r2'.length : Int) 0 r2' r3'.1)
theorem S7_D (n : Nat × Nat) (hn : n.2 = 1) : S7 n = D7 n := by
  funext f0 v1; refine (S7_eq n f0 v1).trans ?_
  unfold D7
  (try simp only [DL7_4_eq n hn, DL7_5_eq n hn, DL7_3_eq n hn, DL7_2_eq n hn, DL7_1_eq n hn, S14_D n hn, S16_D n hn, S18_D n hn, S19_D n hn, S21_D n hn, S23_D n hn, S43_D n hn, S46_D n hn, S48_D n hn, S49_D n hn]) <;> first | with_reducible rfl | rfl
end Go.Proofs.Ytnlbhjmbaedadaa
set_option linter.unusedVariables false
set_option linter.unusedSimpArgs false
set_option maxRecDepth 100000
namespace Go.Proofs.Ytnlbhjmbaedadaa
open Go.Vi
/- headword/headwordlaw07.inner -/
abbrev R15 := List (Int × Int)
noncomputable def c15 : Code := bodyOf Try.f15
noncomputable def an15 : Ann := (.s .l (.s .l (.s (.s .l (.j [3] (.j [0, 3, 4] (.s (.s .l (.j [0, 3, 4] .l .l)) (.s (.j [0, 3, 4] .l .l) .l)) .l) .l)) .l)))
def pk15 : List PK := [.c (.sl (.pair (.int .i64) (.int .i64)))]
def rk15 : List RK := [.sl (.pair (.int .i64) (.int .i64)) 2]
noncomputable def rt15 (st : St) : Option R15 := rtG rk15 st
noncomputable def E15 (n : Nat × Nat) : Env := { T := tab, phi := noPhi, eff := fun _ => false, fuel := n.1, hold := n.2 }
noncomputable def kq15_1 (n : Nat × Nat) : St → Option R15 := run (E15 n) (cB (cB (cB c15))) (Ann.snd (Ann.snd (Ann.snd an15))) rt15 (fun _ _ => none) rt15
noncomputable def kc15_2 (n : Nat × Nat) : St → Option R15 := fun s => normC [3] s (kq15_1 n)
noncomputable def xb15_3 (n : Nat × Nat) : Nat → St → Option R15 := fun j s => bif Nat.beq j 0 then normC [3] s (kq15_1 n) else (fun _ _ => none) j s
noncomputable def F15_4 (n : Nat × Nat) : (St → Option R15) → St → Option R15 := fun K s => run (E15 n) (cA (cA (cB (cA (cB (cB c15)))))) (Ann.fst (Ann.fst (Ann.snd (Ann.fst (Ann.snd (Ann.snd an15)))))) (fun s => normC [0, 3, 4] s K) (xb15_3 n) rt15 s
noncomputable def kq15_5 (n : Nat × Nat) (m1 : Nat) : St → Option R15 := run (E15 n) (cB (cA (cA (cB (cA (cB (cB c15))))))) (Ann.snd (Ann.fst (Ann.fst (Ann.snd (Ann.fst (Ann.snd (Ann.snd an15))))))) (fun s => normC [0, 3, 4] s (loopN (F15_4 n) m1)) (xb15_3 n) rt15
noncomputable def kc15_6 (n : Nat × Nat) (m1 : Nat) : St → Option R15 := fun s => normC [0, 3, 4] s (kq15_5 n m1)
noncomputable def kq15_7 (n : Nat × Nat) (m1 : Nat) : St → Option R15 := run (E15 n) (cB (cB (cA (cA (cB (cA (cB (cB c15)))))))) (Ann.snd (Ann.snd (Ann.fst (Ann.fst (Ann.snd (Ann.fst (Ann.snd (Ann.snd an15)))))))) (fun s => normC [0, 3, 4] s (loopN (F15_4 n) m1)) (xb15_3 n) rt15
noncomputable def kc15_8 (n : Nat × Nat) (m1 : Nat) : St → Option R15 := fun s => normC [0, 3, 4] s (kq15_7 n m1)
noncomputable def xb15_9 (n : Nat × Nat) (m1 : Nat) : Nat → St → Option R15 := fun j s => bif Nat.beq j 1 then normC [0, 3, 4] s (kq15_7 n m1) else (xb15_3 n) j s
noncomputable def L15_1 (n : Nat × Nat) (m : Nat) (l0 : List (Int × Int)) (i4 : Int) (out3 : List (Int × Int)) : Option R15 := loopN (F15_4 n) m { tm := [.c (.sl (.pair (.int .i64) (.int .i64)) l0 false), uu, uu, .own 3 none false, .c (.int .i64 i4), uu, uu, uu, uu, uu, uu, uu, uu, uu, uu, uu, uu, uu, uu], hp := (upd emp 3 (.arr (.pair (.int .i64) (.int .i64)) out3 true)) }
theorem L15_1_eq (n : Nat × Nat) (m1 : Nat) (l0 : List (Int × Int)) (i4 : Int) (out3 : List (Int × Int)) : L15_1 n (m1 + 1) l0 i4 out3 =
    (bif decide (i4 < (l0.length : Int)) then (idx l0 i4).bind fun x1' =>
      (bif decide (out3.length + [x1'].length ≤ lim) then L15_1 n m1 l0 (wr .i64 (i4 + 1)) (out3 ++ [x1'])
      else none)
    else some out3) := by kernel_rfl
noncomputable def S15 (n : Nat × Nat) (l0 : List (Int × Int)) : Option R15 := run (E15 n) c15 an15 rt15 (fun _ _ => none) rt15 { tm := [.c (.sl (.pair (.int .i64) (.int .i64)) l0 false), uu, uu, uu, uu, uu, uu, uu, uu, uu, uu, uu, uu, uu, uu, uu, uu, uu, uu], hp := emp }
theorem S15_eq (n : Nat × Nat) (l0 : List (Int × Int)) : S15 n l0 =
    L15_1 n n.1 l0 0 [] := by kernel_rfl
theorem S15_run (n : Nat × Nat) (xs : pksDen pk15) : S15 n xs.1 = runG (E15 n) noScope c15 an15 (rtG rk15) (fun _ _ => none) (rtG rk15) (st0 pk15 xs Try.f15.ntmps) := by kernel_rfl
noncomputable def P15 (n : Nat × Nat) := phiOf pk15 rk15 (fun xs => S15 n xs.1)
theorem call15 : CallOK Try.prog 15 := callOK_of Try.func15 (by kernel_rfl) (by kernel_rfl)
theorem env15 (n : Nat × Nat) : EnvOK Try.prog (E15 n) := envOK0 noPhi_ok rfl rfl
theorem par15 (n : Nat × Nat) : EnvPar (E15 n) := envPar0 noPhi_par rfl
theorem FC15 (n : Nat × Nat) : FCs Try.prog 15 (P15 n) := phiOf_FCs fun xs r h vs hv => FC.of_runG tabOK eqsOK (env15 n) (par15 n) mixed (fun _ => noScope_ok) Try.func15 (c := c15) (an := an15) (pks := pk15) (rks := rk15) (by kernel_rfl) (by kernel_rfl) hv ((S15_run n xs).symm.trans h)
end Go.Proofs.Ytnlbhjmbaedadaa
set_option linter.unusedVariables false
set_option linter.unusedSimpArgs false
set_option maxRecDepth 100000
namespace Go.Proofs.Ytnlbhjmbaedadaa
open Go.Vi
/-D 15 -/
noncomputable def DF15_1 (n : Nat × Nat) (f1 : (List (Int × Int)) → Int → (List (Int × Int)) → Option R15) (l0 : List (Int × Int)) (i4 : Int) (out3 : List (Int × Int)) : Option R15 :=
    (bif decide (i4 < (l0.length : Int)) then (idx l0 i4).bind fun x1' =>
      (bif decide (out3.length + [x1'].length ≤ lim) then f1 l0 (wr .i64 (i4 + 1)) (out3 ++ [x1'])
      else none)
    else some out3)
noncomputable def DL15_1 (n : Nat × Nat) (m : Nat) : (List (Int × Int)) → Int → (List (Int × Int)) → Option R15 := Nat.rec (motive := fun _ => (List (Int × Int)) → Int → (List (Int × Int)) → Option R15) (fun _ _ _ => none) (fun _ ih => DF15_1 n ih) m
theorem DL15_1_succ (n : Nat × Nat) (m : Nat) : DL15_1 n (m + 1) = DF15_1 n (DL15_1 n m) := rfl
theorem DL15_1_eq (n : Nat × Nat) (hn : n.2 = 1) : ∀ m, L15_1 n m = DL15_1 n m
  | 0 => by funext l0 i4 out3; kernel_rfl
  | m + 1 => by
    have ih := DL15_1_eq n hn m
    funext l0 i4 out3; refine (L15_1_eq n m l0 i4 out3).trans ?_
    rw [DL15_1_succ]
    unfold DF15_1
    (try simp only [ih]) <;> first | with_reducible rfl | rfl
noncomputable def D15 (n : Nat × Nat) (l0 : List (Int × Int)) : Option R15 :=
    DL15_1 n n.1 l0 0 []
theorem S15_D (n : Nat × Nat) (hn : n.2 = 1) : S15 n = D15 n := by
  funext l0; refine (S15_eq n l0).trans ?_
  unfold D15
  (try simp only [DL15_1_eq n hn]) <;> first | with_reducible rfl | rfl
end Go.Proofs.Ytnlbhjmbaedadaa
set_option linter.unusedVariables false
set_option linter.unusedSimpArgs false
set_option maxRecDepth 100000
namespace Go.Proofs.Ytnlbhjmbaedadaa
open Go.Vi
/- headword/headwordref07.in -/
abbrev R68 := Bool
noncomputable def c68 : Code := bodyOf Try.f68
noncomputable def an68 : Ann := .l
def pk68 : List PK := [.c (.int .i64), .c (.int .i64), .c (.int .i64)]
def rk68 : List RK := [.c .bool 6]
noncomputable def rt68 (st : St) : Option R68 := rtG rk68 st
noncomputable def E68 (n : Nat × Nat) : Env := { T := tab, phi := noPhi, eff := fun _ => false, fuel := n.1, hold := n.2 }
noncomputable def S68 (n : Nat × Nat) (v0 : Int) (lo1 : Int) (hi2 : Int) : Option R68 := run (E68 n) c68 an68 rt68 (fun _ _ => none) rt68 { tm := [.c (.int .i64 v0), .c (.int .i64 lo1), .c (.int .i64 hi2), uu, uu, uu, uu, uu, uu, uu, uu, uu, uu, uu, uu], hp := emp }
theorem S68_eq (n : Nat × Nat) (v0 : Int) (lo1 : Int) (hi2 : Int) : S68 n v0 lo1 hi2 =
    ((bif (decide (v0 ≥ lo1) == true) then some (decide (v0 ≤ hi2))
      else some false)).bind fun b1' =>
    some b1' := by kernel_rfl
theorem S68_run (n : Nat × Nat) (xs : pksDen pk68) : S68 n xs.1 xs.2.1 xs.2.2.1 = runG (E68 n) noScope c68 an68 (rtG rk68) (fun _ _ => none) (rtG rk68) (st0 pk68 xs Try.f68.ntmps) := by kernel_rfl
noncomputable def P68 (n : Nat × Nat) := phiOf pk68 rk68 (fun xs => S68 n xs.1 xs.2.1 xs.2.2.1)
theorem call68 : CallOK Try.prog 68 := callOK_of Try.func68 (by kernel_rfl) (by kernel_rfl)
theorem env68 (n : Nat × Nat) : EnvOK Try.prog (E68 n) := envOK0 noPhi_ok rfl rfl
theorem par68 (n : Nat × Nat) : EnvPar (E68 n) := envPar0 noPhi_par rfl
theorem FC68 (n : Nat × Nat) : FCs Try.prog 68 (P68 n) := phiOf_FCs fun xs r h vs hv => FC.of_runG tabOK eqsOK (env68 n) (par68 n) mixed (fun _ => noScope_ok) Try.func68 (c := c68) (an := an68) (pks := pk68) (rks := rk68) (by kernel_rfl) (by kernel_rfl) hv ((S68_run n xs).symm.trans h)
end Go.Proofs.Ytnlbhjmbaedadaa
set_option linter.unusedVariables false
set_option linter.unusedSimpArgs false
set_option maxRecDepth 100000
namespace Go.Proofs.Ytnlbhjmbaedadaa
open Go.Vi
/- headword/headwordref07.Check -/
abbrev R26 := Int
noncomputable def c26 : Code := bodyOf Try.f26
noncomputable def an26 : Ann := (.s .l (.s (.s .l (.j [0, 24, 25, 26, 27, 28, 29, 30] .l .l)) (.s (.s .l (.j [0, 24, 25, 26, 27, 28, 29, 30] .l .l)) (.s (.s .l (.j [] (.j [0, 3, 24, 25, 26, 27, 28, 29, 30] (.s (.s .l (.j [0, 3, 24, 25, 26, 27, 28, 29, 30] .l .l)) (.s (.j [0, 3, 24, 25, 26, 27, 28, 29, 30] (.s .l (.j [0, 3, 24, 25, 26, 27, 28, 29, 30] .l .l)) .l) .l)) .l) .l)) .l))))
def pk26 : List PK := [.c (.sl (.pair (.int .i64) (.int .i64)))]
def rk26 : List RK := [.c (.int .i64) 2]
noncomputable def rt26 (st : St) : Option R26 := rtG rk26 st
noncomputable def E26 (n : Nat × Nat) : Env := { T := tab, phi := (consPhi 68 (fun _ => true) (P68 n) noPhi), eff := fun _ => false, fuel := n.1, hold := n.2 }
noncomputable def kq26_1 (n : Nat × Nat) : St → Option R26 := run (E26 n) (cB (cB c26)) (Ann.snd (Ann.snd an26)) rt26 (fun _ _ => none) rt26
noncomputable def kc26_2 (n : Nat × Nat) : St → Option R26 := fun s => normC [0, 24, 25, 26, 27, 28, 29, 30] s (kq26_1 n)
noncomputable def kq26_3 (n : Nat × Nat) : St → Option R26 := run (E26 n) (cB (cB (cB c26))) (Ann.snd (Ann.snd (Ann.snd an26))) rt26 (fun _ _ => none) rt26
noncomputable def kc26_4 (n : Nat × Nat) : St → Option R26 := fun s => normC [0, 24, 25, 26, 27, 28, 29, 30] s (kq26_3 n)
noncomputable def kq26_5 (n : Nat × Nat) : St → Option R26 := run (E26 n) (cB (cB (cB (cB c26)))) (Ann.snd (Ann.snd (Ann.snd (Ann.snd an26)))) rt26 (fun _ _ => none) rt26
noncomputable def kc26_6 (n : Nat × Nat) : St → Option R26 := fun s => normC [] s (kq26_5 n)
noncomputable def xb26_7 (n : Nat × Nat) : Nat → St → Option R26 := fun j s => bif Nat.beq j 0 then normC [] s (kq26_5 n) else (fun _ _ => none) j s
noncomputable def F26_8 (n : Nat × Nat) : (St → Option R26) → St → Option R26 := fun K s => run (E26 n) (cA (cA (cB (cA (cB (cB (cB c26))))))) (Ann.fst (Ann.fst (Ann.snd (Ann.fst (Ann.snd (Ann.snd (Ann.snd an26))))))) (fun s => normC [0, 3, 24, 25, 26, 27, 28, 29, 30] s K) (xb26_7 n) rt26 s
noncomputable def kq26_9 (n : Nat × Nat) (m1 : Nat) : St → Option R26 := run (E26 n) (cB (cA (cA (cB (cA (cB (cB (cB c26)))))))) (Ann.snd (Ann.fst (Ann.fst (Ann.snd (Ann.fst (Ann.snd (Ann.snd (Ann.snd an26)))))))) (fun s => normC [0, 3, 24, 25, 26, 27, 28, 29, 30] s (loopN (F26_8 n) m1)) (xb26_7 n) rt26
noncomputable def kc26_10 (n : Nat × Nat) (m1 : Nat) : St → Option R26 := fun s => normC [0, 3, 24, 25, 26, 27, 28, 29, 30] s (kq26_9 n m1)
noncomputable def kq26_11 (n : Nat × Nat) (m1 : Nat) : St → Option R26 := run (E26 n) (cB (cB (cA (cA (cB (cA (cB (cB (cB c26))))))))) (Ann.snd (Ann.snd (Ann.fst (Ann.fst (Ann.snd (Ann.fst (Ann.snd (Ann.snd (Ann.snd an26))))))))) (fun s => normC [0, 3, 24, 25, 26, 27, 28, 29, 30] s (loopN (F26_8 n) m1)) (xb26_7 n) rt26
noncomputable def kc26_12 (n : Nat × Nat) (m1 : Nat) : St → Option R26 := fun s => normC [0, 3, 24, 25, 26, 27, 28, 29, 30] s (kq26_11 n m1)
noncomputable def xb26_13 (n : Nat × Nat) (m1 : Nat) : Nat → St → Option R26 := fun j s => bif Nat.beq j 1 then normC [0, 3, 24, 25, 26, 27, 28, 29, 30] s (kq26_11 n m1) else (xb26_7 n) j s
noncomputable def kc26_14 (n : Nat × Nat) (m1 : Nat) : St → Option R26 := fun s => normC [0, 3, 24, 25, 26, 27, 28, 29, 30] s (kc26_12 n m1)
noncomputable def L26_1 (n : Nat × Nat) (m : Nat) (sheets0 : List (Int × Int)) (i3 : Int) : Option R26 := loopN (F26_8 n) m { tm := [.c (.sl (.pair (.int .i64) (.int .i64)) sheets0 false), uu, uu, .c (.int .i64 i3), uu, uu, uu, uu, uu, uu, uu, uu, uu, uu, uu, uu, uu, uu, uu, uu, uu, uu, uu, uu, uu, uu, uu, uu, uu, uu, uu, uu], hp := emp }
theorem L26_1_eq (n : Nat × Nat) (m1 : Nat) (sheets0 : List (Int × Int)) (i3 : Int) : L26_1 n (m1 + 1) sheets0 i3 =
    (bif decide (i3 < (sheets0.length : Int)) then (idx sheets0 i3).bind fun x1' =>
      (S68 n x1'.1 0 50).bind fun r2' =>
      ((bif ((!r2') == false) then (idx sheets0 i3).bind fun x3' =>
          (S68 n x3'.2 0 50).bind fun r4' =>
          some (!r4')
        else some true)).bind fun b5' =>
      (bif b5' then some 1
      else L26_1 n m1 sheets0 (wr .i64 (i3 + 1)))
    else some 0) := by kernel_rfl
noncomputable def S26 (n : Nat × Nat) (sheets0 : List (Int × Int)) : Option R26 := run (E26 n) c26 an26 rt26 (fun _ _ => none) rt26 { tm := [.c (.sl (.pair (.int .i64) (.int .i64)) sheets0 false), uu, uu, uu, uu, uu, uu, uu, uu, uu, uu, uu, uu, uu, uu, uu, uu, uu, uu, uu, uu, uu, uu, uu, uu, uu, uu, uu, uu, uu, uu, uu], hp := emp }
theorem S26_eq (n : Nat × Nat) (sheets0 : List (Int × Int)) : S26 n sheets0 =
    (bif ((sheets0.length : Int) == 0) then some 4
    else (bif decide ((sheets0.length : Int) > 7) then some 3
      else L26_1 n n.1 sheets0 0)) := by kernel_rfl
theorem S26_run (n : Nat × Nat) (xs : pksDen pk26) : S26 n xs.1 = runG (E26 n) noScope c26 an26 (rtG rk26) (fun _ _ => none) (rtG rk26) (st0 pk26 xs Try.f26.ntmps) := by kernel_rfl
noncomputable def P26 (n : Nat × Nat) := phiOf pk26 rk26 (fun xs => S26 n xs.1)
theorem call26 : CallOK Try.prog 26 := callOK_of Try.func26 (by kernel_rfl) (by kernel_rfl)
theorem env26 (n : Nat × Nat) : EnvOK Try.prog (E26 n) := envOK0 (consPhi_ok (FC68 n) call68 noPhi_ok) rfl rfl
theorem par26 (n : Nat × Nat) : EnvPar (E26 n) := envPar0 (consPhi_par phiOf_Par1 noPhi_par) rfl
theorem FC26 (n : Nat × Nat) : FCs Try.prog 26 (P26 n) := phiOf_FCs fun xs r h vs hv => FC.of_runG tabOK eqsOK (env26 n) (par26 n) mixed (fun _ => noScope_ok) Try.func26 (c := c26) (an := an26) (pks := pk26) (rks := rk26) (by kernel_rfl) (by kernel_rfl) hv ((S26_run n xs).symm.trans h)
end Go.Proofs.Ytnlbhjmbaedadaa
set_option linter.unusedVariables false
set_option linter.unusedSimpArgs false
set_option maxRecDepth 100000
namespace Go.Proofs.Ytnlbhjmbaedadaa
open Go.Vi
/-D 68 -/
noncomputable def D68 (n : Nat × Nat) (v0 : Int) (lo1 : Int) (hi2 : Int) : Option R68 :=
    ((bif (decide (v0 ≥ lo1) == true) then some (decide (v0 ≤ hi2))
      else some false)).bind fun b1' =>
    some b1'
theorem S68_D (n : Nat × Nat) (hn : n.2 = 1) : S68 n = D68 n := by
  funext v0 lo1 hi2; refine (S68_eq n v0 lo1 hi2).trans ?_
  unfold D68
  first | with_reducible rfl | rfl
end Go.Proofs.Ytnlbhjmbaedadaa
set_option linter.unusedVariables false
set_option linter.unusedSimpArgs false
set_option maxRecDepth 100000
namespace Go.Proofs.Ytnlbhjmbaedadaa
open Go.Vi
/-D 26 -/
noncomputable def DF26_1 (n : Nat × Nat) (f1 : (List (Int × Int)) → Int → Option R26) (sheets0 : List (Int × Int)) (i3 : Int) : Option R26 :=
    (bif decide (i3 < (sheets0.length : Int)) then (idx sheets0 i3).bind fun x1' =>
      (D68 n x1'.1 0 50).bind fun r2' =>
      ((bif ((!r2') == false) then (idx sheets0 i3).bind fun x3' =>
          (D68 n x3'.2 0 50).bind fun r4' =>
          some (!r4')
        else some true)).bind fun b5' =>
      (bif b5' then some 1
      else f1 sheets0 (wr .i64 (i3 + 1)))
    else some 0)
noncomputable def DL26_1 (n : Nat × Nat) (m : Nat) : (List (Int × Int)) → Int → Option R26 := Nat.rec (motive := fun _ => (List (Int × Int)) → Int → Option R26) (fun _ _ => none) (fun _ ih => DF26_1 n ih) m
theorem DL26_1_succ (n : Nat × Nat) (m : Nat) : DL26_1 n (m + 1) = DF26_1 n (DL26_1 n m) := rfl
theorem DL26_1_eq (n : Nat × Nat) (hn : n.2 = 1) : ∀ m, L26_1 n m = DL26_1 n m
  | 0 => by funext sheets0 i3; kernel_rfl
  | m + 1 => by
    have ih := DL26_1_eq n hn m
    funext sheets0 i3; refine (L26_1_eq n m sheets0 i3).trans ?_
    rw [DL26_1_succ]
    unfold DF26_1
    (try simp only [ih, S68_D n hn]) <;> first | with_reducible rfl | rfl
noncomputable def D26 (n : Nat × Nat) (sheets0 : List (Int × Int)) : Option R26 :=
    (bif ((sheets0.length : Int) == 0) then some 4
    else (bif decide ((sheets0.length : Int) > 7) then some 3
      else DL26_1 n n.1 sheets0 0))
theorem S26_D (n : Nat × Nat) (hn : n.2 = 1) : S26 n = D26 n := by
  funext sheets0; refine (S26_eq n sheets0).trans ?_
  unfold D26
  (try simp only [DL26_1_eq n hn, S68_D n hn]) <;> first | with_reducible rfl | rfl
end Go.Proofs.Ytnlbhjmbaedadaa
set_option linter.unusedVariables false
set_option linter.unusedSimpArgs false
set_option maxRecDepth 100000
namespace Go.Proofs.Ytnlbhjmbaedadaa
open Go.Vi
/- headword/headwordref07.has -/
abbrev R83 := Bool
noncomputable def c83 : Code := bodyOf Try.f83
noncomputable def an83 : Ann := (.s .l (.s (.s .l (.j [] (.j [0, 1, 5] (.s (.s .l (.j [0, 1, 5] .l .l)) (.s (.j [0, 1, 5] (.s .l (.j [0, 1, 5] .l .l)) .l) .l)) .l) .l)) .l))
def pk83 : List PK := [.c (.sl (.int .i64)), .c (.int .i64)]
def rk83 : List RK := [.c .bool 4]
noncomputable def rt83 (st : St) : Option R83 := rtG rk83 st
noncomputable def E83 (n : Nat × Nat) : Env := { T := tab, phi := noPhi, eff := fun _ => false, fuel := n.1, hold := n.2 }
noncomputable def kq83_1 (n : Nat × Nat) : St → Option R83 := run (E83 n) (cB (cB c83)) (Ann.snd (Ann.snd an83)) rt83 (fun _ _ => none) rt83
noncomputable def kc83_2 (n : Nat × Nat) : St → Option R83 := fun s => normC [] s (kq83_1 n)
noncomputable def xb83_3 (n : Nat × Nat) : Nat → St → Option R83 := fun j s => bif Nat.beq j 0 then normC [] s (kq83_1 n) else (fun _ _ => none) j s
noncomputable def F83_4 (n : Nat × Nat) : (St → Option R83) → St → Option R83 := fun K s => run (E83 n) (cA (cA (cB (cA (cB c83))))) (Ann.fst (Ann.fst (Ann.snd (Ann.fst (Ann.snd an83))))) (fun s => normC [0, 1, 5] s K) (xb83_3 n) rt83 s
noncomputable def kq83_5 (n : Nat × Nat) (m1 : Nat) : St → Option R83 := run (E83 n) (cB (cA (cA (cB (cA (cB c83)))))) (Ann.snd (Ann.fst (Ann.fst (Ann.snd (Ann.fst (Ann.snd an83)))))) (fun s => normC [0, 1, 5] s (loopN (F83_4 n) m1)) (xb83_3 n) rt83
noncomputable def kc83_6 (n : Nat × Nat) (m1 : Nat) : St → Option R83 := fun s => normC [0, 1, 5] s (kq83_5 n m1)
noncomputable def kq83_7 (n : Nat × Nat) (m1 : Nat) : St → Option R83 := run (E83 n) (cB (cB (cA (cA (cB (cA (cB c83))))))) (Ann.snd (Ann.snd (Ann.fst (Ann.fst (Ann.snd (Ann.fst (Ann.snd an83))))))) (fun s => normC [0, 1, 5] s (loopN (F83_4 n) m1)) (xb83_3 n) rt83
noncomputable def kc83_8 (n : Nat × Nat) (m1 : Nat) : St → Option R83 := fun s => normC [0, 1, 5] s (kq83_7 n m1)
noncomputable def xb83_9 (n : Nat × Nat) (m1 : Nat) : Nat → St → Option R83 := fun j s => bif Nat.beq j 1 then normC [0, 1, 5] s (kq83_7 n m1) else (xb83_3 n) j s
noncomputable def kc83_10 (n : Nat × Nat) (m1 : Nat) : St → Option R83 := fun s => normC [0, 1, 5] s (kc83_8 n m1)
noncomputable def L83_1 (n : Nat × Nat) (m : Nat) (l0 : List Int) (v1 : Int) (i5 : Int) : Option R83 := loopN (F83_4 n) m { tm := [.c (.sl (.int .i64) l0 false), .c (.int .i64 v1), uu, uu, uu, .c (.int .i64 i5), uu, uu, uu, uu, uu, uu, uu, uu, uu, uu, uu, uu], hp := emp }
theorem L83_1_eq (n : Nat × Nat) (m1 : Nat) (l0 : List Int) (v1 : Int) (i5 : Int) : L83_1 n (m1 + 1) l0 v1 i5 =
    (bif decide (i5 < (l0.length : Int)) then (idx l0 i5).bind fun x1' =>
      (bif (x1' == v1) then some true
      else L83_1 n m1 l0 v1 (wr .i64 (i5 + 1)))
    else some false) := by kernel_rfl
noncomputable def S83 (n : Nat × Nat) (l0 : List Int) (v1 : Int) : Option R83 := run (E83 n) c83 an83 rt83 (fun _ _ => none) rt83 { tm := [.c (.sl (.int .i64) l0 false), .c (.int .i64 v1), uu, uu, uu, uu, uu, uu, uu, uu, uu, uu, uu, uu, uu, uu, uu, uu], hp := emp }
theorem S83_eq (n : Nat × Nat) (l0 : List Int) (v1 : Int) : S83 n l0 v1 =
    L83_1 n n.1 l0 v1 0 := by kernel_rfl
theorem S83_run (n : Nat × Nat) (xs : pksDen pk83) : S83 n xs.1 xs.2.1 = runG (E83 n) noScope c83 an83 (rtG rk83) (fun _ _ => none) (rtG rk83) (st0 pk83 xs Try.f83.ntmps) := by kernel_rfl
noncomputable def P83 (n : Nat × Nat) := phiOf pk83 rk83 (fun xs => S83 n xs.1 xs.2.1)
theorem call83 : CallOK Try.prog 83 := callOK_of Try.func83 (by kernel_rfl) (by kernel_rfl)
theorem env83 (n : Nat × Nat) : EnvOK Try.prog (E83 n) := envOK0 noPhi_ok rfl rfl
theorem par83 (n : Nat × Nat) : EnvPar (E83 n) := envPar0 noPhi_par rfl
theorem FC83 (n : Nat × Nat) : FCs Try.prog 83 (P83 n) := phiOf_FCs fun xs r h vs hv => FC.of_runG tabOK eqsOK (env83 n) (par83 n) mixed (fun _ => noScope_ok) Try.func83 (c := c83) (an := an83) (pks := pk83) (rks := rk83) (by kernel_rfl) (by kernel_rfl) hv ((S83_run n xs).symm.trans h)
end Go.Proofs.Ytnlbhjmbaedadaa
set_option linter.unusedVariables false
set_option linter.unusedSimpArgs false
set_option maxRecDepth 100000
namespace Go.Proofs.Ytnlbhjmbaedadaa
open Go.Vi
/-D 83 -/
noncomputable def DF83_1 (n : Nat × Nat) (f1 : List Int → Int → Int → Option R83) (l0 : List Int) (v1 : Int) (i5 : Int) : Option R83 :=
    (bif decide (i5 < (l0.length : Int)) then (idx l0 i5).bind fun x1' =>
      (bif (x1' == v1) then some true
      else f1 l0 v1 (wr .i64 (i5 + 1)))
    else some false)
noncomputable def DL83_1 (n : Nat × Nat) (m : Nat) : List Int → Int → Int → Option R83 := Nat.rec (motive := fun _ => List Int → Int → Int → Option R83) (fun _ _ _ => none) (fun _ ih => DF83_1 n ih) m
theorem DL83_1_succ (n : Nat × Nat) (m : Nat) : DL83_1 n (m + 1) = DF83_1 n (DL83_1 n m) := rfl
theorem DL83_1_eq (n : Nat × Nat) (hn : n.2 = 1) : ∀ m, L83_1 n m = DL83_1 n m
  | 0 => by funext l0 v1 i5; kernel_rfl
  | m + 1 => by
    have ih := DL83_1_eq n hn m
    funext l0 v1 i5; refine (L83_1_eq n m l0 v1 i5).trans ?_
    rw [DL83_1_succ]
    unfold DF83_1
    (try simp only [ih]) <;> first | with_reducible rfl | rfl
noncomputable def D83 (n : Nat × Nat) (l0 : List Int) (v1 : Int) : Option R83 :=
    DL83_1 n n.1 l0 v1 0
theorem S83_D (n : Nat × Nat) (hn : n.2 = 1) : S83 n = D83 n := by
  funext l0 v1; refine (S83_eq n l0 v1).trans ?_
  unfold D83
  (try simp only [DL83_1_eq n hn]) <;> first | with_reducible rfl | rfl
end Go.Proofs.Ytnlbhjmbaedadaa
/-
  Sheets: numbers within their kind, places, lists; what is checked.
-/
set_option linter.unusedVariables false
set_option linter.unusedSimpArgs false
namespace Go.Proofs.Ytnlbhjmbaedadaa
open Go.Vi

theorem hN1 : 1000 ≤ N.1 := by decide
theorem wr_ok {x : Int} (h1 : -9223372036854775808 ≤ x) (h2 : x ≤ 9223372036854775807) : wr .i64 x = x := by
  have : wr .i64 x = (x + 9223372036854775808) % 18446744073709551616 - 9223372036854775808 := by
    simp only [wr, IntKind.wrap, IntKind.signed, IntKind.bits]
    simp
    split <;> omega
  rw [this]
  omega
theorem wr_succ {k : Nat} (h : k < 1000000) : wr .i64 ((k : Int) + 1) = ((k + 1 : Nat) : Int) := by
  rw [wr_ok (by omega) (by omega)]; omega
theorem idx_nat {α : Type} {l : List α} {k : Nat} (h : k < l.length) : idx l (k : Int) = some l[k] := by
  unfold idx
  rw [if_pos (by omega), Int.toNat_natCast, List.getElem?_eq_getElem h]
theorem idx_int {α : Type} {l : List α} {k : Nat} {i : Int} (hi : i = k) (h : k < l.length) : idx l i = some l[k] := by
  subst hi
  exact idx_nat h
theorem drop_cons {α : Type} {l : List α} {k : Nat} (h : k < l.length) : l.drop k = l[k] :: l.drop (k + 1) := List.drop_eq_getElem_cons h
theorem inB_nat {k n : Nat} (h : k < n) : inB (k : Int) n = true := by
  unfold inB
  simp [h]
theorem lim_dec {α : Type} {a : Nat} {x : α} (h : a < 1000000) : decide (a + [x].length ≤ lim) = true := decide_eq_true (by simp [lim]; omega)
theorem dlt_t {a b : Nat} (h : a < b) : decide ((a : Int) < (b : Int)) = true := decide_eq_true (by omega)
theorem dlt_f {a b : Nat} (h : ¬ a < b) : decide ((a : Int) < (b : Int)) = false := decide_eq_false (by omega)
theorem take_snoc {α : Type} {l : List α} {k : Nat} (h : k < l.length) : l.take (k + 1) = l.take k ++ [l[k]] := (List.take_append_getElem h).symm
theorem max_if (a b : Int) : (if b > a then b else a) = max a b := by
  by_cases h : b > a
  · rw [if_pos h, Int.max_eq_right (by omega)]
  · rw [if_neg h, Int.max_eq_left (by omega)]

/-- Two lists are the same. -/
theorem same_loop (n : Nat × Nat) (a b : List Int) (hl : a.length = b.length) (hs : a.length < 1000) : ∀ (m k : Nat), k ≤ a.length → a.length - k < m → DL18_1 n m a b (k : Int) = some (decide (a.drop k = b.drop k))
  | 0, k, _, h => by omega
  | m + 1, k, hk, h => by
    rw [DL18_1_succ]
    unfold DF18_1
    by_cases hlt : k < a.length
    · have ih := same_loop n a b hl hs m (k + 1) (by omega) (by omega)
      rw [dlt_t hlt, cond_true, idx_nat hlt, idx_nat (by omega : k < b.length), wr_succ (by omega), ih, drop_cons hlt, drop_cons (by omega : k < b.length)]
      simp only [Option.bind_some, List.cons.injEq]
      by_cases e : a[k] = b[k]
      · simp [e]
      · rw [show (a[k] != b[k]) = true by simpa using e, cond_true]; simp [e]
    · rw [dlt_f hlt, cond_false, List.drop_of_length_le (by omega), List.drop_of_length_le (by omega)]
      simp
theorem same_eq {n : Nat × Nat} (hn : 1000 ≤ n.1) {a b : List Int} (hs : a.length < 900) : D18 n a b = some (decide (a = b)) := by
  unfold D18
  by_cases hl : a.length = b.length
  · rw [show (((a.length : Int)) != (b.length : Int)) = false by simp [hl], cond_false]
    have := same_loop n a b hl (by omega) n.1 0 (by omega) (by omega)
    simpa using this
  · rw [show (((a.length : Int)) != (b.length : Int)) = true by simpa using (by omega : (a.length : Int) ≠ b.length), cond_true]
    rw [decide_eq_false (fun e => hl (by rw [e]))]

/-- Sheets as they are. -/
theorem inner_loop (n : Nat × Nat) (l : List (Int × Int)) (hs : l.length < 1000) : ∀ (m k : Nat), k ≤ l.length → l.length - k < m → DL15_1 n m l (k : Int) (l.take k) = some l
  | 0, k, _, h => by omega
  | m + 1, k, hk, h => by
    rw [DL15_1_succ]
    unfold DF15_1
    by_cases hlt : k < l.length
    · have ih := inner_loop n l hs m (k + 1) (by omega) (by omega)
      rw [dlt_t hlt, cond_true, idx_nat hlt, wr_succ (by omega), Option.bind_some, lim_dec (by simp; omega), cond_true, ← take_snoc hlt, ih]
    · rw [dlt_f hlt, cond_false, List.take_of_length_le (by omega)]
theorem inner_eq {n : Nat × Nat} (hn : 1000 ≤ n.1) {l : List (Int × Int)} (hs : l.length < 900) : D15 n l = some l := by
  unfold D15
  exact inner_loop n l (by omega) n.1 0 (by omega) (by omega)

/-- A sheet whose hours are as they may be. -/
def Ok (s : Int × Int) : Prop := 0 ≤ s.1 ∧ s.1 ≤ 50 ∧ 0 ≤ s.2 ∧ s.2 ≤ 50
instance (s : Int × Int) : Decidable (Ok s) := by unfold Ok; exact inferInstance
def chkl : List (Int × Int) → Int
  | [] => 0
  | s :: l => if Ok s then chkl l else 1
def chk (l : List (Int × Int)) : Int := if l.length = 0 then 4 else if 7 < l.length then 3 else chkl l
structure Good (l : List (Int × Int)) : Prop where
  pos : 0 < l.length
  len : l.length ≤ 7
  ok : ∀ s ∈ l, Ok s
theorem chkl_zero : ∀ {l : List (Int × Int)}, chkl l = 0 ↔ ∀ s ∈ l, Ok s
  | [] => by simp [chkl]
  | s :: l => by
    unfold chkl
    by_cases h : Ok s
    · rw [if_pos h, chkl_zero]; simp [h]
    · rw [if_neg h]; simp [h]
theorem chk_good {l : List (Int × Int)} : chk l = 0 ↔ Good l := by
  unfold chk
  by_cases h0 : l.length = 0
  · rw [if_pos h0]; exact ⟨fun h => by simp at h, fun h => by have := h.pos; omega⟩
  rw [if_neg h0]
  by_cases h8 : 7 < l.length
  · rw [if_pos h8]; exact ⟨fun h => by simp at h, fun h => by have := h.len; omega⟩
  rw [if_neg h8, chkl_zero]
  exact ⟨fun h => ⟨by omega, by omega, h⟩, fun h => h.ok⟩

theorem chk_loop (n : Nat × Nat) (l : List (Int × Int)) (hs : l.length < 1000) : ∀ (m k : Nat), k ≤ l.length → l.length - k < m → DL25_1 n m l (l.length : Int) (k : Int) = some (chkl (l.drop k))
  | 0, k, _, h => by omega
  | m + 1, k, hk, h => by
    rw [DL25_1_succ]
    unfold DF25_1
    by_cases hlt : k < l.length
    · have ih := chk_loop n l hs m (k + 1) (by omega) (by omega)
      rw [dlt_t hlt, cond_true, idx_nat hlt, wr_succ (by omega), ih, drop_cons hlt]
      generalize l[k] = s
      simp only [Option.bind_some, chkl]
      by_cases hok : Ok s
      · have ho := hok
        unfold Ok at ho
        rw [if_pos hok, decide_eq_false (show ¬ (if s.2 < s.1 then s.2 else s.1) < 0 by split <;> omega), decide_eq_false (show ¬ (if s.2 > s.1 then s.2 else s.1) > 50 by split <;> omega)]
        rfl
      · have ho := hok
        unfold Ok at ho
        rw [if_neg hok]
        by_cases h0 : (if s.2 < s.1 then s.2 else s.1) < 0
        · rw [decide_eq_true h0]; rfl
        · rw [decide_eq_false h0, decide_eq_true (show (if s.2 > s.1 then s.2 else s.1) > 50 by revert h0; split <;> split <;> omega)]
          rfl
    · rw [dlt_f hlt, cond_false, List.drop_of_length_le (by omega)]; rfl
theorem chk_eq {n : Nat × Nat} (hn : 1000 ≤ n.1) (l : List (Int × Int)) : D25 n l = some (chk l) := by
  unfold D25 chk
  by_cases h0 : l.length = 0
  · simp [h0]
  rw [show (((l.length : Int)) == 0) = false by simpa using h0, cond_false, if_neg h0]
  by_cases h8 : 7 < l.length
  · rw [decide_eq_true (show (l.length : Int) > 7 by omega), cond_true, if_pos h8]
  · rw [decide_eq_false (show ¬ (l.length : Int) > 7 by omega), cond_false, if_neg h8]
    exact chk_loop n l (by omega) n.1 0 (by omega) (by omega)

theorem in_eq (n : Nat × Nat) (v lo hi : Int) : D68 n v lo hi = some (decide (lo ≤ v) && decide (v ≤ hi)) := by
  unfold D68
  by_cases h : lo ≤ v <;> simp [h]
theorem chkr_loop (n : Nat × Nat) (l : List (Int × Int)) (hs : l.length < 1000) : ∀ (m k : Nat), k ≤ l.length → l.length - k < m → DL26_1 n m l (k : Int) = some (chkl (l.drop k))
  | 0, k, _, h => by omega
  | m + 1, k, hk, h => by
    rw [DL26_1_succ]
    unfold DF26_1
    by_cases hlt : k < l.length
    · have ih := chkr_loop n l hs m (k + 1) (by omega) (by omega)
      rw [dlt_t hlt, cond_true, idx_nat hlt, wr_succ (by omega), ih, drop_cons hlt]
      generalize l[k] = s
      simp only [Option.bind_some, chkl, in_eq]
      unfold Ok
      by_cases h1 : 0 ≤ s.1 <;> by_cases h2 : s.1 ≤ 50 <;> by_cases h3 : 0 ≤ s.2 <;> by_cases h4 : s.2 ≤ 50 <;> simp [h1, h2, h3, h4]
    · rw [dlt_f hlt, cond_false, List.drop_of_length_le (by omega)]; rfl
theorem chkr_eq {n : Nat × Nat} (hn : 1000 ≤ n.1) (l : List (Int × Int)) : D26 n l = some (chk l) := by
  unfold D26 chk
  by_cases h0 : l.length = 0
  · simp [h0]
  rw [show (((l.length : Int)) == 0) = false by simpa using h0, cond_false, if_neg h0]
  by_cases h8 : 7 < l.length
  · rw [decide_eq_true (show (l.length : Int) > 7 by omega), cond_true, if_pos h8]
  · rw [decide_eq_false (show ¬ (l.length : Int) > 7 by omega), cond_false, if_neg h8]
    exact chkr_loop n l (by omega) n.1 0 (by omega) (by omega)

/-- The first place of a number, or -1. -/
def fdo (v : Int) : Int → List Int → Int
  | _, [] => -1
  | k, x :: l => if v = x then k else fdo v (k + 1) l
theorem index_loop (n : Nat × Nat) (l : List Int) (v : Int) (hs : l.length < 1000) : ∀ (m k : Nat), k ≤ l.length → l.length - k < m → DL65_1 n m l v (l.length : Int) (k : Int) = some (fdo v k (l.drop k))
  | 0, k, _, h => by omega
  | m + 1, k, hk, h => by
    rw [DL65_1_succ]
    unfold DF65_1
    by_cases hlt : k < l.length
    · have ih := index_loop n l v hs m (k + 1) (by omega) (by omega)
      rw [dlt_t hlt, cond_true, idx_nat hlt, wr_succ (by omega), ih, drop_cons hlt]
      simp only [Option.bind_some, fdo]
      by_cases e : v = l[k]
      · rw [show (v == l[k]) = true by simpa using e, cond_true, if_pos e]
      · rw [show (v == l[k]) = false by simpa using e, cond_false, if_neg e]; simp
    · rw [dlt_f hlt, cond_false, List.drop_of_length_le (by omega)]; rfl
theorem index_eq {n : Nat × Nat} (hn : 1000 ≤ n.1) {l : List Int} (hs : l.length < 900) (v : Int) : D65 n l v = some (fdo v 0 l) := by
  unfold D65
  exact index_loop n l v (by omega) n.1 0 (by omega) (by omega)
theorem fdo_nn {v : Int} : ∀ {l : List Int} {k : Int}, 0 ≤ k → (0 ≤ fdo v k l ↔ v ∈ l)
  | [], k, h => by simp [fdo]
  | x :: l, k, h => by
    unfold fdo
    by_cases e : v = x
    · rw [if_pos e]; simp [e, h]
    · rw [if_neg e, fdo_nn (by omega)]; simp [e]
theorem contains_eq {n : Nat × Nat} (hn : 1000 ≤ n.1) {l : List Int} (hs : l.length < 900) (v : Int) : D80 n l v = some (decide (v ∈ l)) := by
  unfold D80
  rw [index_eq hn hs, Option.bind_some]
  congr 1
  exact decide_eq_decide.2 (fdo_nn (by omega))
theorem has_loop (n : Nat × Nat) (l : List Int) (v : Int) (hs : l.length < 1000) : ∀ (m k : Nat), k ≤ l.length → l.length - k < m → DL83_1 n m l v (k : Int) = some (decide (v ∈ l.drop k))
  | 0, k, _, h => by omega
  | m + 1, k, hk, h => by
    rw [DL83_1_succ]
    unfold DF83_1
    by_cases hlt : k < l.length
    · have ih := has_loop n l v hs m (k + 1) (by omega) (by omega)
      rw [dlt_t hlt, cond_true, idx_nat hlt, wr_succ (by omega), ih, drop_cons hlt]
      simp only [Option.bind_some]
      by_cases e : l[k] = v
      · rw [show (l[k] == v) = true by simpa using e, cond_true]; simp [e]
      · rw [show (l[k] == v) = false by simpa using e, cond_false]; simp only [List.mem_cons, show ¬ v = l[k] from fun h => e h.symm, false_or]
    · rw [dlt_f hlt, cond_false, List.drop_of_length_le (by omega)]; simp
theorem has_eq {n : Nat × Nat} (hn : 1000 ≤ n.1) {l : List Int} (hs : l.length < 900) (v : Int) : D83 n l v = some (decide (v ∈ l)) := by
  unfold D83
  have := has_loop n l v (by omega) n.1 0 (by omega) (by omega)
  simpa using this

/-- Sums and greatest numbers. -/
theorem total_loop (n : Nat × Nat) (l : List Int) (hs : l.length < 1000) (hb : ∀ x ∈ l, 0 ≤ x ∧ x ≤ 1000) : ∀ (m k : Nat) (a : Int), k ≤ l.length → l.length - k < m → 0 ≤ a → a ≤ 1000 * k → DL63_1 n m a l (l.length : Int) (k : Int) = some (a + (l.drop k).sum)
  | 0, k, a, _, h, _, _ => by omega
  | m + 1, k, a, hk, h, h0, h1 => by
    rw [DL63_1_succ]
    unfold DF63_1
    by_cases hlt : k < l.length
    · have hx := hb _ (List.getElem_mem hlt)
      have ih := total_loop n l hs hb m (k + 1) (a + l[k]) (by omega) (by omega) (by omega) (by omega)
      rw [dlt_t hlt, cond_true, idx_nat hlt, wr_succ (by omega), Option.bind_some, wr_ok (by omega) (by omega), ih, drop_cons hlt, List.sum_cons, Int.add_assoc]
    · rw [dlt_f hlt, cond_false, List.drop_of_length_le (by omega)]; simp
theorem total_eq {n : Nat × Nat} (hn : 1000 ≤ n.1) {l : List Int} (hs : l.length < 900) (hb : ∀ x ∈ l, 0 ≤ x ∧ x ≤ 1000) : D63 n l = some l.sum := by
  unfold D63
  have := total_loop n l (by omega) hb n.1 0 0 (by omega) (by omega) (by omega) (by omega)
  simpa using this
theorem great_loop (n : Nat × Nat) (l : List Int) (hs : l.length < 1000) : ∀ (m k : Nat) (a : Int), k ≤ l.length → l.length - k < m → DL84_1 n m a l (l.length : Int) (k : Int) = some ((l.drop k).foldl max a)
  | 0, k, a, _, h => by omega
  | m + 1, k, a, hk, h => by
    rw [DL84_1_succ]
    unfold DF84_1
    by_cases hlt : k < l.length
    · have ih := great_loop n l hs m (k + 1) (max a l[k]) (by omega) (by omega)
      rw [dlt_t hlt, cond_true, idx_nat hlt, wr_succ (by omega), Option.bind_some, max_if, ih, drop_cons hlt, List.foldl_cons]
    · rw [dlt_f hlt, cond_false, List.drop_of_length_le (by omega)]; simp
theorem great_eq {n : Nat × Nat} (hn : 1000 ≤ n.1) {l : List Int} (hs : l.length < 900) (a : Int) : D84 n a l = some (l.foldl max a) := by
  unfold D84
  have := great_loop n l (by omega) n.1 0 a (by omega) (by omega)
  simpa using this

/-- What sheets need on a machine. -/
def hr (m : Int) (s : Int × Int) : Int := if m = 0 then s.1 else s.2
theorem all_loop (n : Nat × Nat) (mc : Int) (hm : mc = 0 ∨ mc = 1) (l : List (Int × Int)) (hs : l.length < 1000) : ∀ (m k : Nat), k ≤ l.length → l.length - k < m → DL64_1 n m mc l (l.length : Int) (k : Int) ((l.take k).map (hr mc)) = some (l.map (hr mc))
  | 0, k, _, h => by omega
  | m + 1, k, hk, h => by
    rw [DL64_1_succ]
    unfold DF64_1
    by_cases hlt : k < l.length
    · have ih := all_loop n mc hm l hs m (k + 1) (by omega) (by omega)
      have hi : idx [l[k].1, l[k].2] mc = some (hr mc l[k]) := by
        rcases hm with h | h <;> subst h <;> simp [idx, hr]
      rw [dlt_t hlt, cond_true, idx_nat hlt, Option.bind_some, hi, wr_succ (by omega), Option.bind_some, lim_dec (by simp; omega), cond_true, ← ih, take_snoc hlt, List.map_append]
      rfl
    · rw [dlt_f hlt, cond_false, List.take_of_length_le (by omega)]
theorem all_eq {n : Nat × Nat} (hn : 1000 ≤ n.1) {mc : Int} (hm : mc = 0 ∨ mc = 1) {l : List (Int × Int)} (hs : l.length < 900) : D64 n l mc = some (l.map (hr mc)) := by
  unfold D64
  exact all_loop n mc hm l (by omega) n.1 0 (by omega) (by omega)

/-- Numbers that are no two the same, as many as others among which they are: these. -/
theorem perm_of_sub {α : Type} [BEq α] [LawfulBEq α] : ∀ {l m : List α}, l.Nodup → (∀ x ∈ l, x ∈ m) → m.length ≤ l.length → l.Perm m
  | [], m, _, _, h => by
    rw [List.length_nil] at h
    rw [List.length_eq_zero_iff.1 (by omega : m.length = 0)]
  | a :: l, m, hn, hs, h => by
    have ha := hs a (by simp)
    have hp := List.perm_cons_erase ha
    rw [List.nodup_cons] at hn
    have hl := List.length_erase_of_mem ha
    have hne : ∀ x ∈ l, x ∈ m.erase a := fun x hx => (List.mem_erase_of_ne (fun e => hn.1 (by subst e; exact hx))).2 (hs x (by simp [hx]))
    rw [List.length_cons] at h
    exact (List.Perm.cons a (perm_of_sub hn.2 hne (by omega))).trans hp.symm
theorem sum_perm {l m : List Int} (h : l.Perm m) : l.sum = m.sum := by
  induction h with
  | nil => rfl
  | cons x _ ih => simp only [List.sum_cons, ih]
  | swap x y l => simp only [List.sum_cons]; omega
  | trans _ _ h1 h2 => rw [h1, h2]
end Go.Proofs.Ytnlbhjmbaedadaa
set_option linter.unusedVariables false
set_option linter.unusedSimpArgs false
set_option maxRecDepth 100000
namespace Go.Proofs.Ytnlbhjmbaedadaa
open Go.Vi
/- headword/headwordref07.ordered -/
abbrev R59 := Int
noncomputable def c59 : Code := bodyOf Try.f59
noncomputable def an59 : Ann := (.s .l (.s .l (.s (.s .l (.j [0, 1, 5, 23, 24] .l .l)) (.s (.s .l (.j [5] (.j [0, 1, 5, 6, 23, 24] (.s (.s .l (.j [0, 1, 5, 6, 23, 24] .l .l)) (.j [] (.j [0, 1, 5, 6, 23, 24] (.s .l (.j [0, 1, 5, 6, 23, 24] .l (.s .l (.j [0, 1, 5, 6, 23, 24] .l .l)))) .l) .l)) .l) .l)) .l))))
def pk59 : List PK := [.c (.sl (.pair (.int .i64) (.int .i64))), .c (.sl (.int .i64))]
def rk59 : List RK := [.c (.int .i64) 4]
noncomputable def rt59 (st : St) : Option R59 := rtG rk59 st
noncomputable def E59 (n : Nat × Nat) : Env := { T := tab, phi := (consPhi 26 (fun _ => true) (P26 n) (consPhi 68 (fun _ => true) (P68 n) (consPhi 83 (fun _ => true) (P83 n) noPhi))), eff := fun _ => false, fuel := n.1, hold := n.2 }
noncomputable def kq59_1 (n : Nat × Nat) : St → Option R59 := run (E59 n) (cB (cB (cB c59))) (Ann.snd (Ann.snd (Ann.snd an59))) rt59 (fun _ _ => none) rt59
noncomputable def kc59_2 (n : Nat × Nat) : St → Option R59 := fun s => normC [0, 1, 5, 23, 24] s (kq59_1 n)
noncomputable def kq59_3 (n : Nat × Nat) : St → Option R59 := run (E59 n) (cB (cB (cB (cB c59)))) (Ann.snd (Ann.snd (Ann.snd (Ann.snd an59)))) rt59 (fun _ _ => none) rt59
noncomputable def kc59_4 (n : Nat × Nat) : St → Option R59 := fun s => normC [5] s (kq59_3 n)
noncomputable def xb59_5 (n : Nat × Nat) : Nat → St → Option R59 := fun j s => bif Nat.beq j 0 then normC [5] s (kq59_3 n) else (fun _ _ => none) j s
noncomputable def F59_6 (n : Nat × Nat) : (St → Option R59) → St → Option R59 := fun K s => run (E59 n) (cA (cA (cB (cA (cB (cB (cB c59))))))) (Ann.fst (Ann.fst (Ann.snd (Ann.fst (Ann.snd (Ann.snd (Ann.snd an59))))))) (fun s => normC [0, 1, 5, 6, 23, 24] s K) (xb59_5 n) rt59 s
noncomputable def kq59_7 (n : Nat × Nat) (m1 : Nat) : St → Option R59 := run (E59 n) (cB (cA (cA (cB (cA (cB (cB (cB c59)))))))) (Ann.snd (Ann.fst (Ann.fst (Ann.snd (Ann.fst (Ann.snd (Ann.snd (Ann.snd an59)))))))) (fun s => normC [0, 1, 5, 6, 23, 24] s (loopN (F59_6 n) m1)) (xb59_5 n) rt59
noncomputable def kc59_8 (n : Nat × Nat) (m1 : Nat) : St → Option R59 := fun s => normC [0, 1, 5, 6, 23, 24] s (kq59_7 n m1)
noncomputable def kq59_9 (n : Nat × Nat) (m1 : Nat) : St → Option R59 := run (E59 n) (cB (cB (cA (cA (cB (cA (cB (cB (cB c59))))))))) (Ann.snd (Ann.snd (Ann.fst (Ann.fst (Ann.snd (Ann.fst (Ann.snd (Ann.snd (Ann.snd an59))))))))) (fun s => normC [0, 1, 5, 6, 23, 24] s (loopN (F59_6 n) m1)) (xb59_5 n) rt59
noncomputable def kc59_10 (n : Nat × Nat) (m1 : Nat) : St → Option R59 := fun s => normC [0, 1, 5, 6, 23, 24] s (loopN (fun _ => (kq59_9 n m1)) n.2)
noncomputable def xb59_11 (n : Nat × Nat) (m1 : Nat) : Nat → St → Option R59 := fun j s => bif Nat.beq j 1 then normC [0, 1, 5, 6, 23, 24] s (loopN (fun _ => (kq59_9 n m1)) n.2) else (xb59_5 n) j s
noncomputable def kc59_12 (n : Nat × Nat) (m1 : Nat) : St → Option R59 := fun s => normC [0, 1, 5, 6, 23, 24] s (kc59_10 n m1)
noncomputable def kc59_13 (n : Nat × Nat) (m1 : Nat) : St → Option R59 := fun s => normC [0, 1, 5, 6, 23, 24] s (kc59_12 n m1)
noncomputable def L59_1 (n : Nat × Nat) (m : Nat) (sheets0 : List (Int × Int)) (order1 : List Int) (e5 : Int) (i6 : Int) : Option R59 := loopN (F59_6 n) m { tm := [.c (.sl (.pair (.int .i64) (.int .i64)) sheets0 false), .c (.sl (.int .i64) order1 false), uu, uu, uu, .c (.int .i64 e5), .c (.int .i64 i6), uu, uu, uu, uu, uu, uu, uu, uu, uu, uu, uu, uu, uu, uu, uu, uu, uu, uu, uu, uu, uu, uu, uu, uu, uu, uu, uu, uu, uu, uu, uu, uu, uu, uu, uu, uu, uu, uu, uu], hp := emp }
noncomputable def L59_2 (n : Nat × Nat) (m1 : Nat) (sheets0 : List (Int × Int)) (order1 : List Int) (e5 : Int) (i6 : Int) : Option R59 := loopN (fun _ => (kq59_9 n m1)) n.2 { tm := [.c (.sl (.pair (.int .i64) (.int .i64)) sheets0 false), .c (.sl (.int .i64) order1 false), uu, uu, uu, .c (.int .i64 e5), .c (.int .i64 i6), uu, uu, uu, uu, uu, uu, uu, uu, uu, uu, uu, uu, uu, uu, uu, uu, uu, uu, uu, uu, uu, uu, uu, uu, uu, uu, uu, uu, uu, uu, uu, uu, uu, uu, uu, uu, uu, uu, uu], hp := emp }
theorem L59_1_eq (n : Nat × Nat) (m1 : Nat) (sheets0 : List (Int × Int)) (order1 : List Int) (e5 : Int) (i6 : Int) : L59_1 n (m1 + 1) sheets0 order1 e5 i6 =
    ((bif (decide (i6 < (order1.length : Int)) == true) then some (e5 == 0)
      else some false)).bind fun b3' =>
    (bif b3' then (idx order1 i6).bind fun x4' =>
      (S68 n x4' 0 (wr .i64 ((sheets0.length : Int) - 1))).bind fun r5' =>
      (bif (!r5') then L59_2 n m1 sheets0 order1 2 i6
      else (bif bounds none (some i6) none order1.length then (idx order1 i6).bind fun x6' =>
          (S83 n (order1.take (Int.toNat i6)) x6').bind fun r7' =>
          (bif r7' then L59_2 n m1 sheets0 order1 6 i6
          else L59_2 n m1 sheets0 order1 e5 i6)
        else none))
    else some e5) := by kernel_rfl
theorem L59_2_raw (n : Nat × Nat) (m1 : Nat) (sheets0 : List (Int × Int)) (order1 : List Int) (e5 : Int) (i6 : Int) : (kq59_9 n m1) { tm := [.c (.sl (.pair (.int .i64) (.int .i64)) sheets0 false), .c (.sl (.int .i64) order1 false), uu, uu, uu, .c (.int .i64 e5), .c (.int .i64 i6), uu, uu, uu, uu, uu, uu, uu, uu, uu, uu, uu, uu, uu, uu, uu, uu, uu, uu, uu, uu, uu, uu, uu, uu, uu, uu, uu, uu, uu, uu, uu, uu, uu, uu, uu, uu, uu, uu, uu], hp := emp } =
    L59_1 n m1 sheets0 order1 e5 (wr .i64 (i6 + 1)) := by kernel_rfl
noncomputable def S59 (n : Nat × Nat) (sheets0 : List (Int × Int)) (order1 : List Int) : Option R59 := run (E59 n) c59 an59 rt59 (fun _ _ => none) rt59 { tm := [.c (.sl (.pair (.int .i64) (.int .i64)) sheets0 false), .c (.sl (.int .i64) order1 false), uu, uu, uu, uu, uu, uu, uu, uu, uu, uu, uu, uu, uu, uu, uu, uu, uu, uu, uu, uu, uu, uu, uu, uu, uu, uu, uu, uu, uu, uu, uu, uu, uu, uu, uu, uu, uu, uu, uu, uu, uu, uu, uu, uu], hp := emp }
theorem S59_eq (n : Nat × Nat) (sheets0 : List (Int × Int)) (order1 : List Int) : S59 n sheets0 order1 =
    (S26 n sheets0).bind fun r1' =>
    ((bif ((r1' == 0) == true) then some ((order1.length : Int) != (sheets0.length : Int))
      else some false)).bind fun b2' =>
    (bif b2' then L59_1 n n.1 sheets0 order1 5 0
    else L59_1 n n.1 sheets0 order1 r1' 0) := by kernel_rfl
theorem S59_run (n : Nat × Nat) (xs : pksDen pk59) : S59 n xs.1 xs.2.1 = runG (E59 n) noScope c59 an59 (rtG rk59) (fun _ _ => none) (rtG rk59) (st0 pk59 xs Try.f59.ntmps) := by kernel_rfl
noncomputable def P59 (n : Nat × Nat) := phiOf pk59 rk59 (fun xs => S59 n xs.1 xs.2.1)
theorem call59 : CallOK Try.prog 59 := callOK_of Try.func59 (by kernel_rfl) (by kernel_rfl)
theorem env59 (n : Nat × Nat) : EnvOK Try.prog (E59 n) := envOK0 (consPhi_ok (FC26 n) call26 (consPhi_ok (FC68 n) call68 (consPhi_ok (FC83 n) call83 noPhi_ok))) rfl rfl
theorem par59 (n : Nat × Nat) : EnvPar (E59 n) := envPar0 (consPhi_par phiOf_Par1 (consPhi_par phiOf_Par1 (consPhi_par phiOf_Par1 noPhi_par))) rfl
theorem FC59 (n : Nat × Nat) : FCs Try.prog 59 (P59 n) := phiOf_FCs fun xs r h vs hv => FC.of_runG tabOK eqsOK (env59 n) (par59 n) mixed (fun _ => noScope_ok) Try.func59 (c := c59) (an := an59) (pks := pk59) (rks := rk59) (by kernel_rfl) (by kernel_rfl) hv ((S59_run n xs).symm.trans h)
end Go.Proofs.Ytnlbhjmbaedadaa
set_option linter.unusedVariables false
set_option linter.unusedSimpArgs false
set_option maxRecDepth 100000
namespace Go.Proofs.Ytnlbhjmbaedadaa
open Go.Vi
/- headword/headwordref07.ends -/
abbrev R60 := List Int × List Int
noncomputable def c60 : Code := bodyOf Try.f60
noncomputable def an60 : Ann := (.s .l (.s .l (.s (.s .l (.j [6, 7] (.j [0, 1, 6, 7, 8] (.s (.s .l (.j [0, 1, 6, 7, 8] .l .l)) (.s (.j [0, 1, 6, 7, 8] (.s .l (.s .l (.s (.s .l (.j [0, 1, 6, 7, 8, 9, 10] .l .l)) (.s .l (.s (.s .l (.j [0, 1, 6, 7, 8, 9, 10] .l .l)) .l))))) .l) .l)) .l) .l)) .l)))
def pk60 : List PK := [.c (.sl (.pair (.int .i64) (.int .i64))), .c (.sl (.int .i64))]
def rk60 : List RK := [.own (.int .i64) 4, .own (.int .i64) 5]
noncomputable def rt60 (st : St) : Option R60 := rtG rk60 st
noncomputable def E60 (n : Nat × Nat) : Env := { T := tab, phi := noPhi, eff := fun _ => false, fuel := n.1, hold := n.2 }
noncomputable def kq60_1 (n : Nat × Nat) : St → Option R60 := run (E60 n) (cB (cB (cB c60))) (Ann.snd (Ann.snd (Ann.snd an60))) rt60 (fun _ _ => none) rt60
noncomputable def kc60_2 (n : Nat × Nat) : St → Option R60 := fun s => normC [6, 7] s (kq60_1 n)
noncomputable def xb60_3 (n : Nat × Nat) : Nat → St → Option R60 := fun j s => bif Nat.beq j 0 then normC [6, 7] s (kq60_1 n) else (fun _ _ => none) j s
noncomputable def F60_4 (n : Nat × Nat) : (St → Option R60) → St → Option R60 := fun K s => run (E60 n) (cA (cA (cB (cA (cB (cB c60)))))) (Ann.fst (Ann.fst (Ann.snd (Ann.fst (Ann.snd (Ann.snd an60)))))) (fun s => normC [0, 1, 6, 7, 8] s K) (xb60_3 n) rt60 s
noncomputable def kq60_5 (n : Nat × Nat) (m1 : Nat) : St → Option R60 := run (E60 n) (cB (cA (cA (cB (cA (cB (cB c60))))))) (Ann.snd (Ann.fst (Ann.fst (Ann.snd (Ann.fst (Ann.snd (Ann.snd an60))))))) (fun s => normC [0, 1, 6, 7, 8] s (loopN (F60_4 n) m1)) (xb60_3 n) rt60
noncomputable def kc60_6 (n : Nat × Nat) (m1 : Nat) : St → Option R60 := fun s => normC [0, 1, 6, 7, 8] s (kq60_5 n m1)
noncomputable def kq60_7 (n : Nat × Nat) (m1 : Nat) : St → Option R60 := run (E60 n) (cB (cB (cA (cA (cB (cA (cB (cB c60)))))))) (Ann.snd (Ann.snd (Ann.fst (Ann.fst (Ann.snd (Ann.fst (Ann.snd (Ann.snd an60)))))))) (fun s => normC [0, 1, 6, 7, 8] s (loopN (F60_4 n) m1)) (xb60_3 n) rt60
noncomputable def kc60_8 (n : Nat × Nat) (m1 : Nat) : St → Option R60 := fun s => normC [0, 1, 6, 7, 8] s (kq60_7 n m1)
noncomputable def xb60_9 (n : Nat × Nat) (m1 : Nat) : Nat → St → Option R60 := fun j s => bif Nat.beq j 1 then normC [0, 1, 6, 7, 8] s (kq60_7 n m1) else (xb60_3 n) j s
noncomputable def kq60_10 (n : Nat × Nat) (m1 : Nat) : St → Option R60 := run (E60 n) (cB (cB (cB (cA (cA (cB (cA (cA (cB (cA (cB (cB c60)))))))))))) (Ann.snd (Ann.snd (Ann.snd (Ann.fst (Ann.fst (Ann.snd (Ann.fst (Ann.fst (Ann.snd (Ann.fst (Ann.snd (Ann.snd an60)))))))))))) (kc60_8 n m1) (xb60_9 n m1) rt60
noncomputable def kc60_11 (n : Nat × Nat) (m1 : Nat) : St → Option R60 := fun s => normC [0, 1, 6, 7, 8, 9, 10] s (kq60_10 n m1)
noncomputable def kq60_12 (n : Nat × Nat) (m1 : Nat) : St → Option R60 := run (E60 n) (cB (cB (cB (cB (cB (cA (cA (cB (cA (cA (cB (cA (cB (cB c60)))))))))))))) (Ann.snd (Ann.snd (Ann.snd (Ann.snd (Ann.snd (Ann.fst (Ann.fst (Ann.snd (Ann.fst (Ann.fst (Ann.snd (Ann.fst (Ann.snd (Ann.snd an60)))))))))))))) (kc60_8 n m1) (xb60_9 n m1) rt60
noncomputable def kc60_13 (n : Nat × Nat) (m1 : Nat) : St → Option R60 := fun s => normC [0, 1, 6, 7, 8, 9, 10] s (kq60_12 n m1)
noncomputable def L60_1 (n : Nat × Nat) (m : Nat) (sheets0 : List (Int × Int)) (order1 : List Int) (p8 : Int) (v6 : List Int) (printed7 : List Int) : Option R60 := loopN (F60_4 n) m { tm := [.c (.sl (.pair (.int .i64) (.int .i64)) sheets0 false), .c (.sl (.int .i64) order1 false), uu, uu, uu, uu, .own 6 none false, .own 7 none false, .c (.int .i64 p8), uu, uu, uu, uu, uu, uu, uu, uu, uu, uu, uu, uu, uu, uu, uu, uu, uu, uu, uu, uu, uu, uu, uu, uu, uu, uu, uu, uu, uu, uu, uu, uu, uu, uu, uu, uu, uu, uu, uu, uu, uu, uu, uu, uu, uu, uu, uu, uu], hp := (upd (upd emp 7 (.arr (.int .i64) printed7 true)) 6 (.arr (.int .i64) v6 true)) }
theorem L60_1_eq (n : Nat × Nat) (m1 : Nat) (sheets0 : List (Int × Int)) (order1 : List Int) (p8 : Int) (v6 : List Int) (printed7 : List Int) : L60_1 n (m1 + 1) sheets0 order1 p8 v6 printed7 =
    (bif decide (p8 < (order1.length : Int)) then (idx order1 p8).bind fun x1' =>
      (idx sheets0 x1').bind fun x2' =>
      (bif decide (p8 > 0) then (bif inB (wr .i64 (p8 - 1)) v6.length then (idx v6 (wr .i64 (p8 - 1))).bind fun x3' =>
          (bif decide (v6.length + [wr .i64 (x2'.1 + x3')].length ≤ lim) then (bif decide (p8 > 0) then (bif inB (wr .i64 (p8 - 1)) printed7.length then (idx printed7 (wr .i64 (p8 - 1))).bind fun x4' =>
                (bif decide (printed7.length + [wr .i64 ((if x4' > (wr .i64 (x2'.1 + x3')) then x4' else (wr .i64 (x2'.1 + x3'))) + x2'.2)].length ≤ lim) then L60_1 n m1 sheets0 order1 (wr .i64 (p8 + 1)) (v6 ++ [wr .i64 (x2'.1 + x3')]) (printed7 ++ [wr .i64 ((if x4' > (wr .i64 (x2'.1 + x3')) then x4' else (wr .i64 (x2'.1 + x3'))) + x2'.2)])
                else none)
              else none)
            else (bif decide (printed7.length + [wr .i64 ((wr .i64 (x2'.1 + x3')) + x2'.2)].length ≤ lim) then L60_1 n m1 sheets0 order1 (wr .i64 (p8 + 1)) (v6 ++ [wr .i64 (x2'.1 + x3')]) (printed7 ++ [wr .i64 ((wr .i64 (x2'.1 + x3')) + x2'.2)])
              else none))
          else none)
        else none)
      else (bif decide (v6.length + [x2'.1].length ≤ lim) then (bif decide (p8 > 0) then (bif inB (wr .i64 (p8 - 1)) printed7.length then (idx printed7 (wr .i64 (p8 - 1))).bind fun x5' =>
              (bif decide (printed7.length + [wr .i64 ((if x5' > x2'.1 then x5' else x2'.1) + x2'.2)].length ≤ lim) then L60_1 n m1 sheets0 order1 (wr .i64 (p8 + 1)) (v6 ++ [x2'.1]) (printed7 ++ [wr .i64 ((if x5' > x2'.1 then x5' else x2'.1) + x2'.2)])
              else none)
            else none)
          else (bif decide (printed7.length + [wr .i64 (x2'.1 + x2'.2)].length ≤ lim) then L60_1 n m1 sheets0 order1 (wr .i64 (p8 + 1)) (v6 ++ [x2'.1]) (printed7 ++ [wr .i64 (x2'.1 + x2'.2)])
            else none))
        else none))
    else some (v6, printed7)) := by kernel_rfl
noncomputable def S60 (n : Nat × Nat) (sheets0 : List (Int × Int)) (order1 : List Int) : Option R60 := run (E60 n) c60 an60 rt60 (fun _ _ => none) rt60 { tm := [.c (.sl (.pair (.int .i64) (.int .i64)) sheets0 false), .c (.sl (.int .i64) order1 false), uu, uu, uu, uu, uu, uu, uu, uu, uu, uu, uu, uu, uu, uu, uu, uu, uu, uu, uu, uu, uu, uu, uu, uu, uu, uu, uu, uu, uu, uu, uu, uu, uu, uu, uu, uu, uu, uu, uu, uu, uu, uu, uu, uu, uu, uu, uu, uu, uu, uu, uu, uu, uu, uu, uu], hp := emp }
theorem S60_eq (n : Nat × Nat) (sheets0 : List (Int × Int)) (order1 : List Int) : S60 n sheets0 order1 =
    L60_1 n n.1 sheets0 order1 0 [] [] := by kernel_rfl
theorem S60_run (n : Nat × Nat) (xs : pksDen pk60) : S60 n xs.1 xs.2.1 = runG (E60 n) noScope c60 an60 (rtG rk60) (fun _ _ => none) (rtG rk60) (st0 pk60 xs Try.f60.ntmps) := by kernel_rfl
noncomputable def P60 (n : Nat × Nat) := phiOf pk60 rk60 (fun xs => S60 n xs.1 xs.2.1)
theorem call60 : CallOK Try.prog 60 := callOK_of Try.func60 (by kernel_rfl) (by kernel_rfl)
theorem env60 (n : Nat × Nat) : EnvOK Try.prog (E60 n) := envOK0 noPhi_ok rfl rfl
theorem par60 (n : Nat × Nat) : EnvPar (E60 n) := envPar0 noPhi_par rfl
theorem FC60 (n : Nat × Nat) : FCs Try.prog 60 (P60 n) := phiOf_FCs fun xs r h vs hv => FC.of_runG tabOK eqsOK (env60 n) (par60 n) mixed (fun _ => noScope_ok) Try.func60 (c := c60) (an := an60) (pks := pk60) (rks := rk60) (by kernel_rfl) (by kernel_rfl) hv ((S60_run n xs).symm.trans h)
end Go.Proofs.Ytnlbhjmbaedadaa
set_option linter.unusedVariables false
set_option linter.unusedSimpArgs false
set_option maxRecDepth 100000
namespace Go.Proofs.Ytnlbhjmbaedadaa
open Go.Vi
/- headword/headwordref07.Ends -/
abbrev R17 := List Int × List Int × Int
noncomputable def c17 : Code := bodyOf Try.f17
noncomputable def an17 : Ann := (.s .l (.s .l (.s (.s .l (.j [0, 1] .l .l)) .l)))
def pk17 : List PK := [.c (.sl (.pair (.int .i64) (.int .i64))), .c (.sl (.int .i64))]
def rk17 : List RK := [.own (.int .i64) 4, .own (.int .i64) 5, .c (.int .i64) 6]
noncomputable def rt17 (st : St) : Option R17 := rtG rk17 st
noncomputable def E17 (n : Nat × Nat) : Env := { T := tab, phi := (consPhi 59 (fun _ => true) (P59 n) (consPhi 60 (fun _ => true) (P60 n) noPhi)), eff := fun _ => false, fuel := n.1, hold := n.2 }
noncomputable def kq17_1 (n : Nat × Nat) : St → Option R17 := run (E17 n) (cB (cB (cB c17))) (Ann.snd (Ann.snd (Ann.snd an17))) rt17 (fun _ _ => none) rt17
noncomputable def kc17_2 (n : Nat × Nat) : St → Option R17 := fun s => normC [0, 1] s (kq17_1 n)
noncomputable def S17 (n : Nat × Nat) (sheets0 : List (Int × Int)) (order1 : List Int) : Option R17 := run (E17 n) c17 an17 rt17 (fun _ _ => none) rt17 { tm := [.c (.sl (.pair (.int .i64) (.int .i64)) sheets0 false), .c (.sl (.int .i64) order1 false), uu, uu, uu, uu, uu, uu, uu, uu, uu, uu, uu, uu, uu, uu, uu, uu, uu, uu, uu, uu, uu, uu], hp := emp }
theorem S17_eq (n : Nat × Nat) (sheets0 : List (Int × Int)) (order1 : List Int) : S17 n sheets0 order1 =
    (S59 n sheets0 order1).bind fun r1' =>
    (bif (r1' != 0) then some ([], [], r1')
    else (S60 n sheets0 order1).bind fun r2' =>
      some (r2'.1, r2'.2, 0)) := by kernel_rfl
theorem S17_run (n : Nat × Nat) (xs : pksDen pk17) : S17 n xs.1 xs.2.1 = runG (E17 n) noScope c17 an17 (rtG rk17) (fun _ _ => none) (rtG rk17) (st0 pk17 xs Try.f17.ntmps) := by kernel_rfl
noncomputable def P17 (n : Nat × Nat) := phiOf pk17 rk17 (fun xs => S17 n xs.1 xs.2.1)
theorem call17 : CallOK Try.prog 17 := callOK_of Try.func17 (by kernel_rfl) (by kernel_rfl)
theorem env17 (n : Nat × Nat) : EnvOK Try.prog (E17 n) := envOK0 (consPhi_ok (FC59 n) call59 (consPhi_ok (FC60 n) call60 noPhi_ok)) rfl rfl
theorem par17 (n : Nat × Nat) : EnvPar (E17 n) := envPar0 (consPhi_par phiOf_Par1 (consPhi_par phiOf_Par1 noPhi_par)) rfl
theorem FC17 (n : Nat × Nat) : FCs Try.prog 17 (P17 n) := phiOf_FCs fun xs r h vs hv => FC.of_runG tabOK eqsOK (env17 n) (par17 n) mixed (fun _ => noScope_ok) Try.func17 (c := c17) (an := an17) (pks := pk17) (rks := rk17) (by kernel_rfl) (by kernel_rfl) hv ((S17_run n xs).symm.trans h)
end Go.Proofs.Ytnlbhjmbaedadaa
set_option linter.unusedVariables false
set_option linter.unusedSimpArgs false
set_option maxRecDepth 100000
namespace Go.Proofs.Ytnlbhjmbaedadaa
open Go.Vi
/-D 59 -/
noncomputable def DL59_2 (n : Nat × Nat) (f1 : (List (Int × Int)) → List Int → Int → Int → Option R59) (sheets0 : List (Int × Int)) (order1 : List Int) (e5 : Int) (i6 : Int) : Option R59 :=
    f1 sheets0 order1 e5 (wr .i64 (i6 + 1))
theorem DL59_2_eq (n : Nat × Nat) (hn : n.2 = 1) (m1 : Nat) : L59_2 n m1 = DL59_2 n (L59_1 n m1) := by
  funext sheets0 order1 e5 i6; refine ((held_eq hn _).trans (L59_2_raw n m1 sheets0 order1 e5 i6)).trans ?_
  unfold DL59_2
  (try simp only [S26_D n hn, S68_D n hn, S83_D n hn]) <;> first | with_reducible rfl | rfl
noncomputable def DF59_1 (n : Nat × Nat) (f1 : (List (Int × Int)) → List Int → Int → Int → Option R59) (sheets0 : List (Int × Int)) (order1 : List Int) (e5 : Int) (i6 : Int) : Option R59 :=
    ((bif (decide (i6 < (order1.length : Int)) == true) then some (e5 == 0)
      else some false)).bind fun b3' =>
    (bif b3' then (idx order1 i6).bind fun x4' =>
      (D68 n x4' 0 (wr .i64 ((sheets0.length : Int) - 1))).bind fun r5' =>
      (bif (!r5') then DL59_2 n f1 sheets0 order1 2 i6
      else (bif bounds none (some i6) none order1.length then (idx order1 i6).bind fun x6' =>
          (D83 n (order1.take (Int.toNat i6)) x6').bind fun r7' =>
          (bif r7' then DL59_2 n f1 sheets0 order1 6 i6
          else DL59_2 n f1 sheets0 order1 e5 i6)
        else none))
    else some e5)
noncomputable def DL59_1 (n : Nat × Nat) (m : Nat) : (List (Int × Int)) → List Int → Int → Int → Option R59 := Nat.rec (motive := fun _ => (List (Int × Int)) → List Int → Int → Int → Option R59) (fun _ _ _ _ => none) (fun _ ih => DF59_1 n ih) m
theorem DL59_1_succ (n : Nat × Nat) (m : Nat) : DL59_1 n (m + 1) = DF59_1 n (DL59_1 n m) := rfl
theorem DL59_1_eq (n : Nat × Nat) (hn : n.2 = 1) : ∀ m, L59_1 n m = DL59_1 n m
  | 0 => by funext sheets0 order1 e5 i6; kernel_rfl
  | m + 1 => by
    have ih := DL59_1_eq n hn m
    funext sheets0 order1 e5 i6; refine (L59_1_eq n m sheets0 order1 e5 i6).trans ?_
    rw [DL59_1_succ]
    unfold DF59_1
    (try simp only [ih, DL59_2_eq n hn, S26_D n hn, S68_D n hn, S83_D n hn]) <;> first | with_reducible rfl | rfl
noncomputable def D59 (n : Nat × Nat) (sheets0 : List (Int × Int)) (order1 : List Int) : Option R59 :=
    (D26 n sheets0).bind fun r1' =>
    ((bif ((r1' == 0) == true) then some ((order1.length : Int) != (sheets0.length : Int))
      else some false)).bind fun b2' =>
    (bif b2' then DL59_1 n n.1 sheets0 order1 5 0
    else DL59_1 n n.1 sheets0 order1 r1' 0)
theorem S59_D (n : Nat × Nat) (hn : n.2 = 1) : S59 n = D59 n := by
  funext sheets0 order1; refine (S59_eq n sheets0 order1).trans ?_
  unfold D59
  (try simp only [DL59_2_eq n hn, DL59_1_eq n hn, S26_D n hn, S68_D n hn, S83_D n hn]) <;> first | with_reducible rfl | rfl
end Go.Proofs.Ytnlbhjmbaedadaa
set_option linter.unusedVariables false
set_option linter.unusedSimpArgs false
set_option maxRecDepth 100000
namespace Go.Proofs.Ytnlbhjmbaedadaa
open Go.Vi
/-D 60 -/
noncomputable def DF60_1 (n : Nat × Nat) (f1 : (List (Int × Int)) → List Int → Int → List Int → List Int → Option R60) (sheets0 : List (Int × Int)) (order1 : List Int) (p8 : Int) (v6 : List Int) (printed7 : List Int) : Option R60 :=
    (bif decide (p8 < (order1.length : Int)) then (idx order1 p8).bind fun x1' =>
      (idx sheets0 x1').bind fun x2' =>
      (bif decide (p8 > 0) then (bif inB (wr .i64 (p8 - 1)) v6.length then (idx v6 (wr .i64 (p8 - 1))).bind fun x3' =>
          (bif decide (v6.length + [wr .i64 (x2'.1 + x3')].length ≤ lim) then (bif decide (p8 > 0) then (bif inB (wr .i64 (p8 - 1)) printed7.length then (idx printed7 (wr .i64 (p8 - 1))).bind fun x4' =>
                (bif decide (printed7.length + [wr .i64 ((if x4' > (wr .i64 (x2'.1 + x3')) then x4' else (wr .i64 (x2'.1 + x3'))) + x2'.2)].length ≤ lim) then f1 sheets0 order1 (wr .i64 (p8 + 1)) (v6 ++ [wr .i64 (x2'.1 + x3')]) (printed7 ++ [wr .i64 ((if x4' > (wr .i64 (x2'.1 + x3')) then x4' else (wr .i64 (x2'.1 + x3'))) + x2'.2)])
                else none)
              else none)
            else (bif decide (printed7.length + [wr .i64 ((wr .i64 (x2'.1 + x3')) + x2'.2)].length ≤ lim) then f1 sheets0 order1 (wr .i64 (p8 + 1)) (v6 ++ [wr .i64 (x2'.1 + x3')]) (printed7 ++ [wr .i64 ((wr .i64 (x2'.1 + x3')) + x2'.2)])
              else none))
          else none)
        else none)
      else (bif decide (v6.length + [x2'.1].length ≤ lim) then (bif decide (p8 > 0) then (bif inB (wr .i64 (p8 - 1)) printed7.length then (idx printed7 (wr .i64 (p8 - 1))).bind fun x5' =>
              (bif decide (printed7.length + [wr .i64 ((if x5' > x2'.1 then x5' else x2'.1) + x2'.2)].length ≤ lim) then f1 sheets0 order1 (wr .i64 (p8 + 1)) (v6 ++ [x2'.1]) (printed7 ++ [wr .i64 ((if x5' > x2'.1 then x5' else x2'.1) + x2'.2)])
              else none)
            else none)
          else (bif decide (printed7.length + [wr .i64 (x2'.1 + x2'.2)].length ≤ lim) then f1 sheets0 order1 (wr .i64 (p8 + 1)) (v6 ++ [x2'.1]) (printed7 ++ [wr .i64 (x2'.1 + x2'.2)])
            else none))
        else none))
    else some (v6, printed7))
noncomputable def DL60_1 (n : Nat × Nat) (m : Nat) : (List (Int × Int)) → List Int → Int → List Int → List Int → Option R60 := Nat.rec (motive := fun _ => (List (Int × Int)) → List Int → Int → List Int → List Int → Option R60) (fun _ _ _ _ _ => none) (fun _ ih => DF60_1 n ih) m
theorem DL60_1_succ (n : Nat × Nat) (m : Nat) : DL60_1 n (m + 1) = DF60_1 n (DL60_1 n m) := rfl
theorem DL60_1_eq (n : Nat × Nat) (hn : n.2 = 1) : ∀ m, L60_1 n m = DL60_1 n m
  | 0 => by funext sheets0 order1 p8 v6 printed7; kernel_rfl
  | m + 1 => by
    have ih := DL60_1_eq n hn m
    funext sheets0 order1 p8 v6 printed7; refine (L60_1_eq n m sheets0 order1 p8 v6 printed7).trans ?_
    rw [DL60_1_succ]
    unfold DF60_1
    (try simp only [ih]) <;> first | with_reducible rfl | rfl
noncomputable def D60 (n : Nat × Nat) (sheets0 : List (Int × Int)) (order1 : List Int) : Option R60 :=
    DL60_1 n n.1 sheets0 order1 0 [] []
theorem S60_D (n : Nat × Nat) (hn : n.2 = 1) : S60 n = D60 n := by
  funext sheets0 order1; refine (S60_eq n sheets0 order1).trans ?_
  unfold D60
  (try simp only [DL60_1_eq n hn]) <;> first | with_reducible rfl | rfl
end Go.Proofs.Ytnlbhjmbaedadaa
set_option linter.unusedVariables false
set_option linter.unusedSimpArgs false
set_option maxRecDepth 100000
namespace Go.Proofs.Ytnlbhjmbaedadaa
open Go.Vi
/-D 17 -/
noncomputable def D17 (n : Nat × Nat) (sheets0 : List (Int × Int)) (order1 : List Int) : Option R17 :=
    (D59 n sheets0 order1).bind fun r1' =>
    (bif (r1' != 0) then some ([], [], r1')
    else (D60 n sheets0 order1).bind fun r2' =>
      some (r2'.1, r2'.2, 0))
theorem S17_D (n : Nat × Nat) (hn : n.2 = 1) : S17 n = D17 n := by
  funext sheets0 order1; refine (S17_eq n sheets0 order1).trans ?_
  unfold D17
  (try simp only [S59_D n hn, S60_D n hn]) <;> first | with_reducible rfl | rfl
end Go.Proofs.Ytnlbhjmbaedadaa
set_option linter.unusedVariables false
set_option linter.unusedSimpArgs false
set_option maxRecDepth 100000
namespace Go.Proofs.Ytnlbhjmbaedadaa
open Go.Vi
/- headword/headwordref07.time -/
abbrev R62 := Int
noncomputable def c62 : Code := bodyOf Try.f62
noncomputable def an62 : Ann := .l
def pk62 : List PK := [.c (.sl (.pair (.int .i64) (.int .i64))), .c (.sl (.int .i64))]
def rk62 : List RK := [.c (.int .i64) 4]
noncomputable def rt62 (st : St) : Option R62 := rtG rk62 st
noncomputable def E62 (n : Nat × Nat) : Env := { T := tab, phi := (consPhi 60 (fun _ => true) (P60 n) noPhi), eff := fun _ => false, fuel := n.1, hold := n.2 }
noncomputable def S62 (n : Nat × Nat) (sheets0 : List (Int × Int)) (order1 : List Int) : Option R62 := run (E62 n) c62 an62 rt62 (fun _ _ => none) rt62 { tm := [.c (.sl (.pair (.int .i64) (.int .i64)) sheets0 false), .c (.sl (.int .i64) order1 false), uu, uu, uu, uu, uu, uu, uu, uu, uu, uu, uu, uu, uu, uu, uu, uu, uu], hp := emp }
theorem S62_eq (n : Nat × Nat) (sheets0 : List (Int × Int)) (order1 : List Int) : S62 n sheets0 order1 =
    (S60 n sheets0 order1).bind fun r1' =>
    (bif inB (wr .i64 ((r1'.2.length : Int) - 1)) r1'.2.length then (idx r1'.2 (wr .i64 ((r1'.2.length : Int) - 1))).bind fun x2' =>
      some x2'
    else none) := by kernel_rfl
theorem S62_run (n : Nat × Nat) (xs : pksDen pk62) : S62 n xs.1 xs.2.1 = runG (E62 n) noScope c62 an62 (rtG rk62) (fun _ _ => none) (rtG rk62) (st0 pk62 xs Try.f62.ntmps) := by kernel_rfl
noncomputable def P62 (n : Nat × Nat) := phiOf pk62 rk62 (fun xs => S62 n xs.1 xs.2.1)
theorem call62 : CallOK Try.prog 62 := callOK_of Try.func62 (by kernel_rfl) (by kernel_rfl)
theorem env62 (n : Nat × Nat) : EnvOK Try.prog (E62 n) := envOK0 (consPhi_ok (FC60 n) call60 noPhi_ok) rfl rfl
theorem par62 (n : Nat × Nat) : EnvPar (E62 n) := envPar0 (consPhi_par phiOf_Par1 noPhi_par) rfl
theorem FC62 (n : Nat × Nat) : FCs Try.prog 62 (P62 n) := phiOf_FCs fun xs r h vs hv => FC.of_runG tabOK eqsOK (env62 n) (par62 n) mixed (fun _ => noScope_ok) Try.func62 (c := c62) (an := an62) (pks := pk62) (rks := rk62) (by kernel_rfl) (by kernel_rfl) hv ((S62_run n xs).symm.trans h)
end Go.Proofs.Ytnlbhjmbaedadaa
set_option linter.unusedVariables false
set_option linter.unusedSimpArgs false
set_option maxRecDepth 100000
namespace Go.Proofs.Ytnlbhjmbaedadaa
open Go.Vi
/- headword/headwordref07.Time -/
abbrev R20 := Int × Int
noncomputable def c20 : Code := bodyOf Try.f20
noncomputable def an20 : Ann := (.s .l (.s .l (.s (.s .l (.j [0, 1] .l .l)) .l)))
def pk20 : List PK := [.c (.sl (.pair (.int .i64) (.int .i64))), .c (.sl (.int .i64))]
def rk20 : List RK := [.c (.int .i64) 4, .c (.int .i64) 5]
noncomputable def rt20 (st : St) : Option R20 := rtG rk20 st
noncomputable def E20 (n : Nat × Nat) : Env := { T := tab, phi := (consPhi 59 (fun _ => true) (P59 n) (consPhi 62 (fun _ => true) (P62 n) noPhi)), eff := fun _ => false, fuel := n.1, hold := n.2 }
noncomputable def kq20_1 (n : Nat × Nat) : St → Option R20 := run (E20 n) (cB (cB (cB c20))) (Ann.snd (Ann.snd (Ann.snd an20))) rt20 (fun _ _ => none) rt20
noncomputable def kc20_2 (n : Nat × Nat) : St → Option R20 := fun s => normC [0, 1] s (kq20_1 n)
noncomputable def S20 (n : Nat × Nat) (sheets0 : List (Int × Int)) (order1 : List Int) : Option R20 := run (E20 n) c20 an20 rt20 (fun _ _ => none) rt20 { tm := [.c (.sl (.pair (.int .i64) (.int .i64)) sheets0 false), .c (.sl (.int .i64) order1 false), uu, uu, uu, uu, uu, uu, uu, uu, uu, uu, uu, uu, uu, uu], hp := emp }
theorem S20_eq (n : Nat × Nat) (sheets0 : List (Int × Int)) (order1 : List Int) : S20 n sheets0 order1 =
    (S59 n sheets0 order1).bind fun r1' =>
    (bif (r1' != 0) then some (0, r1')
    else (S62 n sheets0 order1).bind fun r2' =>
      some (r2', 0)) := by kernel_rfl
theorem S20_run (n : Nat × Nat) (xs : pksDen pk20) : S20 n xs.1 xs.2.1 = runG (E20 n) noScope c20 an20 (rtG rk20) (fun _ _ => none) (rtG rk20) (st0 pk20 xs Try.f20.ntmps) := by kernel_rfl
noncomputable def P20 (n : Nat × Nat) := phiOf pk20 rk20 (fun xs => S20 n xs.1 xs.2.1)
theorem call20 : CallOK Try.prog 20 := callOK_of Try.func20 (by kernel_rfl) (by kernel_rfl)
theorem env20 (n : Nat × Nat) : EnvOK Try.prog (E20 n) := envOK0 (consPhi_ok (FC59 n) call59 (consPhi_ok (FC62 n) call62 noPhi_ok)) rfl rfl
theorem par20 (n : Nat × Nat) : EnvPar (E20 n) := envPar0 (consPhi_par phiOf_Par1 (consPhi_par phiOf_Par1 noPhi_par)) rfl
theorem FC20 (n : Nat × Nat) : FCs Try.prog 20 (P20 n) := phiOf_FCs fun xs r h vs hv => FC.of_runG tabOK eqsOK (env20 n) (par20 n) mixed (fun _ => noScope_ok) Try.func20 (c := c20) (an := an20) (pks := pk20) (rks := rk20) (by kernel_rfl) (by kernel_rfl) hv ((S20_run n xs).symm.trans h)
end Go.Proofs.Ytnlbhjmbaedadaa
set_option linter.unusedVariables false
set_option linter.unusedSimpArgs false
set_option maxRecDepth 100000
namespace Go.Proofs.Ytnlbhjmbaedadaa
open Go.Vi
/-D 62 -/
noncomputable def D62 (n : Nat × Nat) (sheets0 : List (Int × Int)) (order1 : List Int) : Option R62 :=
    (D60 n sheets0 order1).bind fun r1' =>
    (bif inB (wr .i64 ((r1'.2.length : Int) - 1)) r1'.2.length then (idx r1'.2 (wr .i64 ((r1'.2.length : Int) - 1))).bind fun x2' =>
      some x2'
    else none)
theorem S62_D (n : Nat × Nat) (hn : n.2 = 1) : S62 n = D62 n := by
  funext sheets0 order1; refine (S62_eq n sheets0 order1).trans ?_
  unfold D62
  (try simp only [S60_D n hn]) <;> first | with_reducible rfl | rfl
end Go.Proofs.Ytnlbhjmbaedadaa
set_option linter.unusedVariables false
set_option linter.unusedSimpArgs false
set_option maxRecDepth 100000
namespace Go.Proofs.Ytnlbhjmbaedadaa
open Go.Vi
/-D 20 -/
noncomputable def D20 (n : Nat × Nat) (sheets0 : List (Int × Int)) (order1 : List Int) : Option R20 :=
    (D59 n sheets0 order1).bind fun r1' =>
    (bif (r1' != 0) then some (0, r1')
    else (D62 n sheets0 order1).bind fun r2' =>
      some (r2', 0))
theorem S20_D (n : Nat × Nat) (hn : n.2 = 1) : S20 n = D20 n := by
  funext sheets0 order1; refine (S20_eq n sheets0 order1).trans ?_
  unfold D20
  (try simp only [S59_D n hn, S62_D n hn]) <;> first | with_reducible rfl | rfl
end Go.Proofs.Ytnlbhjmbaedadaa
set_option linter.unusedVariables false
set_option linter.unusedSimpArgs false
set_option maxRecDepth 100000
namespace Go.Proofs.Ytnlbhjmbaedadaa
open Go.Vi
/- headword/headwordref07.Idle -/
abbrev R22 := Int × Int
noncomputable def c22 : Code := bodyOf Try.f22
noncomputable def an22 : Ann := (.s .l (.s .l (.s (.s .l (.j [0, 1] .l .l)) (.s .l (.s (.s .l (.j [7] (.j [0, 7, 8] (.s (.s .l (.j [0, 7, 8] .l .l)) (.s (.j [0, 7, 8] .l .l) .l)) .l) .l)) .l)))))
def pk22 : List PK := [.c (.sl (.pair (.int .i64) (.int .i64))), .c (.sl (.int .i64))]
def rk22 : List RK := [.c (.int .i64) 4, .c (.int .i64) 5]
noncomputable def rt22 (st : St) : Option R22 := rtG rk22 st
noncomputable def E22 (n : Nat × Nat) : Env := { T := tab, phi := (consPhi 59 (fun _ => true) (P59 n) (consPhi 62 (fun _ => true) (P62 n) noPhi)), eff := fun _ => false, fuel := n.1, hold := n.2 }
noncomputable def kq22_1 (n : Nat × Nat) : St → Option R22 := run (E22 n) (cB (cB (cB c22))) (Ann.snd (Ann.snd (Ann.snd an22))) rt22 (fun _ _ => none) rt22
noncomputable def kc22_2 (n : Nat × Nat) : St → Option R22 := fun s => normC [0, 1] s (kq22_1 n)
noncomputable def kq22_3 (n : Nat × Nat) : St → Option R22 := run (E22 n) (cB (cB (cB (cB (cB c22))))) (Ann.snd (Ann.snd (Ann.snd (Ann.snd (Ann.snd an22))))) rt22 (fun _ _ => none) rt22
noncomputable def kc22_4 (n : Nat × Nat) : St → Option R22 := fun s => normC [7] s (kq22_3 n)
noncomputable def xb22_5 (n : Nat × Nat) : Nat → St → Option R22 := fun j s => bif Nat.beq j 0 then normC [7] s (kq22_3 n) else (fun _ _ => none) j s
noncomputable def F22_6 (n : Nat × Nat) : (St → Option R22) → St → Option R22 := fun K s => run (E22 n) (cA (cA (cB (cA (cB (cB (cB (cB c22)))))))) (Ann.fst (Ann.fst (Ann.snd (Ann.fst (Ann.snd (Ann.snd (Ann.snd (Ann.snd an22)))))))) (fun s => normC [0, 7, 8] s K) (xb22_5 n) rt22 s
noncomputable def kq22_7 (n : Nat × Nat) (m1 : Nat) : St → Option R22 := run (E22 n) (cB (cA (cA (cB (cA (cB (cB (cB (cB c22))))))))) (Ann.snd (Ann.fst (Ann.fst (Ann.snd (Ann.fst (Ann.snd (Ann.snd (Ann.snd (Ann.snd an22))))))))) (fun s => normC [0, 7, 8] s (loopN (F22_6 n) m1)) (xb22_5 n) rt22
noncomputable def kc22_8 (n : Nat × Nat) (m1 : Nat) : St → Option R22 := fun s => normC [0, 7, 8] s (kq22_7 n m1)
noncomputable def kq22_9 (n : Nat × Nat) (m1 : Nat) : St → Option R22 := run (E22 n) (cB (cB (cA (cA (cB (cA (cB (cB (cB (cB c22)))))))))) (Ann.snd (Ann.snd (Ann.fst (Ann.fst (Ann.snd (Ann.fst (Ann.snd (Ann.snd (Ann.snd (Ann.snd an22)))))))))) (fun s => normC [0, 7, 8] s (loopN (F22_6 n) m1)) (xb22_5 n) rt22
noncomputable def kc22_10 (n : Nat × Nat) (m1 : Nat) : St → Option R22 := fun s => normC [0, 7, 8] s (kq22_9 n m1)
noncomputable def xb22_11 (n : Nat × Nat) (m1 : Nat) : Nat → St → Option R22 := fun j s => bif Nat.beq j 1 then normC [0, 7, 8] s (kq22_9 n m1) else (xb22_5 n) j s
noncomputable def L22_1 (n : Nat × Nat) (m : Nat) (sheets0 : List (Int × Int)) (v7 : Int) (i8 : Int) : Option R22 := loopN (F22_6 n) m { tm := [.c (.sl (.pair (.int .i64) (.int .i64)) sheets0 false), uu, uu, uu, uu, uu, uu, .c (.int .i64 v7), .c (.int .i64 i8), uu, uu, uu, uu, uu, uu, uu, uu, uu, uu, uu, uu, uu, uu, uu, uu, uu, uu, uu, uu, uu, uu, uu], hp := emp }
theorem L22_1_eq (n : Nat × Nat) (m1 : Nat) (sheets0 : List (Int × Int)) (v7 : Int) (i8 : Int) : L22_1 n (m1 + 1) sheets0 v7 i8 =
    (bif decide (i8 < (sheets0.length : Int)) then (idx sheets0 i8).bind fun x3' =>
      L22_1 n m1 sheets0 (wr .i64 (v7 - x3'.2)) (wr .i64 (i8 + 1))
    else some (v7, 0)) := by kernel_rfl
noncomputable def S22 (n : Nat × Nat) (sheets0 : List (Int × Int)) (order1 : List Int) : Option R22 := run (E22 n) c22 an22 rt22 (fun _ _ => none) rt22 { tm := [.c (.sl (.pair (.int .i64) (.int .i64)) sheets0 false), .c (.sl (.int .i64) order1 false), uu, uu, uu, uu, uu, uu, uu, uu, uu, uu, uu, uu, uu, uu, uu, uu, uu, uu, uu, uu, uu, uu, uu, uu, uu, uu, uu, uu, uu, uu], hp := emp }
theorem S22_eq (n : Nat × Nat) (sheets0 : List (Int × Int)) (order1 : List Int) : S22 n sheets0 order1 =
    (S59 n sheets0 order1).bind fun r1' =>
    (bif (r1' != 0) then some (0, r1')
    else (S62 n sheets0 order1).bind fun r2' =>
      L22_1 n n.1 sheets0 r2' 0) := by kernel_rfl
theorem S22_run (n : Nat × Nat) (xs : pksDen pk22) : S22 n xs.1 xs.2.1 = runG (E22 n) noScope c22 an22 (rtG rk22) (fun _ _ => none) (rtG rk22) (st0 pk22 xs Try.f22.ntmps) := by kernel_rfl
noncomputable def P22 (n : Nat × Nat) := phiOf pk22 rk22 (fun xs => S22 n xs.1 xs.2.1)
theorem call22 : CallOK Try.prog 22 := callOK_of Try.func22 (by kernel_rfl) (by kernel_rfl)
theorem env22 (n : Nat × Nat) : EnvOK Try.prog (E22 n) := envOK0 (consPhi_ok (FC59 n) call59 (consPhi_ok (FC62 n) call62 noPhi_ok)) rfl rfl
theorem par22 (n : Nat × Nat) : EnvPar (E22 n) := envPar0 (consPhi_par phiOf_Par1 (consPhi_par phiOf_Par1 noPhi_par)) rfl
theorem FC22 (n : Nat × Nat) : FCs Try.prog 22 (P22 n) := phiOf_FCs fun xs r h vs hv => FC.of_runG tabOK eqsOK (env22 n) (par22 n) mixed (fun _ => noScope_ok) Try.func22 (c := c22) (an := an22) (pks := pk22) (rks := rk22) (by kernel_rfl) (by kernel_rfl) hv ((S22_run n xs).symm.trans h)
end Go.Proofs.Ytnlbhjmbaedadaa
set_option linter.unusedVariables false
set_option linter.unusedSimpArgs false
set_option maxRecDepth 100000
namespace Go.Proofs.Ytnlbhjmbaedadaa
open Go.Vi
/-D 22 -/
noncomputable def DF22_1 (n : Nat × Nat) (f1 : (List (Int × Int)) → Int → Int → Option R22) (sheets0 : List (Int × Int)) (v7 : Int) (i8 : Int) : Option R22 :=
    (bif decide (i8 < (sheets0.length : Int)) then (idx sheets0 i8).bind fun x3' =>
      f1 sheets0 (wr .i64 (v7 - x3'.2)) (wr .i64 (i8 + 1))
    else some (v7, 0))
noncomputable def DL22_1 (n : Nat × Nat) (m : Nat) : (List (Int × Int)) → Int → Int → Option R22 := Nat.rec (motive := fun _ => (List (Int × Int)) → Int → Int → Option R22) (fun _ _ _ => none) (fun _ ih => DF22_1 n ih) m
theorem DL22_1_succ (n : Nat × Nat) (m : Nat) : DL22_1 n (m + 1) = DF22_1 n (DL22_1 n m) := rfl
theorem DL22_1_eq (n : Nat × Nat) (hn : n.2 = 1) : ∀ m, L22_1 n m = DL22_1 n m
  | 0 => by funext sheets0 v7 i8; kernel_rfl
  | m + 1 => by
    have ih := DL22_1_eq n hn m
    funext sheets0 v7 i8; refine (L22_1_eq n m sheets0 v7 i8).trans ?_
    rw [DL22_1_succ]
    unfold DF22_1
    (try simp only [ih, S59_D n hn, S62_D n hn]) <;> first | with_reducible rfl | rfl
noncomputable def D22 (n : Nat × Nat) (sheets0 : List (Int × Int)) (order1 : List Int) : Option R22 :=
    (D59 n sheets0 order1).bind fun r1' =>
    (bif (r1' != 0) then some (0, r1')
    else (D62 n sheets0 order1).bind fun r2' =>
      DL22_1 n n.1 sheets0 r2' 0)
theorem S22_D (n : Nat × Nat) (hn : n.2 = 1) : S22 n = D22 n := by
  funext sheets0 order1; refine (S22_eq n sheets0 order1).trans ?_
  unfold D22
  (try simp only [DL22_1_eq n hn, S59_D n hn, S62_D n hn]) <;> first | with_reducible rfl | rfl
end Go.Proofs.Ytnlbhjmbaedadaa
set_option linter.unusedVariables false
set_option linter.unusedSimpArgs false
set_option maxRecDepth 100000
namespace Go.Proofs.Ytnlbhjmbaedadaa
open Go.Vi
/- headword/headwordref07.sum -/
abbrev R67 := Int
noncomputable def c67 : Code := bodyOf Try.f67
noncomputable def an67 : Ann := (.s .l (.s .l (.s (.s .l (.j [7] (.j [0, 1, 2, 7, 8] (.s (.s .l (.j [0, 1, 2, 7, 8] .l .l)) (.j [] (.j [0, 1, 2, 7, 8] (.s (.s .l (.j [0, 1, 2, 7, 8] .l .l)) (.s .l (.j [0, 1, 2, 7, 8] .l .l))) .l) .l)) .l) .l)) .l)))
def pk67 : List PK := [.c (.sl (.pair (.int .i64) (.int .i64))), .c (.sl (.int .i64)), .c (.int .i64)]
def rk67 : List RK := [.c (.int .i64) 6]
noncomputable def rt67 (st : St) : Option R67 := rtG rk67 st
noncomputable def E67 (n : Nat × Nat) : Env := { T := tab, phi := noPhi, eff := fun _ => false, fuel := n.1, hold := n.2 }
noncomputable def kq67_1 (n : Nat × Nat) : St → Option R67 := run (E67 n) (cB (cB (cB c67))) (Ann.snd (Ann.snd (Ann.snd an67))) rt67 (fun _ _ => none) rt67
noncomputable def kc67_2 (n : Nat × Nat) : St → Option R67 := fun s => normC [7] s (kq67_1 n)
noncomputable def xb67_3 (n : Nat × Nat) : Nat → St → Option R67 := fun j s => bif Nat.beq j 0 then normC [7] s (kq67_1 n) else (fun _ _ => none) j s
noncomputable def F67_4 (n : Nat × Nat) : (St → Option R67) → St → Option R67 := fun K s => run (E67 n) (cA (cA (cB (cA (cB (cB c67)))))) (Ann.fst (Ann.fst (Ann.snd (Ann.fst (Ann.snd (Ann.snd an67)))))) (fun s => normC [0, 1, 2, 7, 8] s K) (xb67_3 n) rt67 s
noncomputable def kq67_5 (n : Nat × Nat) (m1 : Nat) : St → Option R67 := run (E67 n) (cB (cA (cA (cB (cA (cB (cB c67))))))) (Ann.snd (Ann.fst (Ann.fst (Ann.snd (Ann.fst (Ann.snd (Ann.snd an67))))))) (fun s => normC [0, 1, 2, 7, 8] s (loopN (F67_4 n) m1)) (xb67_3 n) rt67
noncomputable def kc67_6 (n : Nat × Nat) (m1 : Nat) : St → Option R67 := fun s => normC [0, 1, 2, 7, 8] s (kq67_5 n m1)
noncomputable def kq67_7 (n : Nat × Nat) (m1 : Nat) : St → Option R67 := run (E67 n) (cB (cB (cA (cA (cB (cA (cB (cB c67)))))))) (Ann.snd (Ann.snd (Ann.fst (Ann.fst (Ann.snd (Ann.fst (Ann.snd (Ann.snd an67)))))))) (fun s => normC [0, 1, 2, 7, 8] s (loopN (F67_4 n) m1)) (xb67_3 n) rt67
noncomputable def kc67_8 (n : Nat × Nat) (m1 : Nat) : St → Option R67 := fun s => normC [0, 1, 2, 7, 8] s (loopN (fun _ => (kq67_7 n m1)) n.2)
noncomputable def xb67_9 (n : Nat × Nat) (m1 : Nat) : Nat → St → Option R67 := fun j s => bif Nat.beq j 1 then normC [0, 1, 2, 7, 8] s (loopN (fun _ => (kq67_7 n m1)) n.2) else (xb67_3 n) j s
noncomputable def kq67_10 (n : Nat × Nat) (m1 : Nat) : St → Option R67 := run (E67 n) (cB (cA (cA (cB (cA (cA (cB (cA (cB (cB c67)))))))))) (Ann.snd (Ann.fst (Ann.fst (Ann.snd (Ann.fst (Ann.fst (Ann.snd (Ann.fst (Ann.snd (Ann.snd an67)))))))))) (kc67_8 n m1) (xb67_9 n m1) rt67
noncomputable def kc67_11 (n : Nat × Nat) (m1 : Nat) : St → Option R67 := fun s => normC [0, 1, 2, 7, 8] s (kq67_10 n m1)
noncomputable def kc67_12 (n : Nat × Nat) (m1 : Nat) : St → Option R67 := fun s => normC [0, 1, 2, 7, 8] s (kc67_8 n m1)
noncomputable def L67_1 (n : Nat × Nat) (m : Nat) (sheets0 : List (Int × Int)) (order1 : List Int) (place2 : Int) (v7 : Int) (p8 : Int) : Option R67 := loopN (F67_4 n) m { tm := [.c (.sl (.pair (.int .i64) (.int .i64)) sheets0 false), .c (.sl (.int .i64) order1 false), .c (.int .i64 place2), uu, uu, uu, uu, .c (.int .i64 v7), .c (.int .i64 p8), uu, uu, uu, uu, uu, uu, uu, uu, uu, uu, uu, uu, uu, uu, uu, uu, uu, uu, uu, uu, uu, uu, uu, uu, uu, uu, uu, uu, uu, uu, uu, uu, uu], hp := emp }
noncomputable def L67_2 (n : Nat × Nat) (m1 : Nat) (sheets0 : List (Int × Int)) (order1 : List Int) (place2 : Int) (v7 : Int) (p8 : Int) : Option R67 := loopN (fun _ => (kq67_7 n m1)) n.2 { tm := [.c (.sl (.pair (.int .i64) (.int .i64)) sheets0 false), .c (.sl (.int .i64) order1 false), .c (.int .i64 place2), uu, uu, uu, uu, .c (.int .i64 v7), .c (.int .i64 p8), uu, uu, uu, uu, uu, uu, uu, uu, uu, uu, uu, uu, uu, uu, uu, uu, uu, uu, uu, uu, uu, uu, uu, uu, uu, uu, uu, uu, uu, uu, uu, uu, uu], hp := emp }
theorem L67_1_eq (n : Nat × Nat) (m1 : Nat) (sheets0 : List (Int × Int)) (order1 : List Int) (place2 : Int) (v7 : Int) (p8 : Int) : L67_1 n (m1 + 1) sheets0 order1 place2 v7 p8 =
    (bif decide (p8 < (order1.length : Int)) then (bif decide (p8 ≤ place2) then (idx order1 p8).bind fun x1' =>
        (idx sheets0 x1').bind fun x2' =>
        (bif decide (p8 ≥ place2) then (idx order1 p8).bind fun x3' =>
          (idx sheets0 x3').bind fun x4' =>
          L67_2 n m1 sheets0 order1 place2 (wr .i64 ((wr .i64 (v7 + x2'.1)) + x4'.2)) p8
        else L67_2 n m1 sheets0 order1 place2 (wr .i64 (v7 + x2'.1)) p8)
      else (bif decide (p8 ≥ place2) then (idx order1 p8).bind fun x5' =>
          (idx sheets0 x5').bind fun x6' =>
          L67_2 n m1 sheets0 order1 place2 (wr .i64 (v7 + x6'.2)) p8
        else L67_2 n m1 sheets0 order1 place2 v7 p8))
    else some v7) := by kernel_rfl
theorem L67_2_raw (n : Nat × Nat) (m1 : Nat) (sheets0 : List (Int × Int)) (order1 : List Int) (place2 : Int) (v7 : Int) (p8 : Int) : (kq67_7 n m1) { tm := [.c (.sl (.pair (.int .i64) (.int .i64)) sheets0 false), .c (.sl (.int .i64) order1 false), .c (.int .i64 place2), uu, uu, uu, uu, .c (.int .i64 v7), .c (.int .i64 p8), uu, uu, uu, uu, uu, uu, uu, uu, uu, uu, uu, uu, uu, uu, uu, uu, uu, uu, uu, uu, uu, uu, uu, uu, uu, uu, uu, uu, uu, uu, uu, uu, uu], hp := emp } =
    L67_1 n m1 sheets0 order1 place2 v7 (wr .i64 (p8 + 1)) := by kernel_rfl
noncomputable def S67 (n : Nat × Nat) (sheets0 : List (Int × Int)) (order1 : List Int) (place2 : Int) : Option R67 := run (E67 n) c67 an67 rt67 (fun _ _ => none) rt67 { tm := [.c (.sl (.pair (.int .i64) (.int .i64)) sheets0 false), .c (.sl (.int .i64) order1 false), .c (.int .i64 place2), uu, uu, uu, uu, uu, uu, uu, uu, uu, uu, uu, uu, uu, uu, uu, uu, uu, uu, uu, uu, uu, uu, uu, uu, uu, uu, uu, uu, uu, uu, uu, uu, uu, uu, uu, uu, uu, uu, uu], hp := emp }
theorem S67_eq (n : Nat × Nat) (sheets0 : List (Int × Int)) (order1 : List Int) (place2 : Int) : S67 n sheets0 order1 place2 =
    L67_1 n n.1 sheets0 order1 place2 0 0 := by kernel_rfl
theorem S67_run (n : Nat × Nat) (xs : pksDen pk67) : S67 n xs.1 xs.2.1 xs.2.2.1 = runG (E67 n) noScope c67 an67 (rtG rk67) (fun _ _ => none) (rtG rk67) (st0 pk67 xs Try.f67.ntmps) := by kernel_rfl
noncomputable def P67 (n : Nat × Nat) := phiOf pk67 rk67 (fun xs => S67 n xs.1 xs.2.1 xs.2.2.1)
theorem call67 : CallOK Try.prog 67 := callOK_of Try.func67 (by kernel_rfl) (by kernel_rfl)
theorem env67 (n : Nat × Nat) : EnvOK Try.prog (E67 n) := envOK0 noPhi_ok rfl rfl
theorem par67 (n : Nat × Nat) : EnvPar (E67 n) := envPar0 noPhi_par rfl
theorem FC67 (n : Nat × Nat) : FCs Try.prog 67 (P67 n) := phiOf_FCs fun xs r h vs hv => FC.of_runG tabOK eqsOK (env67 n) (par67 n) mixed (fun _ => noScope_ok) Try.func67 (c := c67) (an := an67) (pks := pk67) (rks := rk67) (by kernel_rfl) (by kernel_rfl) hv ((S67_run n xs).symm.trans h)
end Go.Proofs.Ytnlbhjmbaedadaa
set_option linter.unusedVariables false
set_option linter.unusedSimpArgs false
set_option maxRecDepth 100000
namespace Go.Proofs.Ytnlbhjmbaedadaa
open Go.Vi
/- headword/headwordref07.Last -/
abbrev R24 := Int × Int
noncomputable def c24 : Code := bodyOf Try.f24
noncomputable def an24 : Ann := (.s .l (.s .l (.s (.s .l (.j [0, 1] .l .l)) (.s .l (.s (.j [7] (.j [0, 1, 7] (.s (.s .l (.j [0, 1, 7] .l .l)) (.j [0, 1, 7] .l .l)) .l) .l) .l)))))
def pk24 : List PK := [.c (.sl (.pair (.int .i64) (.int .i64))), .c (.sl (.int .i64))]
def rk24 : List RK := [.c (.int .i64) 4, .c (.int .i64) 5]
noncomputable def rt24 (st : St) : Option R24 := rtG rk24 st
noncomputable def E24 (n : Nat × Nat) : Env := { T := tab, phi := (consPhi 59 (fun _ => true) (P59 n) (consPhi 62 (fun _ => true) (P62 n) (consPhi 67 (fun _ => true) (P67 n) noPhi))), eff := fun _ => false, fuel := n.1, hold := n.2 }
noncomputable def kq24_1 (n : Nat × Nat) : St → Option R24 := run (E24 n) (cB (cB (cB c24))) (Ann.snd (Ann.snd (Ann.snd an24))) rt24 (fun _ _ => none) rt24
noncomputable def kc24_2 (n : Nat × Nat) : St → Option R24 := fun s => normC [0, 1] s (kq24_1 n)
noncomputable def kq24_3 (n : Nat × Nat) : St → Option R24 := run (E24 n) (cB (cB (cB (cB (cB c24))))) (Ann.snd (Ann.snd (Ann.snd (Ann.snd (Ann.snd an24))))) rt24 (fun _ _ => none) rt24
noncomputable def kc24_4 (n : Nat × Nat) : St → Option R24 := fun s => normC [7] s (kq24_3 n)
noncomputable def xb24_5 (n : Nat × Nat) : Nat → St → Option R24 := fun j s => bif Nat.beq j 0 then normC [7] s (kq24_3 n) else (fun _ _ => none) j s
noncomputable def F24_6 (n : Nat × Nat) : (St → Option R24) → St → Option R24 := fun K s => run (E24 n) (cA (cA (cA (cB (cB (cB (cB c24))))))) (Ann.fst (Ann.fst (Ann.fst (Ann.snd (Ann.snd (Ann.snd (Ann.snd an24))))))) (fun s => normC [0, 1, 7] s K) (xb24_5 n) rt24 s
noncomputable def kq24_7 (n : Nat × Nat) (m1 : Nat) : St → Option R24 := run (E24 n) (cB (cA (cA (cA (cB (cB (cB (cB c24)))))))) (Ann.snd (Ann.fst (Ann.fst (Ann.fst (Ann.snd (Ann.snd (Ann.snd (Ann.snd an24)))))))) (fun s => normC [0, 1, 7] s (loopN (F24_6 n) m1)) (xb24_5 n) rt24
noncomputable def kc24_8 (n : Nat × Nat) (m1 : Nat) : St → Option R24 := fun s => normC [0, 1, 7] s (kq24_7 n m1)
noncomputable def kc24_9 (n : Nat × Nat) (m1 : Nat) : St → Option R24 := fun s => normC [0, 1, 7] s (fun s => normC [0, 1, 7] s (loopN (F24_6 n) m1))
noncomputable def xb24_10 (n : Nat × Nat) (m1 : Nat) : Nat → St → Option R24 := fun j s => bif Nat.beq j 1 then normC [0, 1, 7] s (fun s => normC [0, 1, 7] s (loopN (F24_6 n) m1)) else (xb24_5 n) j s
noncomputable def L24_1 (n : Nat × Nat) (m : Nat) (sheets0 : List (Int × Int)) (order1 : List Int) (p7 : Int) : Option R24 := loopN (F24_6 n) m { tm := [.c (.sl (.pair (.int .i64) (.int .i64)) sheets0 false), .c (.sl (.int .i64) order1 false), uu, uu, uu, uu, uu, .c (.int .i64 p7), uu, uu, uu, uu, uu, uu, uu, uu, uu, uu, uu, uu, uu, uu, uu, uu, uu], hp := emp }
theorem L24_1_eq (n : Nat × Nat) (m1 : Nat) (sheets0 : List (Int × Int)) (order1 : List Int) (p7 : Int) : L24_1 n (m1 + 1) sheets0 order1 p7 =
    (S67 n sheets0 order1 p7).bind fun r2' =>
    (S62 n sheets0 order1).bind fun r3' =>
    (bif (r2' != r3') then L24_1 n m1 sheets0 order1 (wr .i64 (p7 + 1))
    else some (p7, 0)) := by kernel_rfl
noncomputable def S24 (n : Nat × Nat) (sheets0 : List (Int × Int)) (order1 : List Int) : Option R24 := run (E24 n) c24 an24 rt24 (fun _ _ => none) rt24 { tm := [.c (.sl (.pair (.int .i64) (.int .i64)) sheets0 false), .c (.sl (.int .i64) order1 false), uu, uu, uu, uu, uu, uu, uu, uu, uu, uu, uu, uu, uu, uu, uu, uu, uu, uu, uu, uu, uu, uu, uu], hp := emp }
theorem S24_eq (n : Nat × Nat) (sheets0 : List (Int × Int)) (order1 : List Int) : S24 n sheets0 order1 =
    (S59 n sheets0 order1).bind fun r1' =>
    (bif (r1' != 0) then some (0, r1')
    else L24_1 n n.1 sheets0 order1 0) := by kernel_rfl
theorem S24_run (n : Nat × Nat) (xs : pksDen pk24) : S24 n xs.1 xs.2.1 = runG (E24 n) noScope c24 an24 (rtG rk24) (fun _ _ => none) (rtG rk24) (st0 pk24 xs Try.f24.ntmps) := by kernel_rfl
noncomputable def P24 (n : Nat × Nat) := phiOf pk24 rk24 (fun xs => S24 n xs.1 xs.2.1)
theorem call24 : CallOK Try.prog 24 := callOK_of Try.func24 (by kernel_rfl) (by kernel_rfl)
theorem env24 (n : Nat × Nat) : EnvOK Try.prog (E24 n) := envOK0 (consPhi_ok (FC59 n) call59 (consPhi_ok (FC62 n) call62 (consPhi_ok (FC67 n) call67 noPhi_ok))) rfl rfl
theorem par24 (n : Nat × Nat) : EnvPar (E24 n) := envPar0 (consPhi_par phiOf_Par1 (consPhi_par phiOf_Par1 (consPhi_par phiOf_Par1 noPhi_par))) rfl
theorem FC24 (n : Nat × Nat) : FCs Try.prog 24 (P24 n) := phiOf_FCs fun xs r h vs hv => FC.of_runG tabOK eqsOK (env24 n) (par24 n) mixed (fun _ => noScope_ok) Try.func24 (c := c24) (an := an24) (pks := pk24) (rks := rk24) (by kernel_rfl) (by kernel_rfl) hv ((S24_run n xs).symm.trans h)
end Go.Proofs.Ytnlbhjmbaedadaa
set_option linter.unusedVariables false
set_option linter.unusedSimpArgs false
set_option maxRecDepth 100000
namespace Go.Proofs.Ytnlbhjmbaedadaa
open Go.Vi
/-D 67 -/
noncomputable def DL67_2 (n : Nat × Nat) (f1 : (List (Int × Int)) → List Int → Int → Int → Int → Option R67) (sheets0 : List (Int × Int)) (order1 : List Int) (place2 : Int) (v7 : Int) (p8 : Int) : Option R67 :=
    f1 sheets0 order1 place2 v7 (wr .i64 (p8 + 1))
theorem DL67_2_eq (n : Nat × Nat) (hn : n.2 = 1) (m1 : Nat) : L67_2 n m1 = DL67_2 n (L67_1 n m1) := by
  funext sheets0 order1 place2 v7 p8; refine ((held_eq hn _).trans (L67_2_raw n m1 sheets0 order1 place2 v7 p8)).trans ?_
  unfold DL67_2
  first | with_reducible rfl | rfl
noncomputable def DF67_1 (n : Nat × Nat) (f1 : (List (Int × Int)) → List Int → Int → Int → Int → Option R67) (sheets0 : List (Int × Int)) (order1 : List Int) (place2 : Int) (v7 : Int) (p8 : Int) : Option R67 :=
    (bif decide (p8 < (order1.length : Int)) then (bif decide (p8 ≤ place2) then (idx order1 p8).bind fun x1' =>
        (idx sheets0 x1').bind fun x2' =>
        (bif decide (p8 ≥ place2) then (idx order1 p8).bind fun x3' =>
          (idx sheets0 x3').bind fun x4' =>
          DL67_2 n f1 sheets0 order1 place2 (wr .i64 ((wr .i64 (v7 + x2'.1)) + x4'.2)) p8
        else DL67_2 n f1 sheets0 order1 place2 (wr .i64 (v7 + x2'.1)) p8)
      else (bif decide (p8 ≥ place2) then (idx order1 p8).bind fun x5' =>
          (idx sheets0 x5').bind fun x6' =>
          DL67_2 n f1 sheets0 order1 place2 (wr .i64 (v7 + x6'.2)) p8
        else DL67_2 n f1 sheets0 order1 place2 v7 p8))
    else some v7)
noncomputable def DL67_1 (n : Nat × Nat) (m : Nat) : (List (Int × Int)) → List Int → Int → Int → Int → Option R67 := Nat.rec (motive := fun _ => (List (Int × Int)) → List Int → Int → Int → Int → Option R67) (fun _ _ _ _ _ => none) (fun _ ih => DF67_1 n ih) m
theorem DL67_1_succ (n : Nat × Nat) (m : Nat) : DL67_1 n (m + 1) = DF67_1 n (DL67_1 n m) := rfl
theorem DL67_1_eq (n : Nat × Nat) (hn : n.2 = 1) : ∀ m, L67_1 n m = DL67_1 n m
  | 0 => by funext sheets0 order1 place2 v7 p8; kernel_rfl
  | m + 1 => by
    have ih := DL67_1_eq n hn m
    funext sheets0 order1 place2 v7 p8; refine (L67_1_eq n m sheets0 order1 place2 v7 p8).trans ?_
    rw [DL67_1_succ]
    unfold DF67_1
    (try simp only [ih, DL67_2_eq n hn]) <;> first | with_reducible rfl | rfl
noncomputable def D67 (n : Nat × Nat) (sheets0 : List (Int × Int)) (order1 : List Int) (place2 : Int) : Option R67 :=
    DL67_1 n n.1 sheets0 order1 place2 0 0
theorem S67_D (n : Nat × Nat) (hn : n.2 = 1) : S67 n = D67 n := by
  funext sheets0 order1 place2; refine (S67_eq n sheets0 order1 place2).trans ?_
  unfold D67
  (try simp only [DL67_2_eq n hn, DL67_1_eq n hn]) <;> first | with_reducible rfl | rfl
end Go.Proofs.Ytnlbhjmbaedadaa
set_option linter.unusedVariables false
set_option linter.unusedSimpArgs false
set_option maxRecDepth 100000
namespace Go.Proofs.Ytnlbhjmbaedadaa
open Go.Vi
/-D 24 -/
noncomputable def DF24_1 (n : Nat × Nat) (f1 : (List (Int × Int)) → List Int → Int → Option R24) (sheets0 : List (Int × Int)) (order1 : List Int) (p7 : Int) : Option R24 :=
    (D67 n sheets0 order1 p7).bind fun r2' =>
    (D62 n sheets0 order1).bind fun r3' =>
    (bif (r2' != r3') then f1 sheets0 order1 (wr .i64 (p7 + 1))
    else some (p7, 0))
noncomputable def DL24_1 (n : Nat × Nat) (m : Nat) : (List (Int × Int)) → List Int → Int → Option R24 := Nat.rec (motive := fun _ => (List (Int × Int)) → List Int → Int → Option R24) (fun _ _ _ => none) (fun _ ih => DF24_1 n ih) m
theorem DL24_1_succ (n : Nat × Nat) (m : Nat) : DL24_1 n (m + 1) = DF24_1 n (DL24_1 n m) := rfl
theorem DL24_1_eq (n : Nat × Nat) (hn : n.2 = 1) : ∀ m, L24_1 n m = DL24_1 n m
  | 0 => by funext sheets0 order1 p7; kernel_rfl
  | m + 1 => by
    have ih := DL24_1_eq n hn m
    funext sheets0 order1 p7; refine (L24_1_eq n m sheets0 order1 p7).trans ?_
    rw [DL24_1_succ]
    unfold DF24_1
    (try simp only [ih, S59_D n hn, S62_D n hn, S67_D n hn]) <;> first | with_reducible rfl | rfl
noncomputable def D24 (n : Nat × Nat) (sheets0 : List (Int × Int)) (order1 : List Int) : Option R24 :=
    (D59 n sheets0 order1).bind fun r1' =>
    (bif (r1' != 0) then some (0, r1')
    else DL24_1 n n.1 sheets0 order1 0)
theorem S24_D (n : Nat × Nat) (hn : n.2 = 1) : S24 n = D24 n := by
  funext sheets0 order1; refine (S24_eq n sheets0 order1).trans ?_
  unfold D24
  (try simp only [DL24_1_eq n hn, S59_D n hn, S62_D n hn, S67_D n hn]) <;> first | with_reducible rfl | rfl
end Go.Proofs.Ytnlbhjmbaedadaa
