/- Texts of this claim, joined: G43 to D28. -/
import Derived.KernelRfl
import Derived.Test.YtnlbhjmbaedadaaProg
import Derived.WalkKit
import Derived.Test.YtnlbhjmbaedadaaP6
set_option linter.unusedVariables false
set_option linter.unusedSimpArgs false
set_option maxRecDepth 100000
namespace Go.Proofs.Ytnlbhjmbaedadaa
open Go.Vi
/- (headword/headwordlaw07.Forme).made -/
abbrev R43 := List (Int × Int)
noncomputable def c43 : Code := bodyOf Try.f43
noncomputable def an43 : Ann := (.s .l (.s .l (.s .l (.s (.s .l (.j [5] (.j [5, 6, 21, 22, 23] (.s .l (.s (.j [5, 6, 21, 22, 23] .l .l) (.s (.j [5, 6, 21, 22, 23] .l .l) .l))) .l) .l)) .l))))
def pk43 : List PK := [.c (.pair (.int .u8) (.pair (.int .u8) (.pair (.pair (.int .u8) (.int .u8)) (.pair (.pair (.int .u8) (.int .u8)) (.pair (.pair (.int .u8) (.int .u8)) (.pair (.pair (.int .u8) (.int .u8)) (.pair (.pair (.int .u8) (.int .u8)) (.pair (.pair (.int .u8) (.int .u8)) (.pair (.int .u8) (.int .u8)))))))))), .c (.int .i64)]
def rk43 : List RK := [.sl (.pair (.int .i64) (.int .i64)) 4]
noncomputable def rt43 (st : St) : Option R43 := rtG rk43 st
noncomputable def E43 (n : Nat × Nat) : Env := { T := tab, phi := noPhi, eff := fun _ => false, fuel := n.1, hold := n.2 }
noncomputable def kq43_1 (n : Nat × Nat) : St → Option R43 := run (E43 n) (cB (cB (cB (cB c43)))) (Ann.snd (Ann.snd (Ann.snd (Ann.snd an43)))) rt43 (fun _ _ => none) rt43
noncomputable def kc43_2 (n : Nat × Nat) : St → Option R43 := fun s => normC [5] s (kq43_1 n)
noncomputable def xb43_3 (n : Nat × Nat) : Nat → St → Option R43 := fun j s => bif Nat.beq j 0 then normC [5] s (kq43_1 n) else (fun _ _ => none) j s
noncomputable def F43_4 (n : Nat × Nat) : (St → Option R43) → St → Option R43 := fun K s => run (E43 n) (cA (cA (cB (cA (cB (cB (cB c43))))))) (Ann.fst (Ann.fst (Ann.snd (Ann.fst (Ann.snd (Ann.snd (Ann.snd an43))))))) (fun s => normC [5, 6, 21, 22, 23] s K) (xb43_3 n) rt43 s
noncomputable def kq43_5 (n : Nat × Nat) (m1 : Nat) : St → Option R43 := run (E43 n) (cB (cB (cA (cA (cB (cA (cB (cB (cB c43))))))))) (Ann.snd (Ann.snd (Ann.fst (Ann.fst (Ann.snd (Ann.fst (Ann.snd (Ann.snd (Ann.snd an43))))))))) (fun s => normC [5, 6, 21, 22, 23] s (loopN (F43_4 n) m1)) (xb43_3 n) rt43
noncomputable def kc43_6 (n : Nat × Nat) (m1 : Nat) : St → Option R43 := fun s => normC [5, 6, 21, 22, 23] s (kq43_5 n m1)
noncomputable def kq43_7 (n : Nat × Nat) (m1 : Nat) : St → Option R43 := run (E43 n) (cB (cB (cB (cA (cA (cB (cA (cB (cB (cB c43)))))))))) (Ann.snd (Ann.snd (Ann.snd (Ann.fst (Ann.fst (Ann.snd (Ann.fst (Ann.snd (Ann.snd (Ann.snd an43)))))))))) (fun s => normC [5, 6, 21, 22, 23] s (loopN (F43_4 n) m1)) (xb43_3 n) rt43
noncomputable def kc43_8 (n : Nat × Nat) (m1 : Nat) : St → Option R43 := fun s => normC [5, 6, 21, 22, 23] s (kq43_7 n m1)
noncomputable def xb43_9 (n : Nat × Nat) (m1 : Nat) : Nat → St → Option R43 := fun j s => bif Nat.beq j 1 then normC [5, 6, 21, 22, 23] s (kq43_7 n m1) else (xb43_3 n) j s
noncomputable def L43_1 (n : Nat × Nat) (m : Nat) (top6 : Int) (v21 : List (Int × Int)) (v22 : Int) (v23 : Int) (out5 : List (Int × Int)) : Option R43 := loopN (F43_4 n) m { tm := [uu, uu, uu, uu, uu, .own 5 none false, .c (.int .i64 top6), uu, uu, uu, uu, uu, uu, uu, uu, uu, uu, uu, uu, uu, uu, .c (.sl (.pair (.int .u8) (.int .u8)) v21 false), .c (.int .i64 v22), .c (.int .i64 v23), uu, uu, uu, uu, uu, uu, uu, uu, uu, uu, uu, uu, uu, uu, uu, uu, uu, uu, uu, uu, uu], hp := (upd emp 5 (.arr (.pair (.int .i64) (.int .i64)) out5 true)) }
theorem L43_1_eq (n : Nat × Nat) (m1 : Nat) (top6 : Int) (v21 : List (Int × Int)) (v22 : Int) (v23 : Int) (out5 : List (Int × Int)) : L43_1 n (m1 + 1) top6 v21 v22 v23 out5 =
    (bif decide (v23 < v22) then (idx v21 v23).bind fun x1' =>
      (bif inB 0 2 then (idx [x1'.1, x1'.2] 0).bind fun x2' =>
        (bif (wr .i64 (top6 + 1)) == 0 then none
        else (bif inB 1 2 then (idx [x1'.1, x1'.2] 1).bind fun x3' =>
            (bif (wr .i64 (top6 + 1)) == 0 then none
            else (bif decide (out5.length + [(Int.tmod (wr .i64 x2') (wr .i64 (top6 + 1)), Int.tmod (wr .i64 x3') (wr .i64 (top6 + 1)))].length ≤ lim) then L43_1 n m1 top6 v21 v22 (wr .i64 (v23 + 1)) (out5 ++ [(Int.tmod (wr .i64 x2') (wr .i64 (top6 + 1)), Int.tmod (wr .i64 x3') (wr .i64 (top6 + 1)))])
              else none))
          else none))
      else none)
    else some out5) := by kernel_rfl
noncomputable def S43 (n : Nat × Nat) (f0 : Int × Int × (Int × Int) × (Int × Int) × (Int × Int) × (Int × Int) × (Int × Int) × (Int × Int) × Int × Int) (most1 : Int) : Option R43 := run (E43 n) c43 an43 rt43 (fun _ _ => none) rt43 { tm := [.agg [.int .u8 f0.1, .int .u8 f0.2.1, .int .u8 f0.2.2.1.1, .int .u8 f0.2.2.1.2, .int .u8 f0.2.2.2.1.1, .int .u8 f0.2.2.2.1.2, .int .u8 f0.2.2.2.2.1.1, .int .u8 f0.2.2.2.2.1.2, .int .u8 f0.2.2.2.2.2.1.1, .int .u8 f0.2.2.2.2.2.1.2, .int .u8 f0.2.2.2.2.2.2.1.1, .int .u8 f0.2.2.2.2.2.2.1.2, .int .u8 f0.2.2.2.2.2.2.2.1.1, .int .u8 f0.2.2.2.2.2.2.2.1.2, .int .u8 f0.2.2.2.2.2.2.2.2.1, .int .u8 f0.2.2.2.2.2.2.2.2.2], .c (.int .i64 most1), uu, uu, uu, uu, uu, uu, uu, uu, uu, uu, uu, uu, uu, uu, uu, uu, uu, uu, uu, uu, uu, uu, uu, uu, uu, uu, uu, uu, uu, uu, uu, uu, uu, uu, uu, uu, uu, uu, uu, uu, uu, uu, uu], hp := emp }
theorem S43_eq (n : Nat × Nat) (f0 : Int × Int × (Int × Int) × (Int × Int) × (Int × Int) × (Int × Int) × (Int × Int) × (Int × Int) × Int × Int) (most1 : Int) : S43 n f0 most1 =
    (bif 50 == 0 then none
    else (bif most1 == 0 then none
      else (bif bounds none (some (wr .i64 (1 + (Int.tmod (wr .i64 f0.1) most1)))) none 7 then L43_1 n n.1 (wr .i64 ((Int.tmod (wr .i64 f0.2.1) 50) + 1)) ([f0.2.2.1, f0.2.2.2.1, f0.2.2.2.2.1, f0.2.2.2.2.2.1, f0.2.2.2.2.2.2.1, f0.2.2.2.2.2.2.2.1, f0.2.2.2.2.2.2.2.2].take (Int.toNat (wr .i64 (1 + (Int.tmod (wr .i64 f0.1) most1))))) (([f0.2.2.1, f0.2.2.2.1, f0.2.2.2.2.1, f0.2.2.2.2.2.1, f0.2.2.2.2.2.2.1, f0.2.2.2.2.2.2.2.1, f0.2.2.2.2.2.2.2.2].take (Int.toNat (wr .i64 (1 + (Int.tmod (wr .i64 f0.1) most1))))).length : Int) 0 []
        else none))) := by kernel_rfl
theorem S43_run (n : Nat × Nat) (xs : pksDen pk43) : S43 n xs.1 xs.2.1 = runG (E43 n) noScope c43 an43 (rtG rk43) (fun _ _ => none) (rtG rk43) (st0 pk43 xs Try.f43.ntmps) := by kernel_rfl
noncomputable def P43 (n : Nat × Nat) := phiOf pk43 rk43 (fun xs => S43 n xs.1 xs.2.1)
theorem call43 : CallOK Try.prog 43 := callOK_of Try.func43 (by kernel_rfl) (by kernel_rfl)
theorem env43 (n : Nat × Nat) : EnvOK Try.prog (E43 n) := envOK0 noPhi_ok rfl rfl
theorem par43 (n : Nat × Nat) : EnvPar (E43 n) := envPar0 noPhi_par rfl
theorem FC43 (n : Nat × Nat) : FCs Try.prog 43 (P43 n) := phiOf_FCs fun xs r h vs hv => FC.of_runG tabOK eqsOK (env43 n) (par43 n) mixed (fun _ => noScope_ok) Try.func43 (c := c43) (an := an43) (pks := pk43) (rks := rk43) (by kernel_rfl) (by kernel_rfl) hv ((S43_run n xs).symm.trans h)
abbrev R45 := Bool
noncomputable def c45 : Code := bodyOf Try.f45
noncomputable def an45 : Ann := (.s .l (.s (.s .l (.j [0, 1, 21, 22, 23, 26, 27, 28, 29, 30] .l .l)) (.s (.s .l (.j [] (.j [0, 1, 11, 12, 13, 21, 22, 23, 26, 27, 28, 29, 30] (.s .l (.s (.j [0, 1, 11, 12, 13, 21, 22, 23, 26, 27, 28, 29, 30] .l .l) (.s (.j [0, 1, 11, 12, 13, 21, 22, 23, 26, 27, 28, 29, 30] (.s .l (.s .l (.j [0, 1, 11, 12, 13, 21, 22, 23, 26, 27, 28, 29, 30] .l .l))) .l) .l))) .l) .l)) .l)))
def pk45 : List PK := [.c (.sl (.int .i64)), .c (.int .i64)]
def rk45 : List RK := [.c .bool 4]
noncomputable def rt45 (st : St) : Option R45 := rtG rk45 st
noncomputable def E45 (n : Nat × Nat) : Env := { T := tab, phi := (consPhi 80 (fun _ => true) (P80 n) noPhi), eff := fun _ => false, fuel := n.1, hold := n.2 }
noncomputable def kq45_1 (n : Nat × Nat) : St → Option R45 := run (E45 n) (cB (cB c45)) (Ann.snd (Ann.snd an45)) rt45 (fun _ _ => none) rt45
noncomputable def kc45_2 (n : Nat × Nat) : St → Option R45 := fun s => normC [0, 1, 21, 22, 23, 26, 27, 28, 29, 30] s (kq45_1 n)
noncomputable def kq45_3 (n : Nat × Nat) : St → Option R45 := run (E45 n) (cB (cB (cB c45))) (Ann.snd (Ann.snd (Ann.snd an45))) rt45 (fun _ _ => none) rt45
noncomputable def kc45_4 (n : Nat × Nat) : St → Option R45 := fun s => normC [] s (kq45_3 n)
noncomputable def xb45_5 (n : Nat × Nat) : Nat → St → Option R45 := fun j s => bif Nat.beq j 0 then normC [] s (kq45_3 n) else (fun _ _ => none) j s
noncomputable def F45_6 (n : Nat × Nat) : (St → Option R45) → St → Option R45 := fun K s => run (E45 n) (cA (cA (cB (cA (cB (cB c45)))))) (Ann.fst (Ann.fst (Ann.snd (Ann.fst (Ann.snd (Ann.snd an45)))))) (fun s => normC [0, 1, 11, 12, 13, 21, 22, 23, 26, 27, 28, 29, 30] s K) (xb45_5 n) rt45 s
noncomputable def kq45_7 (n : Nat × Nat) (m1 : Nat) : St → Option R45 := run (E45 n) (cB (cB (cA (cA (cB (cA (cB (cB c45)))))))) (Ann.snd (Ann.snd (Ann.fst (Ann.fst (Ann.snd (Ann.fst (Ann.snd (Ann.snd an45)))))))) (fun s => normC [0, 1, 11, 12, 13, 21, 22, 23, 26, 27, 28, 29, 30] s (loopN (F45_6 n) m1)) (xb45_5 n) rt45
noncomputable def kc45_8 (n : Nat × Nat) (m1 : Nat) : St → Option R45 := fun s => normC [0, 1, 11, 12, 13, 21, 22, 23, 26, 27, 28, 29, 30] s (kq45_7 n m1)
noncomputable def kq45_9 (n : Nat × Nat) (m1 : Nat) : St → Option R45 := run (E45 n) (cB (cB (cB (cA (cA (cB (cA (cB (cB c45))))))))) (Ann.snd (Ann.snd (Ann.snd (Ann.fst (Ann.fst (Ann.snd (Ann.fst (Ann.snd (Ann.snd an45))))))))) (fun s => normC [0, 1, 11, 12, 13, 21, 22, 23, 26, 27, 28, 29, 30] s (loopN (F45_6 n) m1)) (xb45_5 n) rt45
noncomputable def kc45_10 (n : Nat × Nat) (m1 : Nat) : St → Option R45 := fun s => normC [0, 1, 11, 12, 13, 21, 22, 23, 26, 27, 28, 29, 30] s (kq45_9 n m1)
noncomputable def xb45_11 (n : Nat × Nat) (m1 : Nat) : Nat → St → Option R45 := fun j s => bif Nat.beq j 1 then normC [0, 1, 11, 12, 13, 21, 22, 23, 26, 27, 28, 29, 30] s (kq45_9 n m1) else (xb45_5 n) j s
noncomputable def kc45_12 (n : Nat × Nat) (m1 : Nat) : St → Option R45 := fun s => normC [0, 1, 11, 12, 13, 21, 22, 23, 26, 27, 28, 29, 30] s (kc45_10 n m1)
noncomputable def L45_1 (n : Nat × Nat) (m : Nat) (l0 : List Int) (v1 : Int) (v11 : List Int) (v12 : Int) (v13 : Int) : Option R45 := loopN (F45_6 n) m { tm := [.c (.sl (.int .i64) l0 false), .c (.int .i64 v1), uu, uu, uu, uu, uu, uu, uu, uu, uu, .c (.sl (.int .i64) v11 false), .c (.int .i64 v12), .c (.int .i64 v13), uu, uu, uu, uu, uu, uu, uu, uu, uu, uu, uu, uu, uu, uu, uu, uu, uu, uu, uu], hp := emp }
theorem L45_1_eq (n : Nat × Nat) (m1 : Nat) (l0 : List Int) (v1 : Int) (v11 : List Int) (v12 : Int) (v13 : Int) : L45_1 n (m1 + 1) l0 v1 v11 v12 v13 =
    (bif decide (v13 < v12) then (idx v11 v13).bind fun x1' =>
      ((bif (decide (x1' < 0) == false) then some (decide (x1' ≥ v1))
        else some true)).bind fun b2' =>
      ((bif (b2' == false) then (bif bounds none (some v13) none l0.length then (S80 n (l0.take (Int.toNat v13)) x1').bind fun r3' =>
            some r3'
          else none)
        else some true)).bind fun b4' =>
      (bif b4' then some false
      else L45_1 n m1 l0 v1 v11 v12 (wr .i64 (v13 + 1)))
    else some true) := by kernel_rfl
noncomputable def S45 (n : Nat × Nat) (l0 : List Int) (v1 : Int) : Option R45 := run (E45 n) c45 an45 rt45 (fun _ _ => none) rt45 { tm := [.c (.sl (.int .i64) l0 false), .c (.int .i64 v1), uu, uu, uu, uu, uu, uu, uu, uu, uu, uu, uu, uu, uu, uu, uu, uu, uu, uu, uu, uu, uu, uu, uu, uu, uu, uu, uu, uu, uu, uu, uu], hp := emp }
theorem S45_eq (n : Nat × Nat) (l0 : List Int) (v1 : Int) : S45 n l0 v1 =
    (bif ((l0.length : Int) != v1) then some false
    else L45_1 n n.1 l0 v1 l0 (l0.length : Int) 0) := by kernel_rfl
theorem S45_run (n : Nat × Nat) (xs : pksDen pk45) : S45 n xs.1 xs.2.1 = runG (E45 n) noScope c45 an45 (rtG rk45) (fun _ _ => none) (rtG rk45) (st0 pk45 xs Try.f45.ntmps) := by kernel_rfl
noncomputable def P45 (n : Nat × Nat) := phiOf pk45 rk45 (fun xs => S45 n xs.1 xs.2.1)
theorem call45 : CallOK Try.prog 45 := callOK_of Try.func45 (by kernel_rfl) (by kernel_rfl)
theorem env45 (n : Nat × Nat) : EnvOK Try.prog (E45 n) := envOK0 (consPhi_ok (FC80 n) call80 noPhi_ok) rfl rfl
theorem par45 (n : Nat × Nat) : EnvPar (E45 n) := envPar0 (consPhi_par phiOf_Par1 noPhi_par) rfl
theorem FC45 (n : Nat × Nat) : FCs Try.prog 45 (P45 n) := phiOf_FCs fun xs r h vs hv => FC.of_runG tabOK eqsOK (env45 n) (par45 n) mixed (fun _ => noScope_ok) Try.func45 (c := c45) (an := an45) (pks := pk45) (rks := rk45) (by kernel_rfl) (by kernel_rfl) hv ((S45_run n xs).symm.trans h)
abbrev R48 := List Int
noncomputable def c48 : Code := bodyOf Try.f48
noncomputable def an48 : Ann := (.s .l (.s .l (.s (.s .l (.j [5] (.j [3, 5, 11, 12] (.s .l (.s (.j [3, 5, 11, 12] .l .l) (.s (.j [3, 5, 11, 12] .l .l) .l))) .l) .l)) .l)))
def pk48 : List PK := [.c (.int .i64), .c (.pair (.int .u8) (.pair (.int .u8) (.pair (.int .u8) (.pair (.int .u8) (.pair (.int .u8) (.pair (.int .u8) (.int .u8)))))))]
def rk48 : List RK := [.own (.int .i64) 4]
noncomputable def rt48 (st : St) : Option R48 := rtG rk48 st
noncomputable def E48 (n : Nat × Nat) : Env := { T := tab, phi := noPhi, eff := fun _ => false, fuel := n.1, hold := n.2 }
noncomputable def kq48_1 (n : Nat × Nat) : St → Option R48 := run (E48 n) (cB (cB (cB c48))) (Ann.snd (Ann.snd (Ann.snd an48))) rt48 (fun _ _ => none) rt48
noncomputable def kc48_2 (n : Nat × Nat) : St → Option R48 := fun s => normC [5] s (kq48_1 n)
noncomputable def xb48_3 (n : Nat × Nat) : Nat → St → Option R48 := fun j s => bif Nat.beq j 0 then normC [5] s (kq48_1 n) else (fun _ _ => none) j s
noncomputable def F48_4 (n : Nat × Nat) : (St → Option R48) → St → Option R48 := fun K s => run (E48 n) (cA (cA (cB (cA (cB (cB c48)))))) (Ann.fst (Ann.fst (Ann.snd (Ann.fst (Ann.snd (Ann.snd an48)))))) (fun s => normC [3, 5, 11, 12] s K) (xb48_3 n) rt48 s
noncomputable def kq48_5 (n : Nat × Nat) (m1 : Nat) : St → Option R48 := run (E48 n) (cB (cB (cA (cA (cB (cA (cB (cB c48)))))))) (Ann.snd (Ann.snd (Ann.fst (Ann.fst (Ann.snd (Ann.fst (Ann.snd (Ann.snd an48)))))))) (fun s => normC [3, 5, 11, 12] s (loopN (F48_4 n) m1)) (xb48_3 n) rt48
noncomputable def kc48_6 (n : Nat × Nat) (m1 : Nat) : St → Option R48 := fun s => normC [3, 5, 11, 12] s (kq48_5 n m1)
noncomputable def kq48_7 (n : Nat × Nat) (m1 : Nat) : St → Option R48 := run (E48 n) (cB (cB (cB (cA (cA (cB (cA (cB (cB c48))))))))) (Ann.snd (Ann.snd (Ann.snd (Ann.fst (Ann.fst (Ann.snd (Ann.fst (Ann.snd (Ann.snd an48))))))))) (fun s => normC [3, 5, 11, 12] s (loopN (F48_4 n) m1)) (xb48_3 n) rt48
noncomputable def kc48_8 (n : Nat × Nat) (m1 : Nat) : St → Option R48 := fun s => normC [3, 5, 11, 12] s (kq48_7 n m1)
noncomputable def xb48_9 (n : Nat × Nat) (m1 : Nat) : Nat → St → Option R48 := fun j s => bif Nat.beq j 1 then normC [3, 5, 11, 12] s (kq48_7 n m1) else (xb48_3 n) j s
noncomputable def L48_1 (n : Nat × Nat) (m : Nat) (v11 : Int) (v12 : Int) (v3_0 : Int) (v3_1 : Int) (v3_2 : Int) (v3_3 : Int) (v3_4 : Int) (v3_5 : Int) (v3_6 : Int) (to5 : List Int) : Option R48 := loopN (F48_4 n) m { tm := [uu, uu, uu, .ptr 3 0, uu, .own 5 none false, uu, uu, uu, uu, uu, .c (.int .i64 v11), .c (.int .i64 v12), uu, uu, uu, uu, uu, uu, uu, uu, uu, uu, uu, uu, uu, uu, uu, uu, uu, uu, uu, uu, uu, uu, uu, uu, uu, uu, uu, uu, uu], hp := (upd (upd emp 5 (.arr (.int .i64) to5 false)) 3 (.box [.int .u8 v3_0, .int .u8 v3_1, .int .u8 v3_2, .int .u8 v3_3, .int .u8 v3_4, .int .u8 v3_5, .int .u8 v3_6])) }
theorem L48_1_eq (n : Nat × Nat) (m1 : Nat) (v11 : Int) (v12 : Int) (v3_0 : Int) (v3_1 : Int) (v3_2 : Int) (v3_3 : Int) (v3_4 : Int) (v3_5 : Int) (v3_6 : Int) (to5 : List Int) : L48_1 n (m1 + 1) v11 v12 v3_0 v3_1 v3_2 v3_3 v3_4 v3_5 v3_6 to5 =
    (bif decide (v12 < v11) then (bif inB v12 to5.length then (idx to5 v12).bind fun x1' =>
        (bif inB v12 7 then (idx [v3_0, v3_1, v3_2, v3_3, v3_4, v3_5, v3_6] v12).bind fun x2' =>
          (bif (wr .i64 (v12 + 1)) == 0 then none
          else (bif inB (Int.tmod (wr .i64 x2') (wr .i64 (v12 + 1))) (to5.set (Int.toNat v12) v12).length then (idx (to5.set (Int.toNat v12) v12) (Int.tmod (wr .i64 x2') (wr .i64 (v12 + 1)))).bind fun x3' =>
              (bif inB v12 (to5.set (Int.toNat v12) v12).length then (idx (to5.set (Int.toNat v12) v12) v12).bind fun x4' =>
                (bif inB v12 (to5.set (Int.toNat v12) v12).length then (idx (to5.set (Int.toNat v12) v12) v12).bind fun x5' =>
                  (bif inB (Int.tmod (wr .i64 x2') (wr .i64 (v12 + 1))) ((to5.set (Int.toNat v12) v12).set (Int.toNat v12) x3').length then (idx ((to5.set (Int.toNat v12) v12).set (Int.toNat v12) x3') (Int.tmod (wr .i64 x2') (wr .i64 (v12 + 1)))).bind fun x6' =>
                    L48_1 n m1 v11 (wr .i64 (v12 + 1)) v3_0 v3_1 v3_2 v3_3 v3_4 v3_5 v3_6 (((to5.set (Int.toNat v12) v12).set (Int.toNat v12) x3').set (Int.toNat (Int.tmod (wr .i64 x2') (wr .i64 (v12 + 1)))) x4')
                  else none)
                else none)
              else none)
            else none))
        else none)
      else none)
    else some to5) := by kernel_rfl
noncomputable def S48 (n : Nat × Nat) (v0 : Int) (v1 : Int × Int × Int × Int × Int × Int × Int) : Option R48 := run (E48 n) c48 an48 rt48 (fun _ _ => none) rt48 { tm := [.c (.int .i64 v0), .agg [.int .u8 v1.1, .int .u8 v1.2.1, .int .u8 v1.2.2.1, .int .u8 v1.2.2.2.1, .int .u8 v1.2.2.2.2.1, .int .u8 v1.2.2.2.2.2.1, .int .u8 v1.2.2.2.2.2.2], uu, uu, uu, uu, uu, uu, uu, uu, uu, uu, uu, uu, uu, uu, uu, uu, uu, uu, uu, uu, uu, uu, uu, uu, uu, uu, uu, uu, uu, uu, uu, uu, uu, uu, uu, uu, uu, uu, uu, uu], hp := emp }
theorem S48_eq (n : Nat × Nat) (v0 : Int) (v1 : Int × Int × Int × Int × Int × Int × Int) : S48 n v0 v1 =
    (bif decide (0 ≤ v0) && decide (v0 ≤ v0) && decide (v0 ≤ lim) then L48_1 n n.1 ((List.replicate (Int.toNat v0) (0 : Int)).length : Int) 0 v1.1 v1.2.1 v1.2.2.1 v1.2.2.2.1 v1.2.2.2.2.1 v1.2.2.2.2.2.1 v1.2.2.2.2.2.2 (List.replicate (Int.toNat v0) (0 : Int))
    else none) := by kernel_rfl
theorem S48_run (n : Nat × Nat) (xs : pksDen pk48) : S48 n xs.1 xs.2.1 = runG (E48 n) noScope c48 an48 (rtG rk48) (fun _ _ => none) (rtG rk48) (st0 pk48 xs Try.f48.ntmps) := by kernel_rfl
noncomputable def P48 (n : Nat × Nat) := phiOf pk48 rk48 (fun xs => S48 n xs.1 xs.2.1)
theorem call48 : CallOK Try.prog 48 := callOK_of Try.func48 (by kernel_rfl) (by kernel_rfl)
theorem env48 (n : Nat × Nat) : EnvOK Try.prog (E48 n) := envOK0 noPhi_ok rfl rfl
theorem par48 (n : Nat × Nat) : EnvPar (E48 n) := envPar0 noPhi_par rfl
theorem FC48 (n : Nat × Nat) : FCs Try.prog 48 (P48 n) := phiOf_FCs fun xs r h vs hv => FC.of_runG tabOK eqsOK (env48 n) (par48 n) mixed (fun _ => noScope_ok) Try.func48 (c := c48) (an := an48) (pks := pk48) (rks := rk48) (by kernel_rfl) (by kernel_rfl) hv ((S48_run n xs).symm.trans h)
abbrev R9 := Bool
noncomputable def c9 : Code := bodyOf Try.f9
noncomputable def an9 : Ann := (.s .l (.s .l (.s .l (.s .l (.s (.s .l (.j [5, 7, 57, 58, 61, 62, 63, 64, 65, 68, 69, 70, 71, 72, 99, 100, 103, 104, 107, 108, 111, 112, 113, 116, 117, 118, 121] (.j [5, 6, 7, 29, 30, 31, 57, 58, 61, 62, 63, 64, 65, 68, 69, 70, 71, 72, 99, 100, 103, 104, 107, 108, 111, 112, 113, 116, 117, 118, 121] (.s .l (.s (.j [5, 6, 7, 29, 30, 31, 57, 58, 61, 62, 63, 64, 65, 68, 69, 70, 71, 72, 99, 100, 103, 104, 107, 108, 111, 112, 113, 116, 117, 118, 121] .l .l) (.s (.j [5, 6, 7, 29, 30, 31, 57, 58, 61, 62, 63, 64, 65, 68, 69, 70, 71, 72, 99, 100, 103, 104, 107, 108, 111, 112, 113, 116, 117, 118, 121] .l .l) .l))) .l) .l)) (.s .l (.s .l (.s (.s .l (.j [5, 7, 10, 12, 99, 100, 103, 104, 107, 108, 111, 112, 113, 116, 117, 118, 121] .l .l)) .l))))))))
def pk9 : List PK := [.c (.pair (.int .u8) (.pair (.int .u8) (.pair (.pair (.int .u8) (.int .u8)) (.pair (.pair (.int .u8) (.int .u8)) (.pair (.pair (.int .u8) (.int .u8)) (.pair (.pair (.int .u8) (.int .u8)) (.pair (.pair (.int .u8) (.int .u8)) (.pair (.pair (.int .u8) (.int .u8)) (.pair (.int .u8) (.int .u8)))))))))), .c (.pair (.int .u8) (.pair (.int .u8) (.pair (.int .u8) (.pair (.int .u8) (.pair (.int .u8) (.pair (.int .u8) (.int .u8)))))))]
def rk9 : List RK := [.c .bool 4]
noncomputable def rt9 (st : St) : Option R9 := rtG rk9 st
noncomputable def E9 (n : Nat × Nat) : Env := { T := tab, phi := (consPhi 14 (fun _ => true) (P14 n) (consPhi 19 (fun _ => true) (P19 n) (consPhi 27 (fun _ => true) (P27 n) (consPhi 31 (fun _ => true) (P31 n) (consPhi 43 (fun _ => true) (P43 n) (consPhi 45 (fun _ => true) (P45 n) (consPhi 48 (fun _ => true) (P48 n) noPhi))))))), eff := fun g => Nat.beq g 43, fuel := n.1, hold := n.2 }
noncomputable def kq9_1 (n : Nat × Nat) : St → Option R9 := run (E9 n) (cB (cB (cB (cB (cB c9))))) (Ann.snd (Ann.snd (Ann.snd (Ann.snd (Ann.snd an9))))) rt9 (fun _ _ => none) rt9
noncomputable def kc9_2 (n : Nat × Nat) : St → Option R9 := fun s => normC [5, 7, 57, 58, 61, 62, 63, 64, 65, 68, 69, 70, 71, 72, 99, 100, 103, 104, 107, 108, 111, 112, 113, 116, 117, 118, 121] s (kq9_1 n)
noncomputable def xb9_3 (n : Nat × Nat) : Nat → St → Option R9 := fun j s => bif Nat.beq j 0 then normC [5, 7, 57, 58, 61, 62, 63, 64, 65, 68, 69, 70, 71, 72, 99, 100, 103, 104, 107, 108, 111, 112, 113, 116, 117, 118, 121] s (kq9_1 n) else (fun _ _ => none) j s
noncomputable def F9_4 (n : Nat × Nat) : (St → Option R9) → St → Option R9 := fun K s => run (E9 n) (cA (cA (cB (cA (cB (cB (cB (cB c9)))))))) (Ann.fst (Ann.fst (Ann.snd (Ann.fst (Ann.snd (Ann.snd (Ann.snd (Ann.snd an9)))))))) (fun s => normC [5, 6, 7, 29, 30, 31, 57, 58, 61, 62, 63, 64, 65, 68, 69, 70, 71, 72, 99, 100, 103, 104, 107, 108, 111, 112, 113, 116, 117, 118, 121] s K) (xb9_3 n) rt9 s
noncomputable def kq9_5 (n : Nat × Nat) (m1 : Nat) : St → Option R9 := run (E9 n) (cB (cB (cA (cA (cB (cA (cB (cB (cB (cB c9)))))))))) (Ann.snd (Ann.snd (Ann.fst (Ann.fst (Ann.snd (Ann.fst (Ann.snd (Ann.snd (Ann.snd (Ann.snd an9)))))))))) (fun s => normC [5, 6, 7, 29, 30, 31, 57, 58, 61, 62, 63, 64, 65, 68, 69, 70, 71, 72, 99, 100, 103, 104, 107, 108, 111, 112, 113, 116, 117, 118, 121] s (loopN (F9_4 n) m1)) (xb9_3 n) rt9
noncomputable def kc9_6 (n : Nat × Nat) (m1 : Nat) : St → Option R9 := fun s => normC [5, 6, 7, 29, 30, 31, 57, 58, 61, 62, 63, 64, 65, 68, 69, 70, 71, 72, 99, 100, 103, 104, 107, 108, 111, 112, 113, 116, 117, 118, 121] s (kq9_5 n m1)
noncomputable def kq9_7 (n : Nat × Nat) (m1 : Nat) : St → Option R9 := run (E9 n) (cB (cB (cB (cA (cA (cB (cA (cB (cB (cB (cB c9))))))))))) (Ann.snd (Ann.snd (Ann.snd (Ann.fst (Ann.fst (Ann.snd (Ann.fst (Ann.snd (Ann.snd (Ann.snd (Ann.snd an9))))))))))) (fun s => normC [5, 6, 7, 29, 30, 31, 57, 58, 61, 62, 63, 64, 65, 68, 69, 70, 71, 72, 99, 100, 103, 104, 107, 108, 111, 112, 113, 116, 117, 118, 121] s (loopN (F9_4 n) m1)) (xb9_3 n) rt9
noncomputable def kc9_8 (n : Nat × Nat) (m1 : Nat) : St → Option R9 := fun s => normC [5, 6, 7, 29, 30, 31, 57, 58, 61, 62, 63, 64, 65, 68, 69, 70, 71, 72, 99, 100, 103, 104, 107, 108, 111, 112, 113, 116, 117, 118, 121] s (kq9_7 n m1)
noncomputable def xb9_9 (n : Nat × Nat) (m1 : Nat) : Nat → St → Option R9 := fun j s => bif Nat.beq j 1 then normC [5, 6, 7, 29, 30, 31, 57, 58, 61, 62, 63, 64, 65, 68, 69, 70, 71, 72, 99, 100, 103, 104, 107, 108, 111, 112, 113, 116, 117, 118, 121] s (kq9_7 n m1) else (xb9_3 n) j s
noncomputable def kq9_10 (n : Nat × Nat) : St → Option R9 := run (E9 n) (cB (cB (cB (cB (cB (cB (cB (cB c9)))))))) (Ann.snd (Ann.snd (Ann.snd (Ann.snd (Ann.snd (Ann.snd (Ann.snd (Ann.snd an9)))))))) rt9 (fun _ _ => none) rt9
noncomputable def kc9_11 (n : Nat × Nat) : St → Option R9 := fun s => normC [5, 7, 10, 12, 99, 100, 103, 104, 107, 108, 111, 112, 113, 116, 117, 118, 121] s (kq9_10 n)
noncomputable def L9_1 (n : Nat × Nat) (m : Nat) (l5 : List (Int × Int)) (v29 : List (Int × Int)) (v30 : Int) (v31 : Int) (to6 : List Int) (moved7 : List (Int × Int)) : Option R9 := loopN (F9_4 n) m { tm := [uu, uu, uu, uu, uu, .c (.sl (.pair (.int .i64) (.int .i64)) l5 false), .own 6 none false, .own 7 none false, uu, uu, uu, uu, uu, uu, uu, uu, uu, uu, uu, uu, uu, uu, uu, uu, uu, uu, uu, uu, uu, .c (.sl (.pair (.int .i64) (.int .i64)) v29 false), .c (.int .i64 v30), .c (.int .i64 v31), uu, uu, uu, uu, uu, uu, uu, uu, uu, uu, uu, uu, uu, uu, uu, uu, uu, uu, uu, uu, uu, uu, uu, uu, uu, uu, uu, uu, uu, uu, uu, uu, uu, uu, uu, uu, uu, uu, uu, uu, uu, uu, uu, uu, uu, uu, uu, uu, uu, uu, uu, uu, uu, uu, uu, uu, uu, uu, uu, uu, uu, uu, uu, uu, uu, uu, uu, uu, uu, uu, uu, uu, uu, uu, uu, uu, uu, uu, uu, uu, uu, uu, uu, uu, uu, uu, uu, uu, uu, uu, uu], hp := (upd (upd emp 7 (.arr (.pair (.int .i64) (.int .i64)) moved7 false)) 6 (.arr (.int .i64) to6 false)) }
theorem L9_1_eq (n : Nat × Nat) (m1 : Nat) (l5 : List (Int × Int)) (v29 : List (Int × Int)) (v30 : Int) (v31 : Int) (to6 : List Int) (moved7 : List (Int × Int)) : L9_1 n (m1 + 1) l5 v29 v30 v31 to6 moved7 =
    (bif decide (v31 < v30) then (idx v29 v31).bind fun x3' =>
      (bif inB v31 to6.length then (idx to6 v31).bind fun x4' =>
        (bif inB x4' moved7.length then (idx moved7 x4').bind fun x5' =>
          L9_1 n m1 l5 v29 v30 (wr .i64 (v31 + 1)) to6 (moved7.set (Int.toNat x4') x3')
        else none)
      else none)
    else (S27 n l5).bind fun r6' =>
      (S27 n moved7).bind fun r7' =>
      ((bif ((r6'.2 != 0) == false) then some (r7'.2 != 0)
        else some true)).bind fun b8' =>
      ((bif (b8' == false) then (S45 n r6'.1 (l5.length : Int)).bind fun r9' =>
          some (!r9')
        else some true)).bind fun b10' =>
      ((bif (b10' == false) then (S45 n r7'.1 (l5.length : Int)).bind fun r11' =>
          some (!r11')
        else some true)).bind fun b12' =>
      (bif b12' then some false
      else (S31 n l5).bind fun r13' =>
        (S31 n moved7).bind fun r14' =>
        (S19 n l5 r6'.1).bind fun r15' =>
        (S19 n moved7 r7'.1).bind fun r16' =>
        ((bif ((r13'.2 == 0) == true) then some (r14'.2 == 0)
          else some false)).bind fun b17' =>
        ((bif (b17' == true) then some (r15'.2 == 0)
          else some false)).bind fun b18' =>
        ((bif (b18' == true) then some (r16'.2 == 0)
          else some false)).bind fun b19' =>
        ((bif (b19' == true) then some (r13'.1 == r14'.1)
          else some false)).bind fun b20' =>
        ((bif (b20' == true) then some (r15'.1 == r16'.1)
          else some false)).bind fun b21' =>
        ((bif (b21' == true) then (S14 n).bind fun r22' =>
            some r22'
          else some false)).bind fun b23' =>
        some b23')) := by kernel_rfl
noncomputable def S9 (n : Nat × Nat) (f0 : Int × Int × (Int × Int) × (Int × Int) × (Int × Int) × (Int × Int) × (Int × Int) × (Int × Int) × Int × Int) (v1 : Int × Int × Int × Int × Int × Int × Int) : Option R9 := run (E9 n) c9 an9 rt9 (fun _ _ => none) rt9 { tm := [.agg [.int .u8 f0.1, .int .u8 f0.2.1, .int .u8 f0.2.2.1.1, .int .u8 f0.2.2.1.2, .int .u8 f0.2.2.2.1.1, .int .u8 f0.2.2.2.1.2, .int .u8 f0.2.2.2.2.1.1, .int .u8 f0.2.2.2.2.1.2, .int .u8 f0.2.2.2.2.2.1.1, .int .u8 f0.2.2.2.2.2.1.2, .int .u8 f0.2.2.2.2.2.2.1.1, .int .u8 f0.2.2.2.2.2.2.1.2, .int .u8 f0.2.2.2.2.2.2.2.1.1, .int .u8 f0.2.2.2.2.2.2.2.1.2, .int .u8 f0.2.2.2.2.2.2.2.2.1, .int .u8 f0.2.2.2.2.2.2.2.2.2], .agg [.int .u8 v1.1, .int .u8 v1.2.1, .int .u8 v1.2.2.1, .int .u8 v1.2.2.2.1, .int .u8 v1.2.2.2.2.1, .int .u8 v1.2.2.2.2.2.1, .int .u8 v1.2.2.2.2.2.2], uu, uu, uu, uu, uu, uu, uu, uu, uu, uu, uu, uu, uu, uu, uu, uu, uu, uu, uu, uu, uu, uu, uu, uu, uu, uu, uu, uu, uu, uu, uu, uu, uu, uu, uu, uu, uu, uu, uu, uu, uu, uu, uu, uu, uu, uu, uu, uu, uu, uu, uu, uu, uu, uu, uu, uu, uu, uu, uu, uu, uu, uu, uu, uu, uu, uu, uu, uu, uu, uu, uu, uu, uu, uu, uu, uu, uu, uu, uu, uu, uu, uu, uu, uu, uu, uu, uu, uu, uu, uu, uu, uu, uu, uu, uu, uu, uu, uu, uu, uu, uu, uu, uu, uu, uu, uu, uu, uu, uu, uu, uu, uu, uu, uu, uu, uu, uu, uu, uu, uu, uu], hp := emp }
theorem S9_eq (n : Nat × Nat) (f0 : Int × Int × (Int × Int) × (Int × Int) × (Int × Int) × (Int × Int) × (Int × Int) × (Int × Int) × Int × Int) (v1 : Int × Int × Int × Int × Int × Int × Int) : S9 n f0 v1 =
    (S43 n f0 6).bind fun r1' =>
    (S48 n (r1'.length : Int) v1).bind fun r2' =>
    (bif decide (0 ≤ (r1'.length : Int)) && decide ((r1'.length : Int) ≤ (r1'.length : Int)) && decide ((r1'.length : Int) ≤ lim) then L9_1 n n.1 r1' r1' (r1'.length : Int) 0 r2' (List.replicate (Int.toNat (r1'.length : Int)) (zero (.pair (.int .i64) (.int .i64)) : Int × Int))
    else none) := by kernel_rfl
theorem S9_run (n : Nat × Nat) (xs : pksDen pk9) : S9 n xs.1 xs.2.1 = runG (E9 n) noScope c9 an9 (rtG rk9) (fun _ _ => none) (rtG rk9) (st0 pk9 xs Try.f9.ntmps) := by kernel_rfl
noncomputable def P9 (n : Nat × Nat) := phiOf pk9 rk9 (fun xs => S9 n xs.1 xs.2.1)
theorem call9 : CallOK Try.prog 9 := callOK_of Try.func9 (by kernel_rfl) (by kernel_rfl)
theorem env9 (n : Nat × Nat) : EnvOK Try.prog (E9 n) := envOK0 (consPhi_ok (FC14 n) call14 (consPhi_ok (FC19 n) call19 (consPhi_ok (FC27 n) call27 (consPhi_ok (FC31 n) call31 (consPhi_ok (FC43 n) call43 (consPhi_ok (FC45 n) call45 (consPhi_ok (FC48 n) call48 noPhi_ok))))))) rfl rfl
theorem par9 (n : Nat × Nat) : EnvPar (E9 n) := envPar0 (consPhi_par phiOf_Par1 (consPhi_par phiOf_Par1 (consPhi_par phiOf_Par1 (consPhi_par phiOf_Par1 (consPhi_par phiOf_Par1 (consPhi_par phiOf_Par1 (consPhi_par phiOf_Par1 noPhi_par))))))) rfl
theorem FC9 (n : Nat × Nat) : FCs Try.prog 9 (P9 n) := phiOf_FCs fun xs r h vs hv => FC.of_runG tabOK eqsOK (env9 n) (par9 n) mixed (fun _ => noScope_ok) Try.func9 (c := c9) (an := an9) (pks := pk9) (rks := rk9) (by kernel_rfl) (by kernel_rfl) hv ((S9_run n xs).symm.trans h)
/-D 43 -/
noncomputable def DF43_1 (n : Nat × Nat) (f1 : Int → (List (Int × Int)) → Int → Int → (List (Int × Int)) → Option R43) (top6 : Int) (v21 : List (Int × Int)) (v22 : Int) (v23 : Int) (out5 : List (Int × Int)) : Option R43 :=
    (bif decide (v23 < v22) then (idx v21 v23).bind fun x1' =>
      (bif inB 0 2 then (idx [x1'.1, x1'.2] 0).bind fun x2' =>
        (bif (wr .i64 (top6 + 1)) == 0 then none
        else (bif inB 1 2 then (idx [x1'.1, x1'.2] 1).bind fun x3' =>
            (bif (wr .i64 (top6 + 1)) == 0 then none
            else (bif decide (out5.length + [(Int.tmod (wr .i64 x2') (wr .i64 (top6 + 1)), Int.tmod (wr .i64 x3') (wr .i64 (top6 + 1)))].length ≤ lim) then f1 top6 v21 v22 (wr .i64 (v23 + 1)) (out5 ++ [(Int.tmod (wr .i64 x2') (wr .i64 (top6 + 1)), Int.tmod (wr .i64 x3') (wr .i64 (top6 + 1)))])
              else none))
          else none))
      else none)
    else some out5)
noncomputable def DL43_1 (n : Nat × Nat) (m : Nat) : Int → (List (Int × Int)) → Int → Int → (List (Int × Int)) → Option R43 := Nat.rec (motive := fun _ => Int → (List (Int × Int)) → Int → Int → (List (Int × Int)) → Option R43) (fun _ _ _ _ _ => none) (fun _ ih => DF43_1 n ih) m
theorem DL43_1_succ (n : Nat × Nat) (m : Nat) : DL43_1 n (m + 1) = DF43_1 n (DL43_1 n m) := rfl
theorem DL43_1_eq (n : Nat × Nat) (hn : n.2 = 1) : ∀ m, L43_1 n m = DL43_1 n m
  | 0 => by funext top6 v21 v22 v23 out5; kernel_rfl
  | m + 1 => by
    have ih := DL43_1_eq n hn m
    funext top6 v21 v22 v23 out5; refine (L43_1_eq n m top6 v21 v22 v23 out5).trans ?_
    rw [DL43_1_succ]
    unfold DF43_1
    (try simp only [ih]) <;> first | with_reducible rfl | rfl
noncomputable def D43 (n : Nat × Nat) (f0 : Int × Int × (Int × Int) × (Int × Int) × (Int × Int) × (Int × Int) × (Int × Int) × (Int × Int) × Int × Int) (most1 : Int) : Option R43 :=
    (bif 50 == 0 then none
    else (bif most1 == 0 then none
      else (bif bounds none (some (wr .i64 (1 + (Int.tmod (wr .i64 f0.1) most1)))) none 7 then DL43_1 n n.1 (wr .i64 ((Int.tmod (wr .i64 f0.2.1) 50) + 1)) ([f0.2.2.1, f0.2.2.2.1, f0.2.2.2.2.1, f0.2.2.2.2.2.1, f0.2.2.2.2.2.2.1, f0.2.2.2.2.2.2.2.1, f0.2.2.2.2.2.2.2.2].take (Int.toNat (wr .i64 (1 + (Int.tmod (wr .i64 f0.1) most1))))) (([f0.2.2.1, f0.2.2.2.1, f0.2.2.2.2.1, f0.2.2.2.2.2.1, f0.2.2.2.2.2.2.1, f0.2.2.2.2.2.2.2.1, f0.2.2.2.2.2.2.2.2].take (Int.toNat (wr .i64 (1 + (Int.tmod (wr .i64 f0.1) most1))))).length : Int) 0 []
        else none)))
theorem S43_D (n : Nat × Nat) (hn : n.2 = 1) : S43 n = D43 n := by
  funext f0 most1; refine (S43_eq n f0 most1).trans ?_
  unfold D43
  (try simp only [DL43_1_eq n hn]) <;> first | with_reducible rfl | rfl
/-D 45 -/
noncomputable def DF45_1 (n : Nat × Nat) (f1 : List Int → Int → List Int → Int → Int → Option R45) (l0 : List Int) (v1 : Int) (v11 : List Int) (v12 : Int) (v13 : Int) : Option R45 :=
    (bif decide (v13 < v12) then (idx v11 v13).bind fun x1' =>
      ((bif (decide (x1' < 0) == false) then some (decide (x1' ≥ v1))
        else some true)).bind fun b2' =>
      ((bif (b2' == false) then (bif bounds none (some v13) none l0.length then (D80 n (l0.take (Int.toNat v13)) x1').bind fun r3' =>
            some r3'
          else none)
        else some true)).bind fun b4' =>
      (bif b4' then some false
      else f1 l0 v1 v11 v12 (wr .i64 (v13 + 1)))
    else some true)
noncomputable def DL45_1 (n : Nat × Nat) (m : Nat) : List Int → Int → List Int → Int → Int → Option R45 := Nat.rec (motive := fun _ => List Int → Int → List Int → Int → Int → Option R45) (fun _ _ _ _ _ => none) (fun _ ih => DF45_1 n ih) m
theorem DL45_1_succ (n : Nat × Nat) (m : Nat) : DL45_1 n (m + 1) = DF45_1 n (DL45_1 n m) := rfl
theorem DL45_1_eq (n : Nat × Nat) (hn : n.2 = 1) : ∀ m, L45_1 n m = DL45_1 n m
  | 0 => by funext l0 v1 v11 v12 v13; kernel_rfl
  | m + 1 => by
    have ih := DL45_1_eq n hn m
    funext l0 v1 v11 v12 v13; refine (L45_1_eq n m l0 v1 v11 v12 v13).trans ?_
    rw [DL45_1_succ]
    unfold DF45_1
    (try simp only [ih, S80_D n hn]) <;> first | with_reducible rfl | rfl
noncomputable def D45 (n : Nat × Nat) (l0 : List Int) (v1 : Int) : Option R45 :=
    (bif ((l0.length : Int) != v1) then some false
    else DL45_1 n n.1 l0 v1 l0 (l0.length : Int) 0)
theorem S45_D (n : Nat × Nat) (hn : n.2 = 1) : S45 n = D45 n := by
  funext l0 v1; refine (S45_eq n l0 v1).trans ?_
  unfold D45
  (try simp only [DL45_1_eq n hn, S80_D n hn]) <;> first | with_reducible rfl | rfl
/-D 48 -/
noncomputable def DF48_1 (n : Nat × Nat) (f1 : Int → Int → Int → Int → Int → Int → Int → Int → Int → List Int → Option R48) (v11 : Int) (v12 : Int) (v3_0 : Int) (v3_1 : Int) (v3_2 : Int) (v3_3 : Int) (v3_4 : Int) (v3_5 : Int) (v3_6 : Int) (to5 : List Int) : Option R48 :=
    (bif decide (v12 < v11) then (bif inB v12 to5.length then (idx to5 v12).bind fun x1' =>
        (bif inB v12 7 then (idx [v3_0, v3_1, v3_2, v3_3, v3_4, v3_5, v3_6] v12).bind fun x2' =>
          (bif (wr .i64 (v12 + 1)) == 0 then none
          else (bif inB (Int.tmod (wr .i64 x2') (wr .i64 (v12 + 1))) (to5.set (Int.toNat v12) v12).length then (idx (to5.set (Int.toNat v12) v12) (Int.tmod (wr .i64 x2') (wr .i64 (v12 + 1)))).bind fun x3' =>
              (bif inB v12 (to5.set (Int.toNat v12) v12).length then (idx (to5.set (Int.toNat v12) v12) v12).bind fun x4' =>
                (bif inB v12 (to5.set (Int.toNat v12) v12).length then (idx (to5.set (Int.toNat v12) v12) v12).bind fun x5' =>
                  (bif inB (Int.tmod (wr .i64 x2') (wr .i64 (v12 + 1))) ((to5.set (Int.toNat v12) v12).set (Int.toNat v12) x3').length then (idx ((to5.set (Int.toNat v12) v12).set (Int.toNat v12) x3') (Int.tmod (wr .i64 x2') (wr .i64 (v12 + 1)))).bind fun x6' =>
                    f1 v11 (wr .i64 (v12 + 1)) v3_0 v3_1 v3_2 v3_3 v3_4 v3_5 v3_6 (((to5.set (Int.toNat v12) v12).set (Int.toNat v12) x3').set (Int.toNat (Int.tmod (wr .i64 x2') (wr .i64 (v12 + 1)))) x4')
                  else none)
                else none)
              else none)
            else none))
        else none)
      else none)
    else some to5)
noncomputable def DL48_1 (n : Nat × Nat) (m : Nat) : Int → Int → Int → Int → Int → Int → Int → Int → Int → List Int → Option R48 := Nat.rec (motive := fun _ => Int → Int → Int → Int → Int → Int → Int → Int → Int → List Int → Option R48) (fun _ _ _ _ _ _ _ _ _ _ => none) (fun _ ih => DF48_1 n ih) m
theorem DL48_1_succ (n : Nat × Nat) (m : Nat) : DL48_1 n (m + 1) = DF48_1 n (DL48_1 n m) := rfl
theorem DL48_1_eq (n : Nat × Nat) (hn : n.2 = 1) : ∀ m, L48_1 n m = DL48_1 n m
  | 0 => by funext v11 v12 v3_0 v3_1 v3_2 v3_3 v3_4 v3_5 v3_6 to5; kernel_rfl
  | m + 1 => by
    have ih := DL48_1_eq n hn m
    funext v11 v12 v3_0 v3_1 v3_2 v3_3 v3_4 v3_5 v3_6 to5; refine (L48_1_eq n m v11 v12 v3_0 v3_1 v3_2 v3_3 v3_4 v3_5 v3_6 to5).trans ?_
    rw [DL48_1_succ]
    unfold DF48_1
    (try simp only [ih]) <;> first | with_reducible rfl | rfl
noncomputable def D48 (n : Nat × Nat) (v0 : Int) (v1 : Int × Int × Int × Int × Int × Int × Int) : Option R48 :=
    (bif decide (0 ≤ v0) && decide (v0 ≤ v0) && decide (v0 ≤ lim) then DL48_1 n n.1 ((List.replicate (Int.toNat v0) (0 : Int)).length : Int) 0 v1.1 v1.2.1 v1.2.2.1 v1.2.2.2.1 v1.2.2.2.2.1 v1.2.2.2.2.2.1 v1.2.2.2.2.2.2 (List.replicate (Int.toNat v0) (0 : Int))
    else none)
theorem S48_D (n : Nat × Nat) (hn : n.2 = 1) : S48 n = D48 n := by
  funext v0 v1; refine (S48_eq n v0 v1).trans ?_
  unfold D48
  (try simp only [DL48_1_eq n hn]) <;> first | with_reducible rfl | rfl
/-D 9 -/
noncomputable def DF9_1 (n : Nat × Nat) (f1 : (List (Int × Int)) → (List (Int × Int)) → Int → Int → List Int → (List (Int × Int)) → Option R9) (l5 : List (Int × Int)) (v29 : List (Int × Int)) (v30 : Int) (v31 : Int) (to6 : List Int) (moved7 : List (Int × Int)) : Option R9 :=
    (bif decide (v31 < v30) then (idx v29 v31).bind fun x3' =>
      (bif inB v31 to6.length then (idx to6 v31).bind fun x4' =>
        (bif inB x4' moved7.length then (idx moved7 x4').bind fun x5' =>
          f1 l5 v29 v30 (wr .i64 (v31 + 1)) to6 (moved7.set (Int.toNat x4') x3')
        else none)
      else none)
    else (D27 n l5).bind fun r6' =>
      (D27 n moved7).bind fun r7' =>
      ((bif ((r6'.2 != 0) == false) then some (r7'.2 != 0)
        else some true)).bind fun b8' =>
      ((bif (b8' == false) then (D45 n r6'.1 (l5.length : Int)).bind fun r9' =>
          some (!r9')
        else some true)).bind fun b10' =>
      ((bif (b10' == false) then (D45 n r7'.1 (l5.length : Int)).bind fun r11' =>
          some (!r11')
        else some true)).bind fun b12' =>
      (bif b12' then some false
      else (D31 n l5).bind fun r13' =>
        (D31 n moved7).bind fun r14' =>
        (D19 n l5 r6'.1).bind fun r15' =>
        (D19 n moved7 r7'.1).bind fun r16' =>
        ((bif ((r13'.2 == 0) == true) then some (r14'.2 == 0)
          else some false)).bind fun b17' =>
        ((bif (b17' == true) then some (r15'.2 == 0)
          else some false)).bind fun b18' =>
        ((bif (b18' == true) then some (r16'.2 == 0)
          else some false)).bind fun b19' =>
        ((bif (b19' == true) then some (r13'.1 == r14'.1)
          else some false)).bind fun b20' =>
        ((bif (b20' == true) then some (r15'.1 == r16'.1)
          else some false)).bind fun b21' =>
        ((bif (b21' == true) then (D14 n).bind fun r22' =>
            some r22'
          else some false)).bind fun b23' =>
        some b23'))
noncomputable def DL9_1 (n : Nat × Nat) (m : Nat) : (List (Int × Int)) → (List (Int × Int)) → Int → Int → List Int → (List (Int × Int)) → Option R9 := Nat.rec (motive := fun _ => (List (Int × Int)) → (List (Int × Int)) → Int → Int → List Int → (List (Int × Int)) → Option R9) (fun _ _ _ _ _ _ => none) (fun _ ih => DF9_1 n ih) m
theorem DL9_1_succ (n : Nat × Nat) (m : Nat) : DL9_1 n (m + 1) = DF9_1 n (DL9_1 n m) := rfl
theorem DL9_1_eq (n : Nat × Nat) (hn : n.2 = 1) : ∀ m, L9_1 n m = DL9_1 n m
  | 0 => by funext l5 v29 v30 v31 to6 moved7; kernel_rfl
  | m + 1 => by
    have ih := DL9_1_eq n hn m
    funext l5 v29 v30 v31 to6 moved7; refine (L9_1_eq n m l5 v29 v30 v31 to6 moved7).trans ?_
    rw [DL9_1_succ]
    unfold DF9_1
    (try simp only [ih, S14_D n hn, S19_D n hn, S27_D n hn, S31_D n hn, S43_D n hn, S45_D n hn, S48_D n hn]) <;> first | with_reducible rfl | rfl
noncomputable def D9 (n : Nat × Nat) (f0 : Int × Int × (Int × Int) × (Int × Int) × (Int × Int) × (Int × Int) × (Int × Int) × (Int × Int) × Int × Int) (v1 : Int × Int × Int × Int × Int × Int × Int) : Option R9 :=
    (D43 n f0 6).bind fun r1' =>
    (D48 n (r1'.length : Int) v1).bind fun r2' =>
    (bif decide (0 ≤ (r1'.length : Int)) && decide ((r1'.length : Int) ≤ (r1'.length : Int)) && decide ((r1'.length : Int) ≤ lim) then DL9_1 n n.1 r1' r1' (r1'.length : Int) 0 r2' (List.replicate (Int.toNat (r1'.length : Int)) (zero (.pair (.int .i64) (.int .i64)) : Int × Int))
    else none)
theorem S9_D (n : Nat × Nat) (hn : n.2 = 1) : S9 n = D9 n := by
  funext f0 v1; refine (S9_eq n f0 v1).trans ?_
  unfold D9
  (try simp only [DL9_1_eq n hn, S14_D n hn, S19_D n hn, S27_D n hn, S31_D n hn, S43_D n hn, S45_D n hn, S48_D n hn]) <;> first | with_reducible rfl | rfl
abbrev R15 := List (Int × Int)
noncomputable def c15 : Code := bodyOf Try.f15
noncomputable def an15 : Ann := (.s .l (.s .l (.s (.s .l (.j [3] (.j [0, 3, 4] (.s (.s .l (.j [0, 3, 4] .l .l)) (.s (.j [0, 3, 4] .l .l) .l)) .l) .l)) .l)))
def pk15 : List PK := [.c (.sl (.pair (.int .i64) (.int .i64)))]
def rk15 : List RK := [.sl (.pair (.int .i64) (.int .i64)) 2]
noncomputable def rt15 (st : St) : Option R15 := rtG rk15 st
noncomputable def E15 (n : Nat × Nat) : Env := { T := tab, phi := noPhi, eff := fun _ => false, fuel := n.1, hold := n.2 }
noncomputable def kq15_1 (n : Nat × Nat) : St → Option R15 := run (E15 n) (cB (cB (cB c15))) (Ann.snd (Ann.snd (Ann.snd an15))) rt15 (fun _ _ => none) rt15
noncomputable def kc15_2 (n : Nat × Nat) : St → Option R15 := fun s => normC [3] s (kq15_1 n)
noncomputable def xb15_3 (n : Nat × Nat) : Nat → St → Option R15 := fun j s => bif Nat.beq j 0 then normC [3] s (kq15_1 n) else (fun _ _ => none) j s
noncomputable def F15_4 (n : Nat × Nat) : (St → Option R15) → St → Option R15 := fun K s => run (E15 n) (cA (cA (cB (cA (cB (cB c15)))))) (Ann.fst (Ann.fst (Ann.snd (Ann.fst (Ann.snd (Ann.snd an15)))))) (fun s => normC [0, 3, 4] s K) (xb15_3 n) rt15 s
noncomputable def kq15_5 (n : Nat × Nat) (m1 : Nat) : St → Option R15 := run (E15 n) (cB (cA (cA (cB (cA (cB (cB c15))))))) (Ann.snd (Ann.fst (Ann.fst (Ann.snd (Ann.fst (Ann.snd (Ann.snd an15))))))) (fun s => normC [0, 3, 4] s (loopN (F15_4 n) m1)) (xb15_3 n) rt15
noncomputable def kc15_6 (n : Nat × Nat) (m1 : Nat) : St → Option R15 := fun s => normC [0, 3, 4] s (kq15_5 n m1)
noncomputable def kq15_7 (n : Nat × Nat) (m1 : Nat) : St → Option R15 := run (E15 n) (cB (cB (cA (cA (cB (cA (cB (cB c15)))))))) (Ann.snd (Ann.snd (Ann.fst (Ann.fst (Ann.snd (Ann.fst (Ann.snd (Ann.snd an15)))))))) (fun s => normC [0, 3, 4] s (loopN (F15_4 n) m1)) (xb15_3 n) rt15
noncomputable def kc15_8 (n : Nat × Nat) (m1 : Nat) : St → Option R15 := fun s => normC [0, 3, 4] s (kq15_7 n m1)
noncomputable def xb15_9 (n : Nat × Nat) (m1 : Nat) : Nat → St → Option R15 := fun j s => bif Nat.beq j 1 then normC [0, 3, 4] s (kq15_7 n m1) else (xb15_3 n) j s
noncomputable def L15_1 (n : Nat × Nat) (m : Nat) (l0 : List (Int × Int)) (i4 : Int) (out3 : List (Int × Int)) : Option R15 := loopN (F15_4 n) m { tm := [.c (.sl (.pair (.int .i64) (.int .i64)) l0 false), uu, uu, .own 3 none false, .c (.int .i64 i4), uu, uu, uu, uu, uu, uu, uu, uu, uu, uu, uu, uu, uu, uu], hp := (upd emp 3 (.arr (.pair (.int .i64) (.int .i64)) out3 true)) }
theorem L15_1_eq (n : Nat × Nat) (m1 : Nat) (l0 : List (Int × Int)) (i4 : Int) (out3 : List (Int × Int)) : L15_1 n (m1 + 1) l0 i4 out3 =
    (bif decide (i4 < (l0.length : Int)) then (idx l0 i4).bind fun x1' =>
      (bif decide (out3.length + [x1'].length ≤ lim) then L15_1 n m1 l0 (wr .i64 (i4 + 1)) (out3 ++ [x1'])
      else none)
    else some out3) := by kernel_rfl
noncomputable def S15 (n : Nat × Nat) (l0 : List (Int × Int)) : Option R15 := run (E15 n) c15 an15 rt15 (fun _ _ => none) rt15 { tm := [.c (.sl (.pair (.int .i64) (.int .i64)) l0 false), uu, uu, uu, uu, uu, uu, uu, uu, uu, uu, uu, uu, uu, uu, uu, uu, uu, uu], hp := emp }
theorem S15_eq (n : Nat × Nat) (l0 : List (Int × Int)) : S15 n l0 =
    L15_1 n n.1 l0 0 [] := by kernel_rfl
theorem S15_run (n : Nat × Nat) (xs : pksDen pk15) : S15 n xs.1 = runG (E15 n) noScope c15 an15 (rtG rk15) (fun _ _ => none) (rtG rk15) (st0 pk15 xs Try.f15.ntmps) := by kernel_rfl
noncomputable def P15 (n : Nat × Nat) := phiOf pk15 rk15 (fun xs => S15 n xs.1)
theorem call15 : CallOK Try.prog 15 := callOK_of Try.func15 (by kernel_rfl) (by kernel_rfl)
theorem env15 (n : Nat × Nat) : EnvOK Try.prog (E15 n) := envOK0 noPhi_ok rfl rfl
theorem par15 (n : Nat × Nat) : EnvPar (E15 n) := envPar0 noPhi_par rfl
theorem FC15 (n : Nat × Nat) : FCs Try.prog 15 (P15 n) := phiOf_FCs fun xs r h vs hv => FC.of_runG tabOK eqsOK (env15 n) (par15 n) mixed (fun _ => noScope_ok) Try.func15 (c := c15) (an := an15) (pks := pk15) (rks := rk15) (by kernel_rfl) (by kernel_rfl) hv ((S15_run n xs).symm.trans h)
/-D 15 -/
noncomputable def DF15_1 (n : Nat × Nat) (f1 : (List (Int × Int)) → Int → (List (Int × Int)) → Option R15) (l0 : List (Int × Int)) (i4 : Int) (out3 : List (Int × Int)) : Option R15 :=
    (bif decide (i4 < (l0.length : Int)) then (idx l0 i4).bind fun x1' =>
      (bif decide (out3.length + [x1'].length ≤ lim) then f1 l0 (wr .i64 (i4 + 1)) (out3 ++ [x1'])
      else none)
    else some out3)
noncomputable def DL15_1 (n : Nat × Nat) (m : Nat) : (List (Int × Int)) → Int → (List (Int × Int)) → Option R15 := Nat.rec (motive := fun _ => (List (Int × Int)) → Int → (List (Int × Int)) → Option R15) (fun _ _ _ => none) (fun _ ih => DF15_1 n ih) m
theorem DL15_1_succ (n : Nat × Nat) (m : Nat) : DL15_1 n (m + 1) = DF15_1 n (DL15_1 n m) := rfl
theorem DL15_1_eq (n : Nat × Nat) (hn : n.2 = 1) : ∀ m, L15_1 n m = DL15_1 n m
  | 0 => by funext l0 i4 out3; kernel_rfl
  | m + 1 => by
    have ih := DL15_1_eq n hn m
    funext l0 i4 out3; refine (L15_1_eq n m l0 i4 out3).trans ?_
    rw [DL15_1_succ]
    unfold DF15_1
    (try simp only [ih]) <;> first | with_reducible rfl | rfl
noncomputable def D15 (n : Nat × Nat) (l0 : List (Int × Int)) : Option R15 :=
    DL15_1 n n.1 l0 0 []
theorem S15_D (n : Nat × Nat) (hn : n.2 = 1) : S15 n = D15 n := by
  funext l0; refine (S15_eq n l0).trans ?_
  unfold D15
  (try simp only [DL15_1_eq n hn]) <;> first | with_reducible rfl | rfl
abbrev R68 := Bool
noncomputable def c68 : Code := bodyOf Try.f68
noncomputable def an68 : Ann := .l
def pk68 : List PK := [.c (.int .i64), .c (.int .i64), .c (.int .i64)]
def rk68 : List RK := [.c .bool 6]
noncomputable def rt68 (st : St) : Option R68 := rtG rk68 st
noncomputable def E68 (n : Nat × Nat) : Env := { T := tab, phi := noPhi, eff := fun _ => false, fuel := n.1, hold := n.2 }
noncomputable def S68 (n : Nat × Nat) (v0 : Int) (lo1 : Int) (hi2 : Int) : Option R68 := run (E68 n) c68 an68 rt68 (fun _ _ => none) rt68 { tm := [.c (.int .i64 v0), .c (.int .i64 lo1), .c (.int .i64 hi2), uu, uu, uu, uu, uu, uu, uu, uu, uu, uu, uu, uu], hp := emp }
theorem S68_eq (n : Nat × Nat) (v0 : Int) (lo1 : Int) (hi2 : Int) : S68 n v0 lo1 hi2 =
    ((bif (decide (v0 ≥ lo1) == true) then some (decide (v0 ≤ hi2))
      else some false)).bind fun b1' =>
    some b1' := by kernel_rfl
theorem S68_run (n : Nat × Nat) (xs : pksDen pk68) : S68 n xs.1 xs.2.1 xs.2.2.1 = runG (E68 n) noScope c68 an68 (rtG rk68) (fun _ _ => none) (rtG rk68) (st0 pk68 xs Try.f68.ntmps) := by kernel_rfl
noncomputable def P68 (n : Nat × Nat) := phiOf pk68 rk68 (fun xs => S68 n xs.1 xs.2.1 xs.2.2.1)
theorem call68 : CallOK Try.prog 68 := callOK_of Try.func68 (by kernel_rfl) (by kernel_rfl)
theorem env68 (n : Nat × Nat) : EnvOK Try.prog (E68 n) := envOK0 noPhi_ok rfl rfl
theorem par68 (n : Nat × Nat) : EnvPar (E68 n) := envPar0 noPhi_par rfl
theorem FC68 (n : Nat × Nat) : FCs Try.prog 68 (P68 n) := phiOf_FCs fun xs r h vs hv => FC.of_runG tabOK eqsOK (env68 n) (par68 n) mixed (fun _ => noScope_ok) Try.func68 (c := c68) (an := an68) (pks := pk68) (rks := rk68) (by kernel_rfl) (by kernel_rfl) hv ((S68_run n xs).symm.trans h)
abbrev R26 := Int
noncomputable def c26 : Code := bodyOf Try.f26
noncomputable def an26 : Ann := (.s .l (.s (.s .l (.j [0, 24, 25, 26, 27, 28, 29, 30] .l .l)) (.s (.s .l (.j [0, 24, 25, 26, 27, 28, 29, 30] .l .l)) (.s (.s .l (.j [] (.j [0, 3, 24, 25, 26, 27, 28, 29, 30] (.s (.s .l (.j [0, 3, 24, 25, 26, 27, 28, 29, 30] .l .l)) (.s (.j [0, 3, 24, 25, 26, 27, 28, 29, 30] (.s .l (.j [0, 3, 24, 25, 26, 27, 28, 29, 30] .l .l)) .l) .l)) .l) .l)) .l))))
def pk26 : List PK := [.c (.sl (.pair (.int .i64) (.int .i64)))]
def rk26 : List RK := [.c (.int .i64) 2]
noncomputable def rt26 (st : St) : Option R26 := rtG rk26 st
noncomputable def E26 (n : Nat × Nat) : Env := { T := tab, phi := (consPhi 68 (fun _ => true) (P68 n) noPhi), eff := fun _ => false, fuel := n.1, hold := n.2 }
noncomputable def kq26_1 (n : Nat × Nat) : St → Option R26 := run (E26 n) (cB (cB c26)) (Ann.snd (Ann.snd an26)) rt26 (fun _ _ => none) rt26
noncomputable def kc26_2 (n : Nat × Nat) : St → Option R26 := fun s => normC [0, 24, 25, 26, 27, 28, 29, 30] s (kq26_1 n)
noncomputable def kq26_3 (n : Nat × Nat) : St → Option R26 := run (E26 n) (cB (cB (cB c26))) (Ann.snd (Ann.snd (Ann.snd an26))) rt26 (fun _ _ => none) rt26
noncomputable def kc26_4 (n : Nat × Nat) : St → Option R26 := fun s => normC [0, 24, 25, 26, 27, 28, 29, 30] s (kq26_3 n)
noncomputable def kq26_5 (n : Nat × Nat) : St → Option R26 := run (E26 n) (cB (cB (cB (cB c26)))) (Ann.snd (Ann.snd (Ann.snd (Ann.snd an26)))) rt26 (fun _ _ => none) rt26
noncomputable def kc26_6 (n : Nat × Nat) : St → Option R26 := fun s => normC [] s (kq26_5 n)
noncomputable def xb26_7 (n : Nat × Nat) : Nat → St → Option R26 := fun j s => bif Nat.beq j 0 then normC [] s (kq26_5 n) else (fun _ _ => none) j s
noncomputable def F26_8 (n : Nat × Nat) : (St → Option R26) → St → Option R26 := fun K s => run (E26 n) (cA (cA (cB (cA (cB (cB (cB c26))))))) (Ann.fst (Ann.fst (Ann.snd (Ann.fst (Ann.snd (Ann.snd (Ann.snd an26))))))) (fun s => normC [0, 3, 24, 25, 26, 27, 28, 29, 30] s K) (xb26_7 n) rt26 s
noncomputable def kq26_9 (n : Nat × Nat) (m1 : Nat) : St → Option R26 := run (E26 n) (cB (cA (cA (cB (cA (cB (cB (cB c26)))))))) (Ann.snd (Ann.fst (Ann.fst (Ann.snd (Ann.fst (Ann.snd (Ann.snd (Ann.snd an26)))))))) (fun s => normC [0, 3, 24, 25, 26, 27, 28, 29, 30] s (loopN (F26_8 n) m1)) (xb26_7 n) rt26
noncomputable def kc26_10 (n : Nat × Nat) (m1 : Nat) : St → Option R26 := fun s => normC [0, 3, 24, 25, 26, 27, 28, 29, 30] s (kq26_9 n m1)
noncomputable def kq26_11 (n : Nat × Nat) (m1 : Nat) : St → Option R26 := run (E26 n) (cB (cB (cA (cA (cB (cA (cB (cB (cB c26))))))))) (Ann.snd (Ann.snd (Ann.fst (Ann.fst (Ann.snd (Ann.fst (Ann.snd (Ann.snd (Ann.snd an26))))))))) (fun s => normC [0, 3, 24, 25, 26, 27, 28, 29, 30] s (loopN (F26_8 n) m1)) (xb26_7 n) rt26
noncomputable def kc26_12 (n : Nat × Nat) (m1 : Nat) : St → Option R26 := fun s => normC [0, 3, 24, 25, 26, 27, 28, 29, 30] s (kq26_11 n m1)
noncomputable def xb26_13 (n : Nat × Nat) (m1 : Nat) : Nat → St → Option R26 := fun j s => bif Nat.beq j 1 then normC [0, 3, 24, 25, 26, 27, 28, 29, 30] s (kq26_11 n m1) else (xb26_7 n) j s
noncomputable def kc26_14 (n : Nat × Nat) (m1 : Nat) : St → Option R26 := fun s => normC [0, 3, 24, 25, 26, 27, 28, 29, 30] s (kc26_12 n m1)
noncomputable def L26_1 (n : Nat × Nat) (m : Nat) (sheets0 : List (Int × Int)) (i3 : Int) : Option R26 := loopN (F26_8 n) m { tm := [.c (.sl (.pair (.int .i64) (.int .i64)) sheets0 false), uu, uu, .c (.int .i64 i3), uu, uu, uu, uu, uu, uu, uu, uu, uu, uu, uu, uu, uu, uu, uu, uu, uu, uu, uu, uu, uu, uu, uu, uu, uu, uu, uu, uu], hp := emp }
theorem L26_1_eq (n : Nat × Nat) (m1 : Nat) (sheets0 : List (Int × Int)) (i3 : Int) : L26_1 n (m1 + 1) sheets0 i3 =
    (bif decide (i3 < (sheets0.length : Int)) then (idx sheets0 i3).bind fun x1' =>
      (S68 n x1'.1 0 50).bind fun r2' =>
      ((bif ((!r2') == false) then (idx sheets0 i3).bind fun x3' =>
          (S68 n x3'.2 0 50).bind fun r4' =>
          some (!r4')
        else some true)).bind fun b5' =>
      (bif b5' then some 1
      else L26_1 n m1 sheets0 (wr .i64 (i3 + 1)))
    else some 0) := by kernel_rfl
noncomputable def S26 (n : Nat × Nat) (sheets0 : List (Int × Int)) : Option R26 := run (E26 n) c26 an26 rt26 (fun _ _ => none) rt26 { tm := [.c (.sl (.pair (.int .i64) (.int .i64)) sheets0 false), uu, uu, uu, uu, uu, uu, uu, uu, uu, uu, uu, uu, uu, uu, uu, uu, uu, uu, uu, uu, uu, uu, uu, uu, uu, uu, uu, uu, uu, uu, uu], hp := emp }
theorem S26_eq (n : Nat × Nat) (sheets0 : List (Int × Int)) : S26 n sheets0 =
    (bif ((sheets0.length : Int) == 0) then some 4
    else (bif decide ((sheets0.length : Int) > 7) then some 3
      else L26_1 n n.1 sheets0 0)) := by kernel_rfl
theorem S26_run (n : Nat × Nat) (xs : pksDen pk26) : S26 n xs.1 = runG (E26 n) noScope c26 an26 (rtG rk26) (fun _ _ => none) (rtG rk26) (st0 pk26 xs Try.f26.ntmps) := by kernel_rfl
noncomputable def P26 (n : Nat × Nat) := phiOf pk26 rk26 (fun xs => S26 n xs.1)
theorem call26 : CallOK Try.prog 26 := callOK_of Try.func26 (by kernel_rfl) (by kernel_rfl)
theorem env26 (n : Nat × Nat) : EnvOK Try.prog (E26 n) := envOK0 (consPhi_ok (FC68 n) call68 noPhi_ok) rfl rfl
theorem par26 (n : Nat × Nat) : EnvPar (E26 n) := envPar0 (consPhi_par phiOf_Par1 noPhi_par) rfl
theorem FC26 (n : Nat × Nat) : FCs Try.prog 26 (P26 n) := phiOf_FCs fun xs r h vs hv => FC.of_runG tabOK eqsOK (env26 n) (par26 n) mixed (fun _ => noScope_ok) Try.func26 (c := c26) (an := an26) (pks := pk26) (rks := rk26) (by kernel_rfl) (by kernel_rfl) hv ((S26_run n xs).symm.trans h)
/-D 68 -/
noncomputable def D68 (n : Nat × Nat) (v0 : Int) (lo1 : Int) (hi2 : Int) : Option R68 :=
    ((bif (decide (v0 ≥ lo1) == true) then some (decide (v0 ≤ hi2))
      else some false)).bind fun b1' =>
    some b1'
theorem S68_D (n : Nat × Nat) (hn : n.2 = 1) : S68 n = D68 n := by
  funext v0 lo1 hi2; refine (S68_eq n v0 lo1 hi2).trans ?_
  unfold D68
  first | with_reducible rfl | rfl
/-D 26 -/
noncomputable def DF26_1 (n : Nat × Nat) (f1 : (List (Int × Int)) → Int → Option R26) (sheets0 : List (Int × Int)) (i3 : Int) : Option R26 :=
    (bif decide (i3 < (sheets0.length : Int)) then (idx sheets0 i3).bind fun x1' =>
      (D68 n x1'.1 0 50).bind fun r2' =>
      ((bif ((!r2') == false) then (idx sheets0 i3).bind fun x3' =>
          (D68 n x3'.2 0 50).bind fun r4' =>
          some (!r4')
        else some true)).bind fun b5' =>
      (bif b5' then some 1
      else f1 sheets0 (wr .i64 (i3 + 1)))
    else some 0)
noncomputable def DL26_1 (n : Nat × Nat) (m : Nat) : (List (Int × Int)) → Int → Option R26 := Nat.rec (motive := fun _ => (List (Int × Int)) → Int → Option R26) (fun _ _ => none) (fun _ ih => DF26_1 n ih) m
theorem DL26_1_succ (n : Nat × Nat) (m : Nat) : DL26_1 n (m + 1) = DF26_1 n (DL26_1 n m) := rfl
theorem DL26_1_eq (n : Nat × Nat) (hn : n.2 = 1) : ∀ m, L26_1 n m = DL26_1 n m
  | 0 => by funext sheets0 i3; kernel_rfl
  | m + 1 => by
    have ih := DL26_1_eq n hn m
    funext sheets0 i3; refine (L26_1_eq n m sheets0 i3).trans ?_
    rw [DL26_1_succ]
    unfold DF26_1
    (try simp only [ih, S68_D n hn]) <;> first | with_reducible rfl | rfl
noncomputable def D26 (n : Nat × Nat) (sheets0 : List (Int × Int)) : Option R26 :=
    (bif ((sheets0.length : Int) == 0) then some 4
    else (bif decide ((sheets0.length : Int) > 7) then some 3
      else DL26_1 n n.1 sheets0 0))
theorem S26_D (n : Nat × Nat) (hn : n.2 = 1) : S26 n = D26 n := by
  funext sheets0; refine (S26_eq n sheets0).trans ?_
  unfold D26
  (try simp only [DL26_1_eq n hn, S68_D n hn]) <;> first | with_reducible rfl | rfl
abbrev R83 := Bool
noncomputable def c83 : Code := bodyOf Try.f83
noncomputable def an83 : Ann := (.s .l (.s (.s .l (.j [] (.j [0, 1, 5] (.s (.s .l (.j [0, 1, 5] .l .l)) (.s (.j [0, 1, 5] (.s .l (.j [0, 1, 5] .l .l)) .l) .l)) .l) .l)) .l))
def pk83 : List PK := [.c (.sl (.int .i64)), .c (.int .i64)]
def rk83 : List RK := [.c .bool 4]
noncomputable def rt83 (st : St) : Option R83 := rtG rk83 st
noncomputable def E83 (n : Nat × Nat) : Env := { T := tab, phi := noPhi, eff := fun _ => false, fuel := n.1, hold := n.2 }
noncomputable def kq83_1 (n : Nat × Nat) : St → Option R83 := run (E83 n) (cB (cB c83)) (Ann.snd (Ann.snd an83)) rt83 (fun _ _ => none) rt83
noncomputable def kc83_2 (n : Nat × Nat) : St → Option R83 := fun s => normC [] s (kq83_1 n)
noncomputable def xb83_3 (n : Nat × Nat) : Nat → St → Option R83 := fun j s => bif Nat.beq j 0 then normC [] s (kq83_1 n) else (fun _ _ => none) j s
noncomputable def F83_4 (n : Nat × Nat) : (St → Option R83) → St → Option R83 := fun K s => run (E83 n) (cA (cA (cB (cA (cB c83))))) (Ann.fst (Ann.fst (Ann.snd (Ann.fst (Ann.snd an83))))) (fun s => normC [0, 1, 5] s K) (xb83_3 n) rt83 s
noncomputable def kq83_5 (n : Nat × Nat) (m1 : Nat) : St → Option R83 := run (E83 n) (cB (cA (cA (cB (cA (cB c83)))))) (Ann.snd (Ann.fst (Ann.fst (Ann.snd (Ann.fst (Ann.snd an83)))))) (fun s => normC [0, 1, 5] s (loopN (F83_4 n) m1)) (xb83_3 n) rt83
noncomputable def kc83_6 (n : Nat × Nat) (m1 : Nat) : St → Option R83 := fun s => normC [0, 1, 5] s (kq83_5 n m1)
noncomputable def kq83_7 (n : Nat × Nat) (m1 : Nat) : St → Option R83 := run (E83 n) (cB (cB (cA (cA (cB (cA (cB c83))))))) (Ann.snd (Ann.snd (Ann.fst (Ann.fst (Ann.snd (Ann.fst (Ann.snd an83))))))) (fun s => normC [0, 1, 5] s (loopN (F83_4 n) m1)) (xb83_3 n) rt83
noncomputable def kc83_8 (n : Nat × Nat) (m1 : Nat) : St → Option R83 := fun s => normC [0, 1, 5] s (kq83_7 n m1)
noncomputable def xb83_9 (n : Nat × Nat) (m1 : Nat) : Nat → St → Option R83 := fun j s => bif Nat.beq j 1 then normC [0, 1, 5] s (kq83_7 n m1) else (xb83_3 n) j s
noncomputable def kc83_10 (n : Nat × Nat) (m1 : Nat) : St → Option R83 := fun s => normC [0, 1, 5] s (kc83_8 n m1)
noncomputable def L83_1 (n : Nat × Nat) (m : Nat) (l0 : List Int) (v1 : Int) (i5 : Int) : Option R83 := loopN (F83_4 n) m { tm := [.c (.sl (.int .i64) l0 false), .c (.int .i64 v1), uu, uu, uu, .c (.int .i64 i5), uu, uu, uu, uu, uu, uu, uu, uu, uu, uu, uu, uu], hp := emp }
theorem L83_1_eq (n : Nat × Nat) (m1 : Nat) (l0 : List Int) (v1 : Int) (i5 : Int) : L83_1 n (m1 + 1) l0 v1 i5 =
    (bif decide (i5 < (l0.length : Int)) then (idx l0 i5).bind fun x1' =>
      (bif (x1' == v1) then some true
      else L83_1 n m1 l0 v1 (wr .i64 (i5 + 1)))
    else some false) := by kernel_rfl
noncomputable def S83 (n : Nat × Nat) (l0 : List Int) (v1 : Int) : Option R83 := run (E83 n) c83 an83 rt83 (fun _ _ => none) rt83 { tm := [.c (.sl (.int .i64) l0 false), .c (.int .i64 v1), uu, uu, uu, uu, uu, uu, uu, uu, uu, uu, uu, uu, uu, uu, uu, uu], hp := emp }
theorem S83_eq (n : Nat × Nat) (l0 : List Int) (v1 : Int) : S83 n l0 v1 =
    L83_1 n n.1 l0 v1 0 := by kernel_rfl
theorem S83_run (n : Nat × Nat) (xs : pksDen pk83) : S83 n xs.1 xs.2.1 = runG (E83 n) noScope c83 an83 (rtG rk83) (fun _ _ => none) (rtG rk83) (st0 pk83 xs Try.f83.ntmps) := by kernel_rfl
noncomputable def P83 (n : Nat × Nat) := phiOf pk83 rk83 (fun xs => S83 n xs.1 xs.2.1)
theorem call83 : CallOK Try.prog 83 := callOK_of Try.func83 (by kernel_rfl) (by kernel_rfl)
theorem env83 (n : Nat × Nat) : EnvOK Try.prog (E83 n) := envOK0 noPhi_ok rfl rfl
theorem par83 (n : Nat × Nat) : EnvPar (E83 n) := envPar0 noPhi_par rfl
theorem FC83 (n : Nat × Nat) : FCs Try.prog 83 (P83 n) := phiOf_FCs fun xs r h vs hv => FC.of_runG tabOK eqsOK (env83 n) (par83 n) mixed (fun _ => noScope_ok) Try.func83 (c := c83) (an := an83) (pks := pk83) (rks := rk83) (by kernel_rfl) (by kernel_rfl) hv ((S83_run n xs).symm.trans h)
/-D 83 -/
noncomputable def DF83_1 (n : Nat × Nat) (f1 : List Int → Int → Int → Option R83) (l0 : List Int) (v1 : Int) (i5 : Int) : Option R83 :=
    (bif decide (i5 < (l0.length : Int)) then (idx l0 i5).bind fun x1' =>
      (bif (x1' == v1) then some true
      else f1 l0 v1 (wr .i64 (i5 + 1)))
    else some false)
noncomputable def DL83_1 (n : Nat × Nat) (m : Nat) : List Int → Int → Int → Option R83 := Nat.rec (motive := fun _ => List Int → Int → Int → Option R83) (fun _ _ _ => none) (fun _ ih => DF83_1 n ih) m
theorem DL83_1_succ (n : Nat × Nat) (m : Nat) : DL83_1 n (m + 1) = DF83_1 n (DL83_1 n m) := rfl
theorem DL83_1_eq (n : Nat × Nat) (hn : n.2 = 1) : ∀ m, L83_1 n m = DL83_1 n m
  | 0 => by funext l0 v1 i5; kernel_rfl
  | m + 1 => by
    have ih := DL83_1_eq n hn m
    funext l0 v1 i5; refine (L83_1_eq n m l0 v1 i5).trans ?_
    rw [DL83_1_succ]
    unfold DF83_1
    (try simp only [ih]) <;> first | with_reducible rfl | rfl
noncomputable def D83 (n : Nat × Nat) (l0 : List Int) (v1 : Int) : Option R83 :=
    DL83_1 n n.1 l0 v1 0
theorem S83_D (n : Nat × Nat) (hn : n.2 = 1) : S83 n = D83 n := by
  funext l0 v1; refine (S83_eq n l0 v1).trans ?_
  unfold D83
  (try simp only [DL83_1_eq n hn]) <;> first | with_reducible rfl | rfl
end Go.Proofs.Ytnlbhjmbaedadaa
set_option linter.unusedVariables false
set_option linter.unusedSimpArgs false
namespace Go.Proofs.Ytnlbhjmbaedadaa
open Go.Vi

theorem hN1 : 1000 ≤ N.1 := by decide
theorem wr_ok {x : Int} (h1 : -9223372036854775808 ≤ x) (h2 : x ≤ 9223372036854775807) : wr .i64 x = x := by
  have : wr .i64 x = (x + 9223372036854775808) % 18446744073709551616 - 9223372036854775808 := by
    simp only [wr, IntKind.wrap, IntKind.signed, IntKind.bits]
    simp
    split <;> omega
  rw [this]
  omega
theorem wr_succ {k : Nat} (h : k < 1000000) : wr .i64 ((k : Int) + 1) = ((k + 1 : Nat) : Int) := by
  rw [wr_ok (by omega) (by omega)]; omega
theorem idx_nat {α : Type} {l : List α} {k : Nat} (h : k < l.length) : idx l (k : Int) = some l[k] := by
  unfold idx
  rw [if_pos (by omega), Int.toNat_natCast, List.getElem?_eq_getElem h]
theorem idx_int {α : Type} {l : List α} {k : Nat} {i : Int} (hi : i = k) (h : k < l.length) : idx l i = some l[k] := by
  subst hi
  exact idx_nat h
theorem drop_cons {α : Type} {l : List α} {k : Nat} (h : k < l.length) : l.drop k = l[k] :: l.drop (k + 1) := List.drop_eq_getElem_cons h
theorem inB_nat {k n : Nat} (h : k < n) : inB (k : Int) n = true := by
  unfold inB
  simp [h]
theorem lim_dec {α : Type} {a : Nat} {x : α} (h : a < 1000000) : decide (a + [x].length ≤ lim) = true := decide_eq_true (by simp [lim]; omega)
theorem dlt_t {a b : Nat} (h : a < b) : decide ((a : Int) < (b : Int)) = true := decide_eq_true (by omega)
theorem dlt_f {a b : Nat} (h : ¬ a < b) : decide ((a : Int) < (b : Int)) = false := decide_eq_false (by omega)
theorem take_snoc {α : Type} {l : List α} {k : Nat} (h : k < l.length) : l.take (k + 1) = l.take k ++ [l[k]] := (List.take_append_getElem h).symm
theorem max_if (a b : Int) : (if b > a then b else a) = max a b := by
  by_cases h : b > a
  · rw [if_pos h, Int.max_eq_right (by omega)]
  · rw [if_neg h, Int.max_eq_left (by omega)]

/-- Two lists are the same. -/
theorem same_loop (n : Nat × Nat) (a b : List Int) (hl : a.length = b.length) (hs : a.length < 1000) : ∀ (m k : Nat), k ≤ a.length → a.length - k < m → DL18_1 n m a b (k : Int) = some (decide (a.drop k = b.drop k))
  | 0, k, _, h => by omega
  | m + 1, k, hk, h => by
    rw [DL18_1_succ]
    unfold DF18_1
    by_cases hlt : k < a.length
    · have ih := same_loop n a b hl hs m (k + 1) (by omega) (by omega)
      rw [dlt_t hlt, cond_true, idx_nat hlt, idx_nat (by omega : k < b.length), wr_succ (by omega), ih, drop_cons hlt, drop_cons (by omega : k < b.length)]
      simp only [Option.bind_some, List.cons.injEq]
      by_cases e : a[k] = b[k]
      · simp [e]
      · rw [show (a[k] != b[k]) = true by simpa using e, cond_true]; simp [e]
    · rw [dlt_f hlt, cond_false, List.drop_of_length_le (by omega), List.drop_of_length_le (by omega)]
      simp
theorem same_eq {n : Nat × Nat} (hn : 1000 ≤ n.1) {a b : List Int} (hs : a.length < 900) : D18 n a b = some (decide (a = b)) := by
  unfold D18
  by_cases hl : a.length = b.length
  · rw [show (((a.length : Int)) != (b.length : Int)) = false by simp [hl], cond_false]
    have := same_loop n a b hl (by omega) n.1 0 (by omega) (by omega)
    simpa using this
  · rw [show (((a.length : Int)) != (b.length : Int)) = true by simpa using (by omega : (a.length : Int) ≠ b.length), cond_true]
    rw [decide_eq_false (fun e => hl (by rw [e]))]

/-- Sheets as they are. -/
theorem inner_loop (n : Nat × Nat) (l : List (Int × Int)) (hs : l.length < 1000) : ∀ (m k : Nat), k ≤ l.length → l.length - k < m → DL15_1 n m l (k : Int) (l.take k) = some l
  | 0, k, _, h => by omega
  | m + 1, k, hk, h => by
    rw [DL15_1_succ]
    unfold DF15_1
    by_cases hlt : k < l.length
    · have ih := inner_loop n l hs m (k + 1) (by omega) (by omega)
      rw [dlt_t hlt, cond_true, idx_nat hlt, wr_succ (by omega), Option.bind_some, lim_dec (by simp; omega), cond_true, ← take_snoc hlt, ih]
    · rw [dlt_f hlt, cond_false, List.take_of_length_le (by omega)]
theorem inner_eq {n : Nat × Nat} (hn : 1000 ≤ n.1) {l : List (Int × Int)} (hs : l.length < 900) : D15 n l = some l := by
  unfold D15
  exact inner_loop n l (by omega) n.1 0 (by omega) (by omega)

/-- A sheet whose hours are as they may be. -/
def Ok (s : Int × Int) : Prop := 0 ≤ s.1 ∧ s.1 ≤ 50 ∧ 0 ≤ s.2 ∧ s.2 ≤ 50
instance (s : Int × Int) : Decidable (Ok s) := by unfold Ok; exact inferInstance
def chkl : List (Int × Int) → Int
  | [] => 0
  | s :: l => if Ok s then chkl l else 1
def chk (l : List (Int × Int)) : Int := if l.length = 0 then 4 else if 7 < l.length then 3 else chkl l
structure Good (l : List (Int × Int)) : Prop where
  pos : 0 < l.length
  len : l.length ≤ 7
  ok : ∀ s ∈ l, Ok s
theorem chkl_zero : ∀ {l : List (Int × Int)}, chkl l = 0 ↔ ∀ s ∈ l, Ok s
  | [] => by simp [chkl]
  | s :: l => by
    unfold chkl
    by_cases h : Ok s
    · rw [if_pos h, chkl_zero]; simp [h]
    · rw [if_neg h]; simp [h]
theorem chk_good {l : List (Int × Int)} : chk l = 0 ↔ Good l := by
  unfold chk
  by_cases h0 : l.length = 0
  · rw [if_pos h0]; exact ⟨fun h => by simp at h, fun h => by have := h.pos; omega⟩
  rw [if_neg h0]
  by_cases h8 : 7 < l.length
  · rw [if_pos h8]; exact ⟨fun h => by simp at h, fun h => by have := h.len; omega⟩
  rw [if_neg h8, chkl_zero]
  exact ⟨fun h => ⟨by omega, by omega, h⟩, fun h => h.ok⟩

theorem chk_loop (n : Nat × Nat) (l : List (Int × Int)) (hs : l.length < 1000) : ∀ (m k : Nat), k ≤ l.length → l.length - k < m → DL25_1 n m l (l.length : Int) (k : Int) = some (chkl (l.drop k))
  | 0, k, _, h => by omega
  | m + 1, k, hk, h => by
    rw [DL25_1_succ]
    unfold DF25_1
    by_cases hlt : k < l.length
    · have ih := chk_loop n l hs m (k + 1) (by omega) (by omega)
      rw [dlt_t hlt, cond_true, idx_nat hlt, wr_succ (by omega), ih, drop_cons hlt]
      generalize l[k] = s
      simp only [Option.bind_some, chkl]
      by_cases hok : Ok s
      · have ho := hok
        unfold Ok at ho
        rw [if_pos hok, decide_eq_false (show ¬ (if s.2 < s.1 then s.2 else s.1) < 0 by split <;> omega), decide_eq_false (show ¬ (if s.2 > s.1 then s.2 else s.1) > 50 by split <;> omega)]
        rfl
      · have ho := hok
        unfold Ok at ho
        rw [if_neg hok]
        by_cases h0 : (if s.2 < s.1 then s.2 else s.1) < 0
        · rw [decide_eq_true h0]; rfl
        · rw [decide_eq_false h0, decide_eq_true (show (if s.2 > s.1 then s.2 else s.1) > 50 by revert h0; split <;> split <;> omega)]
          rfl
    · rw [dlt_f hlt, cond_false, List.drop_of_length_le (by omega)]; rfl
theorem chk_eq {n : Nat × Nat} (hn : 1000 ≤ n.1) (l : List (Int × Int)) : D25 n l = some (chk l) := by
  unfold D25 chk
  by_cases h0 : l.length = 0
  · simp [h0]
  rw [show (((l.length : Int)) == 0) = false by simpa using h0, cond_false, if_neg h0]
  by_cases h8 : 7 < l.length
  · rw [decide_eq_true (show (l.length : Int) > 7 by omega), cond_true, if_pos h8]
  · rw [decide_eq_false (show ¬ (l.length : Int) > 7 by omega), cond_false, if_neg h8]
    exact chk_loop n l (by omega) n.1 0 (by omega) (by omega)

theorem in_eq (n : Nat × Nat) (v lo hi : Int) : D68 n v lo hi = some (decide (lo ≤ v) && decide (v ≤ hi)) := by
  unfold D68
  by_cases h : lo ≤ v <;> simp [h]
theorem chkr_loop (n : Nat × Nat) (l : List (Int × Int)) (hs : l.length < 1000) : ∀ (m k : Nat), k ≤ l.length → l.length - k < m → DL26_1 n m l (k : Int) = some (chkl (l.drop k))
  | 0, k, _, h => by omega
  | m + 1, k, hk, h => by
    rw [DL26_1_succ]
    unfold DF26_1
    by_cases hlt : k < l.length
    · have ih := chkr_loop n l hs m (k + 1) (by omega) (by omega)
      rw [dlt_t hlt, cond_true, idx_nat hlt, wr_succ (by omega), ih, drop_cons hlt]
      generalize l[k] = s
      simp only [Option.bind_some, chkl, in_eq]
      unfold Ok
      by_cases h1 : 0 ≤ s.1 <;> by_cases h2 : s.1 ≤ 50 <;> by_cases h3 : 0 ≤ s.2 <;> by_cases h4 : s.2 ≤ 50 <;> simp [h1, h2, h3, h4]
    · rw [dlt_f hlt, cond_false, List.drop_of_length_le (by omega)]; rfl
theorem chkr_eq {n : Nat × Nat} (hn : 1000 ≤ n.1) (l : List (Int × Int)) : D26 n l = some (chk l) := by
  unfold D26 chk
  by_cases h0 : l.length = 0
  · simp [h0]
  rw [show (((l.length : Int)) == 0) = false by simpa using h0, cond_false, if_neg h0]
  by_cases h8 : 7 < l.length
  · rw [decide_eq_true (show (l.length : Int) > 7 by omega), cond_true, if_pos h8]
  · rw [decide_eq_false (show ¬ (l.length : Int) > 7 by omega), cond_false, if_neg h8]
    exact chkr_loop n l (by omega) n.1 0 (by omega) (by omega)

/-- The first place of a number, or -1. -/
def fdo (v : Int) : Int → List Int → Int
  | _, [] => -1
  | k, x :: l => if v = x then k else fdo v (k + 1) l
theorem index_loop (n : Nat × Nat) (l : List Int) (v : Int) (hs : l.length < 1000) : ∀ (m k : Nat), k ≤ l.length → l.length - k < m → DL65_1 n m l v (l.length : Int) (k : Int) = some (fdo v k (l.drop k))
  | 0, k, _, h => by omega
  | m + 1, k, hk, h => by
    rw [DL65_1_succ]
    unfold DF65_1
    by_cases hlt : k < l.length
    · have ih := index_loop n l v hs m (k + 1) (by omega) (by omega)
      rw [dlt_t hlt, cond_true, idx_nat hlt, wr_succ (by omega), ih, drop_cons hlt]
      simp only [Option.bind_some, fdo]
      by_cases e : v = l[k]
      · rw [show (v == l[k]) = true by simpa using e, cond_true, if_pos e]
      · rw [show (v == l[k]) = false by simpa using e, cond_false, if_neg e]; simp
    · rw [dlt_f hlt, cond_false, List.drop_of_length_le (by omega)]; rfl
theorem index_eq {n : Nat × Nat} (hn : 1000 ≤ n.1) {l : List Int} (hs : l.length < 900) (v : Int) : D65 n l v = some (fdo v 0 l) := by
  unfold D65
  exact index_loop n l v (by omega) n.1 0 (by omega) (by omega)
theorem fdo_nn {v : Int} : ∀ {l : List Int} {k : Int}, 0 ≤ k → (0 ≤ fdo v k l ↔ v ∈ l)
  | [], k, h => by simp [fdo]
  | x :: l, k, h => by
    unfold fdo
    by_cases e : v = x
    · rw [if_pos e]; simp [e, h]
    · rw [if_neg e, fdo_nn (by omega)]; simp [e]
theorem contains_eq {n : Nat × Nat} (hn : 1000 ≤ n.1) {l : List Int} (hs : l.length < 900) (v : Int) : D80 n l v = some (decide (v ∈ l)) := by
  unfold D80
  rw [index_eq hn hs, Option.bind_some]
  congr 1
  exact decide_eq_decide.2 (fdo_nn (by omega))
theorem has_loop (n : Nat × Nat) (l : List Int) (v : Int) (hs : l.length < 1000) : ∀ (m k : Nat), k ≤ l.length → l.length - k < m → DL83_1 n m l v (k : Int) = some (decide (v ∈ l.drop k))
  | 0, k, _, h => by omega
  | m + 1, k, hk, h => by
    rw [DL83_1_succ]
    unfold DF83_1
    by_cases hlt : k < l.length
    · have ih := has_loop n l v hs m (k + 1) (by omega) (by omega)
      rw [dlt_t hlt, cond_true, idx_nat hlt, wr_succ (by omega), ih, drop_cons hlt]
      simp only [Option.bind_some]
      by_cases e : l[k] = v
      · rw [show (l[k] == v) = true by simpa using e, cond_true]; simp [e]
      · rw [show (l[k] == v) = false by simpa using e, cond_false]; simp only [List.mem_cons, show ¬ v = l[k] from fun h => e h.symm, false_or]
    · rw [dlt_f hlt, cond_false, List.drop_of_length_le (by omega)]; simp
theorem has_eq {n : Nat × Nat} (hn : 1000 ≤ n.1) {l : List Int} (hs : l.length < 900) (v : Int) : D83 n l v = some (decide (v ∈ l)) := by
  unfold D83
  have := has_loop n l v (by omega) n.1 0 (by omega) (by omega)
  simpa using this

/-- Sums and greatest numbers. -/
theorem total_loop (n : Nat × Nat) (l : List Int) (hs : l.length < 1000) (hb : ∀ x ∈ l, 0 ≤ x ∧ x ≤ 1000) : ∀ (m k : Nat) (a : Int), k ≤ l.length → l.length - k < m → 0 ≤ a → a ≤ 1000 * k → DL63_1 n m a l (l.length : Int) (k : Int) = some (a + (l.drop k).sum)
  | 0, k, a, _, h, _, _ => by omega
  | m + 1, k, a, hk, h, h0, h1 => by
    rw [DL63_1_succ]
    unfold DF63_1
    by_cases hlt : k < l.length
    · have hx := hb _ (List.getElem_mem hlt)
      have ih := total_loop n l hs hb m (k + 1) (a + l[k]) (by omega) (by omega) (by omega) (by omega)
      rw [dlt_t hlt, cond_true, idx_nat hlt, wr_succ (by omega), Option.bind_some, wr_ok (by omega) (by omega), ih, drop_cons hlt, List.sum_cons, Int.add_assoc]
    · rw [dlt_f hlt, cond_false, List.drop_of_length_le (by omega)]; simp
theorem total_eq {n : Nat × Nat} (hn : 1000 ≤ n.1) {l : List Int} (hs : l.length < 900) (hb : ∀ x ∈ l, 0 ≤ x ∧ x ≤ 1000) : D63 n l = some l.sum := by
  unfold D63
  have := total_loop n l (by omega) hb n.1 0 0 (by omega) (by omega) (by omega) (by omega)
  simpa using this
theorem great_loop (n : Nat × Nat) (l : List Int) (hs : l.length < 1000) : ∀ (m k : Nat) (a : Int), k ≤ l.length → l.length - k < m → DL84_1 n m a l (l.length : Int) (k : Int) = some ((l.drop k).foldl max a)
  | 0, k, a, _, h => by omega
  | m + 1, k, a, hk, h => by
    rw [DL84_1_succ]
    unfold DF84_1
    by_cases hlt : k < l.length
    · have ih := great_loop n l hs m (k + 1) (max a l[k]) (by omega) (by omega)
      rw [dlt_t hlt, cond_true, idx_nat hlt, wr_succ (by omega), Option.bind_some, max_if, ih, drop_cons hlt, List.foldl_cons]
    · rw [dlt_f hlt, cond_false, List.drop_of_length_le (by omega)]; simp
theorem great_eq {n : Nat × Nat} (hn : 1000 ≤ n.1) {l : List Int} (hs : l.length < 900) (a : Int) : D84 n a l = some (l.foldl max a) := by
  unfold D84
  have := great_loop n l (by omega) n.1 0 a (by omega) (by omega)
  simpa using this

/-- What sheets need on a machine. -/
def hr (m : Int) (s : Int × Int) : Int := if m = 0 then s.1 else s.2
theorem all_loop (n : Nat × Nat) (mc : Int) (hm : mc = 0 ∨ mc = 1) (l : List (Int × Int)) (hs : l.length < 1000) : ∀ (m k : Nat), k ≤ l.length → l.length - k < m → DL64_1 n m mc l (l.length : Int) (k : Int) ((l.take k).map (hr mc)) = some (l.map (hr mc))
  | 0, k, _, h => by omega
  | m + 1, k, hk, h => by
    rw [DL64_1_succ]
    unfold DF64_1
    by_cases hlt : k < l.length
    · have ih := all_loop n mc hm l hs m (k + 1) (by omega) (by omega)
      have hi : idx [l[k].1, l[k].2] mc = some (hr mc l[k]) := by
        rcases hm with h | h <;> subst h <;> simp [idx, hr]
      rw [dlt_t hlt, cond_true, idx_nat hlt, Option.bind_some, hi, wr_succ (by omega), Option.bind_some, lim_dec (by simp; omega), cond_true, ← ih, take_snoc hlt, List.map_append]
      rfl
    · rw [dlt_f hlt, cond_false, List.take_of_length_le (by omega)]
theorem all_eq {n : Nat × Nat} (hn : 1000 ≤ n.1) {mc : Int} (hm : mc = 0 ∨ mc = 1) {l : List (Int × Int)} (hs : l.length < 900) : D64 n l mc = some (l.map (hr mc)) := by
  unfold D64
  exact all_loop n mc hm l (by omega) n.1 0 (by omega) (by omega)

/-- Numbers that are no two the same, as many as others among which they are: these. -/
theorem perm_of_sub {α : Type} [BEq α] [LawfulBEq α] : ∀ {l m : List α}, l.Nodup → (∀ x ∈ l, x ∈ m) → m.length ≤ l.length → l.Perm m
  | [], m, _, _, h => by
    rw [List.length_nil] at h
    rw [List.length_eq_zero_iff.1 (by omega : m.length = 0)]
  | a :: l, m, hn, hs, h => by
    have ha := hs a (by simp)
    have hp := List.perm_cons_erase ha
    rw [List.nodup_cons] at hn
    have hl := List.length_erase_of_mem ha
    have hne : ∀ x ∈ l, x ∈ m.erase a := fun x hx => (List.mem_erase_of_ne (fun e => hn.1 (by subst e; exact hx))).2 (hs x (by simp [hx]))
    rw [List.length_cons] at h
    exact (List.Perm.cons a (perm_of_sub hn.2 hne (by omega))).trans hp.symm
theorem sum_perm {l m : List Int} (h : l.Perm m) : l.sum = m.sum := by
  induction h with
  | nil => rfl
  | cons x _ ih => simp only [List.sum_cons, ih]
  | swap x y l => simp only [List.sum_cons]; omega
  | trans _ _ h1 h2 => rw [h1, h2]
end Go.Proofs.Ytnlbhjmbaedadaa
set_option linter.unusedVariables false
set_option linter.unusedSimpArgs false
set_option maxRecDepth 100000
namespace Go.Proofs.Ytnlbhjmbaedadaa
open Go.Vi
abbrev R59 := Int
noncomputable def c59 : Code := bodyOf Try.f59
noncomputable def an59 : Ann := (.s .l (.s .l (.s (.s .l (.j [0, 1, 5, 23, 24] .l .l)) (.s (.s .l (.j [5] (.j [0, 1, 5, 6, 23, 24] (.s (.s .l (.j [0, 1, 5, 6, 23, 24] .l .l)) (.j [] (.j [0, 1, 5, 6, 23, 24] (.s .l (.j [0, 1, 5, 6, 23, 24] .l (.s .l (.j [0, 1, 5, 6, 23, 24] .l .l)))) .l) .l)) .l) .l)) .l))))
def pk59 : List PK := [.c (.sl (.pair (.int .i64) (.int .i64))), .c (.sl (.int .i64))]
def rk59 : List RK := [.c (.int .i64) 4]
noncomputable def rt59 (st : St) : Option R59 := rtG rk59 st
noncomputable def E59 (n : Nat × Nat) : Env := { T := tab, phi := (consPhi 26 (fun _ => true) (P26 n) (consPhi 68 (fun _ => true) (P68 n) (consPhi 83 (fun _ => true) (P83 n) noPhi))), eff := fun _ => false, fuel := n.1, hold := n.2 }
noncomputable def kq59_1 (n : Nat × Nat) : St → Option R59 := run (E59 n) (cB (cB (cB c59))) (Ann.snd (Ann.snd (Ann.snd an59))) rt59 (fun _ _ => none) rt59
noncomputable def kc59_2 (n : Nat × Nat) : St → Option R59 := fun s => normC [0, 1, 5, 23, 24] s (kq59_1 n)
noncomputable def kq59_3 (n : Nat × Nat) : St → Option R59 := run (E59 n) (cB (cB (cB (cB c59)))) (Ann.snd (Ann.snd (Ann.snd (Ann.snd an59)))) rt59 (fun _ _ => none) rt59
noncomputable def kc59_4 (n : Nat × Nat) : St → Option R59 := fun s => normC [5] s (kq59_3 n)
noncomputable def xb59_5 (n : Nat × Nat) : Nat → St → Option R59 := fun j s => bif Nat.beq j 0 then normC [5] s (kq59_3 n) else (fun _ _ => none) j s
noncomputable def F59_6 (n : Nat × Nat) : (St → Option R59) → St → Option R59 := fun K s => run (E59 n) (cA (cA (cB (cA (cB (cB (cB c59))))))) (Ann.fst (Ann.fst (Ann.snd (Ann.fst (Ann.snd (Ann.snd (Ann.snd an59))))))) (fun s => normC [0, 1, 5, 6, 23, 24] s K) (xb59_5 n) rt59 s
noncomputable def kq59_7 (n : Nat × Nat) (m1 : Nat) : St → Option R59 := run (E59 n) (cB (cA (cA (cB (cA (cB (cB (cB c59)))))))) (Ann.snd (Ann.fst (Ann.fst (Ann.snd (Ann.fst (Ann.snd (Ann.snd (Ann.snd an59)))))))) (fun s => normC [0, 1, 5, 6, 23, 24] s (loopN (F59_6 n) m1)) (xb59_5 n) rt59
noncomputable def kc59_8 (n : Nat × Nat) (m1 : Nat) : St → Option R59 := fun s => normC [0, 1, 5, 6, 23, 24] s (kq59_7 n m1)
noncomputable def kq59_9 (n : Nat × Nat) (m1 : Nat) : St → Option R59 := run (E59 n) (cB (cB (cA (cA (cB (cA (cB (cB (cB c59))))))))) (Ann.snd (Ann.snd (Ann.fst (Ann.fst (Ann.snd (Ann.fst (Ann.snd (Ann.snd (Ann.snd an59))))))))) (fun s => normC [0, 1, 5, 6, 23, 24] s (loopN (F59_6 n) m1)) (xb59_5 n) rt59
noncomputable def kc59_10 (n : Nat × Nat) (m1 : Nat) : St → Option R59 := fun s => normC [0, 1, 5, 6, 23, 24] s (loopN (fun _ => (kq59_9 n m1)) n.2)
noncomputable def xb59_11 (n : Nat × Nat) (m1 : Nat) : Nat → St → Option R59 := fun j s => bif Nat.beq j 1 then normC [0, 1, 5, 6, 23, 24] s (loopN (fun _ => (kq59_9 n m1)) n.2) else (xb59_5 n) j s
noncomputable def kc59_12 (n : Nat × Nat) (m1 : Nat) : St → Option R59 := fun s => normC [0, 1, 5, 6, 23, 24] s (kc59_10 n m1)
noncomputable def kc59_13 (n : Nat × Nat) (m1 : Nat) : St → Option R59 := fun s => normC [0, 1, 5, 6, 23, 24] s (kc59_12 n m1)
noncomputable def L59_1 (n : Nat × Nat) (m : Nat) (sheets0 : List (Int × Int)) (order1 : List Int) (e5 : Int) (i6 : Int) : Option R59 := loopN (F59_6 n) m { tm := [.c (.sl (.pair (.int .i64) (.int .i64)) sheets0 false), .c (.sl (.int .i64) order1 false), uu, uu, uu, .c (.int .i64 e5), .c (.int .i64 i6), uu, uu, uu, uu, uu, uu, uu, uu, uu, uu, uu, uu, uu, uu, uu, uu, uu, uu, uu, uu, uu, uu, uu, uu, uu, uu, uu, uu, uu, uu, uu, uu, uu, uu, uu, uu, uu, uu, uu], hp := emp }
noncomputable def L59_2 (n : Nat × Nat) (m1 : Nat) (sheets0 : List (Int × Int)) (order1 : List Int) (e5 : Int) (i6 : Int) : Option R59 := loopN (fun _ => (kq59_9 n m1)) n.2 { tm := [.c (.sl (.pair (.int .i64) (.int .i64)) sheets0 false), .c (.sl (.int .i64) order1 false), uu, uu, uu, .c (.int .i64 e5), .c (.int .i64 i6), uu, uu, uu, uu, uu, uu, uu, uu, uu, uu, uu, uu, uu, uu, uu, uu, uu, uu, uu, uu, uu, uu, uu, uu, uu, uu, uu, uu, uu, uu, uu, uu, uu, uu, uu, uu, uu, uu, uu], hp := emp }
theorem L59_1_eq (n : Nat × Nat) (m1 : Nat) (sheets0 : List (Int × Int)) (order1 : List Int) (e5 : Int) (i6 : Int) : L59_1 n (m1 + 1) sheets0 order1 e5 i6 =
    ((bif (decide (i6 < (order1.length : Int)) == true) then some (e5 == 0)
      else some false)).bind fun b3' =>
    (bif b3' then (idx order1 i6).bind fun x4' =>
      (S68 n x4' 0 (wr .i64 ((sheets0.length : Int) - 1))).bind fun r5' =>
      (bif (!r5') then L59_2 n m1 sheets0 order1 2 i6
      else (bif bounds none (some i6) none order1.length then (idx order1 i6).bind fun x6' =>
          (S83 n (order1.take (Int.toNat i6)) x6').bind fun r7' =>
          (bif r7' then L59_2 n m1 sheets0 order1 6 i6
          else L59_2 n m1 sheets0 order1 e5 i6)
        else none))
    else some e5) := by kernel_rfl
theorem L59_2_raw (n : Nat × Nat) (m1 : Nat) (sheets0 : List (Int × Int)) (order1 : List Int) (e5 : Int) (i6 : Int) : (kq59_9 n m1) { tm := [.c (.sl (.pair (.int .i64) (.int .i64)) sheets0 false), .c (.sl (.int .i64) order1 false), uu, uu, uu, .c (.int .i64 e5), .c (.int .i64 i6), uu, uu, uu, uu, uu, uu, uu, uu, uu, uu, uu, uu, uu, uu, uu, uu, uu, uu, uu, uu, uu, uu, uu, uu, uu, uu, uu, uu, uu, uu, uu, uu, uu, uu, uu, uu, uu, uu, uu], hp := emp } =
    L59_1 n m1 sheets0 order1 e5 (wr .i64 (i6 + 1)) := by kernel_rfl
noncomputable def S59 (n : Nat × Nat) (sheets0 : List (Int × Int)) (order1 : List Int) : Option R59 := run (E59 n) c59 an59 rt59 (fun _ _ => none) rt59 { tm := [.c (.sl (.pair (.int .i64) (.int .i64)) sheets0 false), .c (.sl (.int .i64) order1 false), uu, uu, uu, uu, uu, uu, uu, uu, uu, uu, uu, uu, uu, uu, uu, uu, uu, uu, uu, uu, uu, uu, uu, uu, uu, uu, uu, uu, uu, uu, uu, uu, uu, uu, uu, uu, uu, uu, uu, uu, uu, uu, uu, uu], hp := emp }
theorem S59_eq (n : Nat × Nat) (sheets0 : List (Int × Int)) (order1 : List Int) : S59 n sheets0 order1 =
    (S26 n sheets0).bind fun r1' =>
    ((bif ((r1' == 0) == true) then some ((order1.length : Int) != (sheets0.length : Int))
      else some false)).bind fun b2' =>
    (bif b2' then L59_1 n n.1 sheets0 order1 5 0
    else L59_1 n n.1 sheets0 order1 r1' 0) := by kernel_rfl
theorem S59_run (n : Nat × Nat) (xs : pksDen pk59) : S59 n xs.1 xs.2.1 = runG (E59 n) noScope c59 an59 (rtG rk59) (fun _ _ => none) (rtG rk59) (st0 pk59 xs Try.f59.ntmps) := by kernel_rfl
noncomputable def P59 (n : Nat × Nat) := phiOf pk59 rk59 (fun xs => S59 n xs.1 xs.2.1)
theorem call59 : CallOK Try.prog 59 := callOK_of Try.func59 (by kernel_rfl) (by kernel_rfl)
theorem env59 (n : Nat × Nat) : EnvOK Try.prog (E59 n) := envOK0 (consPhi_ok (FC26 n) call26 (consPhi_ok (FC68 n) call68 (consPhi_ok (FC83 n) call83 noPhi_ok))) rfl rfl
theorem par59 (n : Nat × Nat) : EnvPar (E59 n) := envPar0 (consPhi_par phiOf_Par1 (consPhi_par phiOf_Par1 (consPhi_par phiOf_Par1 noPhi_par))) rfl
theorem FC59 (n : Nat × Nat) : FCs Try.prog 59 (P59 n) := phiOf_FCs fun xs r h vs hv => FC.of_runG tabOK eqsOK (env59 n) (par59 n) mixed (fun _ => noScope_ok) Try.func59 (c := c59) (an := an59) (pks := pk59) (rks := rk59) (by kernel_rfl) (by kernel_rfl) hv ((S59_run n xs).symm.trans h)
abbrev R60 := List Int × List Int
noncomputable def c60 : Code := bodyOf Try.f60
noncomputable def an60 : Ann := (.s .l (.s .l (.s (.s .l (.j [6, 7] (.j [0, 1, 6, 7, 8] (.s (.s .l (.j [0, 1, 6, 7, 8] .l .l)) (.s (.j [0, 1, 6, 7, 8] (.s .l (.s .l (.s (.s .l (.j [0, 1, 6, 7, 8, 9, 10] .l .l)) (.s .l (.s (.s .l (.j [0, 1, 6, 7, 8, 9, 10] .l .l)) .l))))) .l) .l)) .l) .l)) .l)))
def pk60 : List PK := [.c (.sl (.pair (.int .i64) (.int .i64))), .c (.sl (.int .i64))]
def rk60 : List RK := [.own (.int .i64) 4, .own (.int .i64) 5]
noncomputable def rt60 (st : St) : Option R60 := rtG rk60 st
noncomputable def E60 (n : Nat × Nat) : Env := { T := tab, phi := noPhi, eff := fun _ => false, fuel := n.1, hold := n.2 }
noncomputable def kq60_1 (n : Nat × Nat) : St → Option R60 := run (E60 n) (cB (cB (cB c60))) (Ann.snd (Ann.snd (Ann.snd an60))) rt60 (fun _ _ => none) rt60
noncomputable def kc60_2 (n : Nat × Nat) : St → Option R60 := fun s => normC [6, 7] s (kq60_1 n)
noncomputable def xb60_3 (n : Nat × Nat) : Nat → St → Option R60 := fun j s => bif Nat.beq j 0 then normC [6, 7] s (kq60_1 n) else (fun _ _ => none) j s
noncomputable def F60_4 (n : Nat × Nat) : (St → Option R60) → St → Option R60 := fun K s => run (E60 n) (cA (cA (cB (cA (cB (cB c60)))))) (Ann.fst (Ann.fst (Ann.snd (Ann.fst (Ann.snd (Ann.snd an60)))))) (fun s => normC [0, 1, 6, 7, 8] s K) (xb60_3 n) rt60 s
noncomputable def kq60_5 (n : Nat × Nat) (m1 : Nat) : St → Option R60 := run (E60 n) (cB (cA (cA (cB (cA (cB (cB c60))))))) (Ann.snd (Ann.fst (Ann.fst (Ann.snd (Ann.fst (Ann.snd (Ann.snd an60))))))) (fun s => normC [0, 1, 6, 7, 8] s (loopN (F60_4 n) m1)) (xb60_3 n) rt60
noncomputable def kc60_6 (n : Nat × Nat) (m1 : Nat) : St → Option R60 := fun s => normC [0, 1, 6, 7, 8] s (kq60_5 n m1)
noncomputable def kq60_7 (n : Nat × Nat) (m1 : Nat) : St → Option R60 := run (E60 n) (cB (cB (cA (cA (cB (cA (cB (cB c60)))))))) (Ann.snd (Ann.snd (Ann.fst (Ann.fst (Ann.snd (Ann.fst (Ann.snd (Ann.snd an60)))))))) (fun s => normC [0, 1, 6, 7, 8] s (loopN (F60_4 n) m1)) (xb60_3 n) rt60
noncomputable def kc60_8 (n : Nat × Nat) (m1 : Nat) : St → Option R60 := fun s => normC [0, 1, 6, 7, 8] s (kq60_7 n m1)
noncomputable def xb60_9 (n : Nat × Nat) (m1 : Nat) : Nat → St → Option R60 := fun j s => bif Nat.beq j 1 then normC [0, 1, 6, 7, 8] s (kq60_7 n m1) else (xb60_3 n) j s
noncomputable def kq60_10 (n : Nat × Nat) (m1 : Nat) : St → Option R60 := run (E60 n) (cB (cB (cB (cA (cA (cB (cA (cA (cB (cA (cB (cB c60)))))))))))) (Ann.snd (Ann.snd (Ann.snd (Ann.fst (Ann.fst (Ann.snd (Ann.fst (Ann.fst (Ann.snd (Ann.fst (Ann.snd (Ann.snd an60)))))))))))) (kc60_8 n m1) (xb60_9 n m1) rt60
noncomputable def kc60_11 (n : Nat × Nat) (m1 : Nat) : St → Option R60 := fun s => normC [0, 1, 6, 7, 8, 9, 10] s (kq60_10 n m1)
noncomputable def kq60_12 (n : Nat × Nat) (m1 : Nat) : St → Option R60 := run (E60 n) (cB (cB (cB (cB (cB (cA (cA (cB (cA (cA (cB (cA (cB (cB c60)))))))))))))) (Ann.snd (Ann.snd (Ann.snd (Ann.snd (Ann.snd (Ann.fst (Ann.fst (Ann.snd (Ann.fst (Ann.fst (Ann.snd (Ann.fst (Ann.snd (Ann.snd an60)))))))))))))) (kc60_8 n m1) (xb60_9 n m1) rt60
noncomputable def kc60_13 (n : Nat × Nat) (m1 : Nat) : St → Option R60 := fun s => normC [0, 1, 6, 7, 8, 9, 10] s (kq60_12 n m1)
noncomputable def L60_1 (n : Nat × Nat) (m : Nat) (sheets0 : List (Int × Int)) (order1 : List Int) (p8 : Int) (v6 : List Int) (printed7 : List Int) : Option R60 := loopN (F60_4 n) m { tm := [.c (.sl (.pair (.int .i64) (.int .i64)) sheets0 false), .c (.sl (.int .i64) order1 false), uu, uu, uu, uu, .own 6 none false, .own 7 none false, .c (.int .i64 p8), uu, uu, uu, uu, uu, uu, uu, uu, uu, uu, uu, uu, uu, uu, uu, uu, uu, uu, uu, uu, uu, uu, uu, uu, uu, uu, uu, uu, uu, uu, uu, uu, uu, uu, uu, uu, uu, uu, uu, uu, uu, uu, uu, uu, uu, uu, uu, uu], hp := (upd (upd emp 7 (.arr (.int .i64) printed7 true)) 6 (.arr (.int .i64) v6 true)) }
theorem L60_1_eq (n : Nat × Nat) (m1 : Nat) (sheets0 : List (Int × Int)) (order1 : List Int) (p8 : Int) (v6 : List Int) (printed7 : List Int) : L60_1 n (m1 + 1) sheets0 order1 p8 v6 printed7 =
    (bif decide (p8 < (order1.length : Int)) then (idx order1 p8).bind fun x1' =>
      (idx sheets0 x1').bind fun x2' =>
      (bif decide (p8 > 0) then (bif inB (wr .i64 (p8 - 1)) v6.length then (idx v6 (wr .i64 (p8 - 1))).bind fun x3' =>
          (bif decide (v6.length + [wr .i64 (x2'.1 + x3')].length ≤ lim) then (bif decide (p8 > 0) then (bif inB (wr .i64 (p8 - 1)) printed7.length then (idx printed7 (wr .i64 (p8 - 1))).bind fun x4' =>
                (bif decide (printed7.length + [wr .i64 ((if x4' > (wr .i64 (x2'.1 + x3')) then x4' else (wr .i64 (x2'.1 + x3'))) + x2'.2)].length ≤ lim) then L60_1 n m1 sheets0 order1 (wr .i64 (p8 + 1)) (v6 ++ [wr .i64 (x2'.1 + x3')]) (printed7 ++ [wr .i64 ((if x4' > (wr .i64 (x2'.1 + x3')) then x4' else (wr .i64 (x2'.1 + x3'))) + x2'.2)])
                else none)
              else none)
            else (bif decide (printed7.length + [wr .i64 ((wr .i64 (x2'.1 + x3')) + x2'.2)].length ≤ lim) then L60_1 n m1 sheets0 order1 (wr .i64 (p8 + 1)) (v6 ++ [wr .i64 (x2'.1 + x3')]) (printed7 ++ [wr .i64 ((wr .i64 (x2'.1 + x3')) + x2'.2)])
              else none))
          else none)
        else none)
      else (bif decide (v6.length + [x2'.1].length ≤ lim) then (bif decide (p8 > 0) then (bif inB (wr .i64 (p8 - 1)) printed7.length then (idx printed7 (wr .i64 (p8 - 1))).bind fun x5' =>
              (bif decide (printed7.length + [wr .i64 ((if x5' > x2'.1 then x5' else x2'.1) + x2'.2)].length ≤ lim) then L60_1 n m1 sheets0 order1 (wr .i64 (p8 + 1)) (v6 ++ [x2'.1]) (printed7 ++ [wr .i64 ((if x5' > x2'.1 then x5' else x2'.1) + x2'.2)])
              else none)
            else none)
          else (bif decide (printed7.length + [wr .i64 (x2'.1 + x2'.2)].length ≤ lim) then L60_1 n m1 sheets0 order1 (wr .i64 (p8 + 1)) (v6 ++ [x2'.1]) (printed7 ++ [wr .i64 (x2'.1 + x2'.2)])
            else none))
        else none))
    else some (v6, printed7)) := by kernel_rfl
noncomputable def S60 (n : Nat × Nat) (sheets0 : List (Int × Int)) (order1 : List Int) : Option R60 := run (E60 n) c60 an60 rt60 (fun _ _ => none) rt60 { tm := [.c (.sl (.pair (.int .i64) (.int .i64)) sheets0 false), .c (.sl (.int .i64) order1 false), uu, uu, uu, uu, uu, uu, uu, uu, uu, uu, uu, uu, uu, uu, uu, uu, uu, uu, uu, uu, uu, uu, uu, uu, uu, uu, uu, uu, uu, uu, uu, uu, uu, uu, uu, uu, uu, uu, uu, uu, uu, uu, uu, uu, uu, uu, uu, uu, uu, uu, uu, uu, uu, uu, uu], hp := emp }
theorem S60_eq (n : Nat × Nat) (sheets0 : List (Int × Int)) (order1 : List Int) : S60 n sheets0 order1 =
    L60_1 n n.1 sheets0 order1 0 [] [] := by kernel_rfl
theorem S60_run (n : Nat × Nat) (xs : pksDen pk60) : S60 n xs.1 xs.2.1 = runG (E60 n) noScope c60 an60 (rtG rk60) (fun _ _ => none) (rtG rk60) (st0 pk60 xs Try.f60.ntmps) := by kernel_rfl
noncomputable def P60 (n : Nat × Nat) := phiOf pk60 rk60 (fun xs => S60 n xs.1 xs.2.1)
theorem call60 : CallOK Try.prog 60 := callOK_of Try.func60 (by kernel_rfl) (by kernel_rfl)
theorem env60 (n : Nat × Nat) : EnvOK Try.prog (E60 n) := envOK0 noPhi_ok rfl rfl
theorem par60 (n : Nat × Nat) : EnvPar (E60 n) := envPar0 noPhi_par rfl
theorem FC60 (n : Nat × Nat) : FCs Try.prog 60 (P60 n) := phiOf_FCs fun xs r h vs hv => FC.of_runG tabOK eqsOK (env60 n) (par60 n) mixed (fun _ => noScope_ok) Try.func60 (c := c60) (an := an60) (pks := pk60) (rks := rk60) (by kernel_rfl) (by kernel_rfl) hv ((S60_run n xs).symm.trans h)
abbrev R17 := List Int × List Int × Int
noncomputable def c17 : Code := bodyOf Try.f17
noncomputable def an17 : Ann := (.s .l (.s .l (.s (.s .l (.j [0, 1] .l .l)) .l)))
def pk17 : List PK := [.c (.sl (.pair (.int .i64) (.int .i64))), .c (.sl (.int .i64))]
def rk17 : List RK := [.own (.int .i64) 4, .own (.int .i64) 5, .c (.int .i64) 6]
noncomputable def rt17 (st : St) : Option R17 := rtG rk17 st
noncomputable def E17 (n : Nat × Nat) : Env := { T := tab, phi := (consPhi 59 (fun _ => true) (P59 n) (consPhi 60 (fun _ => true) (P60 n) noPhi)), eff := fun _ => false, fuel := n.1, hold := n.2 }
noncomputable def kq17_1 (n : Nat × Nat) : St → Option R17 := run (E17 n) (cB (cB (cB c17))) (Ann.snd (Ann.snd (Ann.snd an17))) rt17 (fun _ _ => none) rt17
noncomputable def kc17_2 (n : Nat × Nat) : St → Option R17 := fun s => normC [0, 1] s (kq17_1 n)
noncomputable def S17 (n : Nat × Nat) (sheets0 : List (Int × Int)) (order1 : List Int) : Option R17 := run (E17 n) c17 an17 rt17 (fun _ _ => none) rt17 { tm := [.c (.sl (.pair (.int .i64) (.int .i64)) sheets0 false), .c (.sl (.int .i64) order1 false), uu, uu, uu, uu, uu, uu, uu, uu, uu, uu, uu, uu, uu, uu, uu, uu, uu, uu, uu, uu, uu, uu], hp := emp }
theorem S17_eq (n : Nat × Nat) (sheets0 : List (Int × Int)) (order1 : List Int) : S17 n sheets0 order1 =
    (S59 n sheets0 order1).bind fun r1' =>
    (bif (r1' != 0) then some ([], [], r1')
    else (S60 n sheets0 order1).bind fun r2' =>
      some (r2'.1, r2'.2, 0)) := by kernel_rfl
theorem S17_run (n : Nat × Nat) (xs : pksDen pk17) : S17 n xs.1 xs.2.1 = runG (E17 n) noScope c17 an17 (rtG rk17) (fun _ _ => none) (rtG rk17) (st0 pk17 xs Try.f17.ntmps) := by kernel_rfl
noncomputable def P17 (n : Nat × Nat) := phiOf pk17 rk17 (fun xs => S17 n xs.1 xs.2.1)
theorem call17 : CallOK Try.prog 17 := callOK_of Try.func17 (by kernel_rfl) (by kernel_rfl)
theorem env17 (n : Nat × Nat) : EnvOK Try.prog (E17 n) := envOK0 (consPhi_ok (FC59 n) call59 (consPhi_ok (FC60 n) call60 noPhi_ok)) rfl rfl
theorem par17 (n : Nat × Nat) : EnvPar (E17 n) := envPar0 (consPhi_par phiOf_Par1 (consPhi_par phiOf_Par1 noPhi_par)) rfl
theorem FC17 (n : Nat × Nat) : FCs Try.prog 17 (P17 n) := phiOf_FCs fun xs r h vs hv => FC.of_runG tabOK eqsOK (env17 n) (par17 n) mixed (fun _ => noScope_ok) Try.func17 (c := c17) (an := an17) (pks := pk17) (rks := rk17) (by kernel_rfl) (by kernel_rfl) hv ((S17_run n xs).symm.trans h)
/-D 59 -/
noncomputable def DL59_2 (n : Nat × Nat) (f1 : (List (Int × Int)) → List Int → Int → Int → Option R59) (sheets0 : List (Int × Int)) (order1 : List Int) (e5 : Int) (i6 : Int) : Option R59 :=
    f1 sheets0 order1 e5 (wr .i64 (i6 + 1))
theorem DL59_2_eq (n : Nat × Nat) (hn : n.2 = 1) (m1 : Nat) : L59_2 n m1 = DL59_2 n (L59_1 n m1) := by
  funext sheets0 order1 e5 i6; refine ((held_eq hn _).trans (L59_2_raw n m1 sheets0 order1 e5 i6)).trans ?_
  unfold DL59_2
  (try simp only [S26_D n hn, S68_D n hn, S83_D n hn]) <;> first | with_reducible rfl | rfl
noncomputable def DF59_1 (n : Nat × Nat) (f1 : (List (Int × Int)) → List Int → Int → Int → Option R59) (sheets0 : List (Int × Int)) (order1 : List Int) (e5 : Int) (i6 : Int) : Option R59 :=
    ((bif (decide (i6 < (order1.length : Int)) == true) then some (e5 == 0)
      else some false)).bind fun b3' =>
    (bif b3' then (idx order1 i6).bind fun x4' =>
      (D68 n x4' 0 (wr .i64 ((sheets0.length : Int) - 1))).bind fun r5' =>
      (bif (!r5') then DL59_2 n f1 sheets0 order1 2 i6
      else (bif bounds none (some i6) none order1.length then (idx order1 i6).bind fun x6' =>
          (D83 n (order1.take (Int.toNat i6)) x6').bind fun r7' =>
          (bif r7' then DL59_2 n f1 sheets0 order1 6 i6
          else DL59_2 n f1 sheets0 order1 e5 i6)
        else none))
    else some e5)
noncomputable def DL59_1 (n : Nat × Nat) (m : Nat) : (List (Int × Int)) → List Int → Int → Int → Option R59 := Nat.rec (motive := fun _ => (List (Int × Int)) → List Int → Int → Int → Option R59) (fun _ _ _ _ => none) (fun _ ih => DF59_1 n ih) m
theorem DL59_1_succ (n : Nat × Nat) (m : Nat) : DL59_1 n (m + 1) = DF59_1 n (DL59_1 n m) := rfl
theorem DL59_1_eq (n : Nat × Nat) (hn : n.2 = 1) : ∀ m, L59_1 n m = DL59_1 n m
  | 0 => by funext sheets0 order1 e5 i6; kernel_rfl
  | m + 1 => by
    have ih := DL59_1_eq n hn m
    funext sheets0 order1 e5 i6; refine (L59_1_eq n m sheets0 order1 e5 i6).trans ?_
    rw [DL59_1_succ]
    unfold DF59_1
    (try simp only [ih, DL59_2_eq n hn, S26_D n hn, S68_D n hn, S83_D n hn]) <;> first | with_reducible rfl | rfl
noncomputable def D59 (n : Nat × Nat) (sheets0 : List (Int × Int)) (order1 : List Int) : Option R59 :=
    (D26 n sheets0).bind fun r1' =>
    ((bif ((r1' == 0) == true) then some ((order1.length : Int) != (sheets0.length : Int))
      else some false)).bind fun b2' =>
    (bif b2' then DL59_1 n n.1 sheets0 order1 5 0
    else DL59_1 n n.1 sheets0 order1 r1' 0)
theorem S59_D (n : Nat × Nat) (hn : n.2 = 1) : S59 n = D59 n := by
  funext sheets0 order1; refine (S59_eq n sheets0 order1).trans ?_
  unfold D59
  (try simp only [DL59_2_eq n hn, DL59_1_eq n hn, S26_D n hn, S68_D n hn, S83_D n hn]) <;> first | with_reducible rfl | rfl
/-D 60 -/
noncomputable def DF60_1 (n : Nat × Nat) (f1 : (List (Int × Int)) → List Int → Int → List Int → List Int → Option R60) (sheets0 : List (Int × Int)) (order1 : List Int) (p8 : Int) (v6 : List Int) (printed7 : List Int) : Option R60 :=
    (bif decide (p8 < (order1.length : Int)) then (idx order1 p8).bind fun x1' =>
      (idx sheets0 x1').bind fun x2' =>
      (bif decide (p8 > 0) then (bif inB (wr .i64 (p8 - 1)) v6.length then (idx v6 (wr .i64 (p8 - 1))).bind fun x3' =>
          (bif decide (v6.length + [wr .i64 (x2'.1 + x3')].length ≤ lim) then (bif decide (p8 > 0) then (bif inB (wr .i64 (p8 - 1)) printed7.length then (idx printed7 (wr .i64 (p8 - 1))).bind fun x4' =>
                (bif decide (printed7.length + [wr .i64 ((if x4' > (wr .i64 (x2'.1 + x3')) then x4' else (wr .i64 (x2'.1 + x3'))) + x2'.2)].length ≤ lim) then f1 sheets0 order1 (wr .i64 (p8 + 1)) (v6 ++ [wr .i64 (x2'.1 + x3')]) (printed7 ++ [wr .i64 ((if x4' > (wr .i64 (x2'.1 + x3')) then x4' else (wr .i64 (x2'.1 + x3'))) + x2'.2)])
                else none)
              else none)
            else (bif decide (printed7.length + [wr .i64 ((wr .i64 (x2'.1 + x3')) + x2'.2)].length ≤ lim) then f1 sheets0 order1 (wr .i64 (p8 + 1)) (v6 ++ [wr .i64 (x2'.1 + x3')]) (printed7 ++ [wr .i64 ((wr .i64 (x2'.1 + x3')) + x2'.2)])
              else none))
          else none)
        else none)
      else (bif decide (v6.length + [x2'.1].length ≤ lim) then (bif decide (p8 > 0) then (bif inB (wr .i64 (p8 - 1)) printed7.length then (idx printed7 (wr .i64 (p8 - 1))).bind fun x5' =>
              (bif decide (printed7.length + [wr .i64 ((if x5' > x2'.1 then x5' else x2'.1) + x2'.2)].length ≤ lim) then f1 sheets0 order1 (wr .i64 (p8 + 1)) (v6 ++ [x2'.1]) (printed7 ++ [wr .i64 ((if x5' > x2'.1 then x5' else x2'.1) + x2'.2)])
              else none)
            else none)
          else (bif decide (printed7.length + [wr .i64 (x2'.1 + x2'.2)].length ≤ lim) then f1 sheets0 order1 (wr .i64 (p8 + 1)) (v6 ++ [x2'.1]) (printed7 ++ [wr .i64 (x2'.1 + x2'.2)])
            else none))
        else none))
    else some (v6, printed7))
noncomputable def DL60_1 (n : Nat × Nat) (m : Nat) : (List (Int × Int)) → List Int → Int → List Int → List Int → Option R60 := Nat.rec (motive := fun _ => (List (Int × Int)) → List Int → Int → List Int → List Int → Option R60) (fun _ _ _ _ _ => none) (fun _ ih => DF60_1 n ih) m
theorem DL60_1_succ (n : Nat × Nat) (m : Nat) : DL60_1 n (m + 1) = DF60_1 n (DL60_1 n m) := rfl
theorem DL60_1_eq (n : Nat × Nat) (hn : n.2 = 1) : ∀ m, L60_1 n m = DL60_1 n m
  | 0 => by funext sheets0 order1 p8 v6 printed7; kernel_rfl
  | m + 1 => by
    have ih := DL60_1_eq n hn m
    funext sheets0 order1 p8 v6 printed7; refine (L60_1_eq n m sheets0 order1 p8 v6 printed7).trans ?_
    rw [DL60_1_succ]
    unfold DF60_1
    (try simp only [ih]) <;> first | with_reducible rfl | rfl
noncomputable def D60 (n : Nat × Nat) (sheets0 : List (Int × Int)) (order1 : List Int) : Option R60 :=
    DL60_1 n n.1 sheets0 order1 0 [] []
theorem S60_D (n : Nat × Nat) (hn : n.2 = 1) : S60 n = D60 n := by
  funext sheets0 order1; refine (S60_eq n sheets0 order1).trans ?_
  unfold D60
  (try simp only [DL60_1_eq n hn]) <;> first | with_reducible rfl | rfl
/-D 17 -/
noncomputable def D17 (n : Nat × Nat) (sheets0 : List (Int × Int)) (order1 : List Int) : Option R17 :=
    (D59 n sheets0 order1).bind fun r1' =>
    (bif (r1' != 0) then some ([], [], r1')
    else (D60 n sheets0 order1).bind fun r2' =>
      some (r2'.1, r2'.2, 0))
theorem S17_D (n : Nat × Nat) (hn : n.2 = 1) : S17 n = D17 n := by
  funext sheets0 order1; refine (S17_eq n sheets0 order1).trans ?_
  unfold D17
  (try simp only [S59_D n hn, S60_D n hn]) <;> first | with_reducible rfl | rfl
abbrev R62 := Int
noncomputable def c62 : Code := bodyOf Try.f62
noncomputable def an62 : Ann := .l
def pk62 : List PK := [.c (.sl (.pair (.int .i64) (.int .i64))), .c (.sl (.int .i64))]
def rk62 : List RK := [.c (.int .i64) 4]
noncomputable def rt62 (st : St) : Option R62 := rtG rk62 st
noncomputable def E62 (n : Nat × Nat) : Env := { T := tab, phi := (consPhi 60 (fun _ => true) (P60 n) noPhi), eff := fun _ => false, fuel := n.1, hold := n.2 }
noncomputable def S62 (n : Nat × Nat) (sheets0 : List (Int × Int)) (order1 : List Int) : Option R62 := run (E62 n) c62 an62 rt62 (fun _ _ => none) rt62 { tm := [.c (.sl (.pair (.int .i64) (.int .i64)) sheets0 false), .c (.sl (.int .i64) order1 false), uu, uu, uu, uu, uu, uu, uu, uu, uu, uu, uu, uu, uu, uu, uu, uu, uu], hp := emp }
theorem S62_eq (n : Nat × Nat) (sheets0 : List (Int × Int)) (order1 : List Int) : S62 n sheets0 order1 =
    (S60 n sheets0 order1).bind fun r1' =>
    (bif inB (wr .i64 ((r1'.2.length : Int) - 1)) r1'.2.length then (idx r1'.2 (wr .i64 ((r1'.2.length : Int) - 1))).bind fun x2' =>
      some x2'
    else none) := by kernel_rfl
theorem S62_run (n : Nat × Nat) (xs : pksDen pk62) : S62 n xs.1 xs.2.1 = runG (E62 n) noScope c62 an62 (rtG rk62) (fun _ _ => none) (rtG rk62) (st0 pk62 xs Try.f62.ntmps) := by kernel_rfl
noncomputable def P62 (n : Nat × Nat) := phiOf pk62 rk62 (fun xs => S62 n xs.1 xs.2.1)
theorem call62 : CallOK Try.prog 62 := callOK_of Try.func62 (by kernel_rfl) (by kernel_rfl)
theorem env62 (n : Nat × Nat) : EnvOK Try.prog (E62 n) := envOK0 (consPhi_ok (FC60 n) call60 noPhi_ok) rfl rfl
theorem par62 (n : Nat × Nat) : EnvPar (E62 n) := envPar0 (consPhi_par phiOf_Par1 noPhi_par) rfl
theorem FC62 (n : Nat × Nat) : FCs Try.prog 62 (P62 n) := phiOf_FCs fun xs r h vs hv => FC.of_runG tabOK eqsOK (env62 n) (par62 n) mixed (fun _ => noScope_ok) Try.func62 (c := c62) (an := an62) (pks := pk62) (rks := rk62) (by kernel_rfl) (by kernel_rfl) hv ((S62_run n xs).symm.trans h)
abbrev R20 := Int × Int
noncomputable def c20 : Code := bodyOf Try.f20
noncomputable def an20 : Ann := (.s .l (.s .l (.s (.s .l (.j [0, 1] .l .l)) .l)))
def pk20 : List PK := [.c (.sl (.pair (.int .i64) (.int .i64))), .c (.sl (.int .i64))]
def rk20 : List RK := [.c (.int .i64) 4, .c (.int .i64) 5]
noncomputable def rt20 (st : St) : Option R20 := rtG rk20 st
noncomputable def E20 (n : Nat × Nat) : Env := { T := tab, phi := (consPhi 59 (fun _ => true) (P59 n) (consPhi 62 (fun _ => true) (P62 n) noPhi)), eff := fun _ => false, fuel := n.1, hold := n.2 }
noncomputable def kq20_1 (n : Nat × Nat) : St → Option R20 := run (E20 n) (cB (cB (cB c20))) (Ann.snd (Ann.snd (Ann.snd an20))) rt20 (fun _ _ => none) rt20
noncomputable def kc20_2 (n : Nat × Nat) : St → Option R20 := fun s => normC [0, 1] s (kq20_1 n)
noncomputable def S20 (n : Nat × Nat) (sheets0 : List (Int × Int)) (order1 : List Int) : Option R20 := run (E20 n) c20 an20 rt20 (fun _ _ => none) rt20 { tm := [.c (.sl (.pair (.int .i64) (.int .i64)) sheets0 false), .c (.sl (.int .i64) order1 false), uu, uu, uu, uu, uu, uu, uu, uu, uu, uu, uu, uu, uu, uu], hp := emp }
theorem S20_eq (n : Nat × Nat) (sheets0 : List (Int × Int)) (order1 : List Int) : S20 n sheets0 order1 =
    (S59 n sheets0 order1).bind fun r1' =>
    (bif (r1' != 0) then some (0, r1')
    else (S62 n sheets0 order1).bind fun r2' =>
      some (r2', 0)) := by kernel_rfl
theorem S20_run (n : Nat × Nat) (xs : pksDen pk20) : S20 n xs.1 xs.2.1 = runG (E20 n) noScope c20 an20 (rtG rk20) (fun _ _ => none) (rtG rk20) (st0 pk20 xs Try.f20.ntmps) := by kernel_rfl
noncomputable def P20 (n : Nat × Nat) := phiOf pk20 rk20 (fun xs => S20 n xs.1 xs.2.1)
theorem call20 : CallOK Try.prog 20 := callOK_of Try.func20 (by kernel_rfl) (by kernel_rfl)
theorem env20 (n : Nat × Nat) : EnvOK Try.prog (E20 n) := envOK0 (consPhi_ok (FC59 n) call59 (consPhi_ok (FC62 n) call62 noPhi_ok)) rfl rfl
theorem par20 (n : Nat × Nat) : EnvPar (E20 n) := envPar0 (consPhi_par phiOf_Par1 (consPhi_par phiOf_Par1 noPhi_par)) rfl
theorem FC20 (n : Nat × Nat) : FCs Try.prog 20 (P20 n) := phiOf_FCs fun xs r h vs hv => FC.of_runG tabOK eqsOK (env20 n) (par20 n) mixed (fun _ => noScope_ok) Try.func20 (c := c20) (an := an20) (pks := pk20) (rks := rk20) (by kernel_rfl) (by kernel_rfl) hv ((S20_run n xs).symm.trans h)
/-D 62 -/
noncomputable def D62 (n : Nat × Nat) (sheets0 : List (Int × Int)) (order1 : List Int) : Option R62 :=
    (D60 n sheets0 order1).bind fun r1' =>
    (bif inB (wr .i64 ((r1'.2.length : Int) - 1)) r1'.2.length then (idx r1'.2 (wr .i64 ((r1'.2.length : Int) - 1))).bind fun x2' =>
      some x2'
    else none)
theorem S62_D (n : Nat × Nat) (hn : n.2 = 1) : S62 n = D62 n := by
  funext sheets0 order1; refine (S62_eq n sheets0 order1).trans ?_
  unfold D62
  (try simp only [S60_D n hn]) <;> first | with_reducible rfl | rfl
/-D 20 -/
noncomputable def D20 (n : Nat × Nat) (sheets0 : List (Int × Int)) (order1 : List Int) : Option R20 :=
    (D59 n sheets0 order1).bind fun r1' =>
    (bif (r1' != 0) then some (0, r1')
    else (D62 n sheets0 order1).bind fun r2' =>
      some (r2', 0))
theorem S20_D (n : Nat × Nat) (hn : n.2 = 1) : S20 n = D20 n := by
  funext sheets0 order1; refine (S20_eq n sheets0 order1).trans ?_
  unfold D20
  (try simp only [S59_D n hn, S62_D n hn]) <;> first | with_reducible rfl | rfl
abbrev R22 := Int × Int
noncomputable def c22 : Code := bodyOf Try.f22
noncomputable def an22 : Ann := (.s .l (.s .l (.s (.s .l (.j [0, 1] .l .l)) (.s .l (.s (.s .l (.j [7] (.j [0, 7, 8] (.s (.s .l (.j [0, 7, 8] .l .l)) (.s (.j [0, 7, 8] .l .l) .l)) .l) .l)) .l)))))
def pk22 : List PK := [.c (.sl (.pair (.int .i64) (.int .i64))), .c (.sl (.int .i64))]
def rk22 : List RK := [.c (.int .i64) 4, .c (.int .i64) 5]
noncomputable def rt22 (st : St) : Option R22 := rtG rk22 st
noncomputable def E22 (n : Nat × Nat) : Env := { T := tab, phi := (consPhi 59 (fun _ => true) (P59 n) (consPhi 62 (fun _ => true) (P62 n) noPhi)), eff := fun _ => false, fuel := n.1, hold := n.2 }
noncomputable def kq22_1 (n : Nat × Nat) : St → Option R22 := run (E22 n) (cB (cB (cB c22))) (Ann.snd (Ann.snd (Ann.snd an22))) rt22 (fun _ _ => none) rt22
noncomputable def kc22_2 (n : Nat × Nat) : St → Option R22 := fun s => normC [0, 1] s (kq22_1 n)
noncomputable def kq22_3 (n : Nat × Nat) : St → Option R22 := run (E22 n) (cB (cB (cB (cB (cB c22))))) (Ann.snd (Ann.snd (Ann.snd (Ann.snd (Ann.snd an22))))) rt22 (fun _ _ => none) rt22
noncomputable def kc22_4 (n : Nat × Nat) : St → Option R22 := fun s => normC [7] s (kq22_3 n)
noncomputable def xb22_5 (n : Nat × Nat) : Nat → St → Option R22 := fun j s => bif Nat.beq j 0 then normC [7] s (kq22_3 n) else (fun _ _ => none) j s
noncomputable def F22_6 (n : Nat × Nat) : (St → Option R22) → St → Option R22 := fun K s => run (E22 n) (cA (cA (cB (cA (cB (cB (cB (cB c22)))))))) (Ann.fst (Ann.fst (Ann.snd (Ann.fst (Ann.snd (Ann.snd (Ann.snd (Ann.snd an22)))))))) (fun s => normC [0, 7, 8] s K) (xb22_5 n) rt22 s
noncomputable def kq22_7 (n : Nat × Nat) (m1 : Nat) : St → Option R22 := run (E22 n) (cB (cA (cA (cB (cA (cB (cB (cB (cB c22))))))))) (Ann.snd (Ann.fst (Ann.fst (Ann.snd (Ann.fst (Ann.snd (Ann.snd (Ann.snd (Ann.snd an22))))))))) (fun s => normC [0, 7, 8] s (loopN (F22_6 n) m1)) (xb22_5 n) rt22
noncomputable def kc22_8 (n : Nat × Nat) (m1 : Nat) : St → Option R22 := fun s => normC [0, 7, 8] s (kq22_7 n m1)
noncomputable def kq22_9 (n : Nat × Nat) (m1 : Nat) : St → Option R22 := run (E22 n) (cB (cB (cA (cA (cB (cA (cB (cB (cB (cB c22)))))))))) (Ann.snd (Ann.snd (Ann.fst (Ann.fst (Ann.snd (Ann.fst (Ann.snd (Ann.snd (Ann.snd (Ann.snd an22)))))))))) (fun s => normC [0, 7, 8] s (loopN (F22_6 n) m1)) (xb22_5 n) rt22
noncomputable def kc22_10 (n : Nat × Nat) (m1 : Nat) : St → Option R22 := fun s => normC [0, 7, 8] s (kq22_9 n m1)
noncomputable def xb22_11 (n : Nat × Nat) (m1 : Nat) : Nat → St → Option R22 := fun j s => bif Nat.beq j 1 then normC [0, 7, 8] s (kq22_9 n m1) else (xb22_5 n) j s
noncomputable def L22_1 (n : Nat × Nat) (m : Nat) (sheets0 : List (Int × Int)) (v7 : Int) (i8 : Int) : Option R22 := loopN (F22_6 n) m { tm := [.c (.sl (.pair (.int .i64) (.int .i64)) sheets0 false), uu, uu, uu, uu, uu, uu, .c (.int .i64 v7), .c (.int .i64 i8), uu, uu, uu, uu, uu, uu, uu, uu, uu, uu, uu, uu, uu, uu, uu, uu, uu, uu, uu, uu, uu, uu, uu], hp := emp }
theorem L22_1_eq (n : Nat × Nat) (m1 : Nat) (sheets0 : List (Int × Int)) (v7 : Int) (i8 : Int) : L22_1 n (m1 + 1) sheets0 v7 i8 =
    (bif decide (i8 < (sheets0.length : Int)) then (idx sheets0 i8).bind fun x3' =>
      L22_1 n m1 sheets0 (wr .i64 (v7 - x3'.2)) (wr .i64 (i8 + 1))
    else some (v7, 0)) := by kernel_rfl
noncomputable def S22 (n : Nat × Nat) (sheets0 : List (Int × Int)) (order1 : List Int) : Option R22 := run (E22 n) c22 an22 rt22 (fun _ _ => none) rt22 { tm := [.c (.sl (.pair (.int .i64) (.int .i64)) sheets0 false), .c (.sl (.int .i64) order1 false), uu, uu, uu, uu, uu, uu, uu, uu, uu, uu, uu, uu, uu, uu, uu, uu, uu, uu, uu, uu, uu, uu, uu, uu, uu, uu, uu, uu, uu, uu], hp := emp }
theorem S22_eq (n : Nat × Nat) (sheets0 : List (Int × Int)) (order1 : List Int) : S22 n sheets0 order1 =
    (S59 n sheets0 order1).bind fun r1' =>
    (bif (r1' != 0) then some (0, r1')
    else (S62 n sheets0 order1).bind fun r2' =>
      L22_1 n n.1 sheets0 r2' 0) := by kernel_rfl
theorem S22_run (n : Nat × Nat) (xs : pksDen pk22) : S22 n xs.1 xs.2.1 = runG (E22 n) noScope c22 an22 (rtG rk22) (fun _ _ => none) (rtG rk22) (st0 pk22 xs Try.f22.ntmps) := by kernel_rfl
noncomputable def P22 (n : Nat × Nat) := phiOf pk22 rk22 (fun xs => S22 n xs.1 xs.2.1)
theorem call22 : CallOK Try.prog 22 := callOK_of Try.func22 (by kernel_rfl) (by kernel_rfl)
theorem env22 (n : Nat × Nat) : EnvOK Try.prog (E22 n) := envOK0 (consPhi_ok (FC59 n) call59 (consPhi_ok (FC62 n) call62 noPhi_ok)) rfl rfl
theorem par22 (n : Nat × Nat) : EnvPar (E22 n) := envPar0 (consPhi_par phiOf_Par1 (consPhi_par phiOf_Par1 noPhi_par)) rfl
theorem FC22 (n : Nat × Nat) : FCs Try.prog 22 (P22 n) := phiOf_FCs fun xs r h vs hv => FC.of_runG tabOK eqsOK (env22 n) (par22 n) mixed (fun _ => noScope_ok) Try.func22 (c := c22) (an := an22) (pks := pk22) (rks := rk22) (by kernel_rfl) (by kernel_rfl) hv ((S22_run n xs).symm.trans h)
/-D 22 -/
noncomputable def DF22_1 (n : Nat × Nat) (f1 : (List (Int × Int)) → Int → Int → Option R22) (sheets0 : List (Int × Int)) (v7 : Int) (i8 : Int) : Option R22 :=
    (bif decide (i8 < (sheets0.length : Int)) then (idx sheets0 i8).bind fun x3' =>
      f1 sheets0 (wr .i64 (v7 - x3'.2)) (wr .i64 (i8 + 1))
    else some (v7, 0))
noncomputable def DL22_1 (n : Nat × Nat) (m : Nat) : (List (Int × Int)) → Int → Int → Option R22 := Nat.rec (motive := fun _ => (List (Int × Int)) → Int → Int → Option R22) (fun _ _ _ => none) (fun _ ih => DF22_1 n ih) m
theorem DL22_1_succ (n : Nat × Nat) (m : Nat) : DL22_1 n (m + 1) = DF22_1 n (DL22_1 n m) := rfl
theorem DL22_1_eq (n : Nat × Nat) (hn : n.2 = 1) : ∀ m, L22_1 n m = DL22_1 n m
  | 0 => by funext sheets0 v7 i8; kernel_rfl
  | m + 1 => by
    have ih := DL22_1_eq n hn m
    funext sheets0 v7 i8; refine (L22_1_eq n m sheets0 v7 i8).trans ?_
    rw [DL22_1_succ]
    unfold DF22_1
    (try simp only [ih, S59_D n hn, S62_D n hn]) <;> first | with_reducible rfl | rfl
noncomputable def D22 (n : Nat × Nat) (sheets0 : List (Int × Int)) (order1 : List Int) : Option R22 :=
    (D59 n sheets0 order1).bind fun r1' =>
    (bif (r1' != 0) then some (0, r1')
    else (D62 n sheets0 order1).bind fun r2' =>
      DL22_1 n n.1 sheets0 r2' 0)
theorem S22_D (n : Nat × Nat) (hn : n.2 = 1) : S22 n = D22 n := by
  funext sheets0 order1; refine (S22_eq n sheets0 order1).trans ?_
  unfold D22
  (try simp only [DL22_1_eq n hn, S59_D n hn, S62_D n hn]) <;> first | with_reducible rfl | rfl
abbrev R67 := Int
noncomputable def c67 : Code := bodyOf Try.f67
noncomputable def an67 : Ann := (.s .l (.s .l (.s (.s .l (.j [7] (.j [0, 1, 2, 7, 8] (.s (.s .l (.j [0, 1, 2, 7, 8] .l .l)) (.j [] (.j [0, 1, 2, 7, 8] (.s (.s .l (.j [0, 1, 2, 7, 8] .l .l)) (.s .l (.j [0, 1, 2, 7, 8] .l .l))) .l) .l)) .l) .l)) .l)))
def pk67 : List PK := [.c (.sl (.pair (.int .i64) (.int .i64))), .c (.sl (.int .i64)), .c (.int .i64)]
def rk67 : List RK := [.c (.int .i64) 6]
noncomputable def rt67 (st : St) : Option R67 := rtG rk67 st
noncomputable def E67 (n : Nat × Nat) : Env := { T := tab, phi := noPhi, eff := fun _ => false, fuel := n.1, hold := n.2 }
noncomputable def kq67_1 (n : Nat × Nat) : St → Option R67 := run (E67 n) (cB (cB (cB c67))) (Ann.snd (Ann.snd (Ann.snd an67))) rt67 (fun _ _ => none) rt67
noncomputable def kc67_2 (n : Nat × Nat) : St → Option R67 := fun s => normC [7] s (kq67_1 n)
noncomputable def xb67_3 (n : Nat × Nat) : Nat → St → Option R67 := fun j s => bif Nat.beq j 0 then normC [7] s (kq67_1 n) else (fun _ _ => none) j s
noncomputable def F67_4 (n : Nat × Nat) : (St → Option R67) → St → Option R67 := fun K s => run (E67 n) (cA (cA (cB (cA (cB (cB c67)))))) (Ann.fst (Ann.fst (Ann.snd (Ann.fst (Ann.snd (Ann.snd an67)))))) (fun s => normC [0, 1, 2, 7, 8] s K) (xb67_3 n) rt67 s
noncomputable def kq67_5 (n : Nat × Nat) (m1 : Nat) : St → Option R67 := run (E67 n) (cB (cA (cA (cB (cA (cB (cB c67))))))) (Ann.snd (Ann.fst (Ann.fst (Ann.snd (Ann.fst (Ann.snd (Ann.snd an67))))))) (fun s => normC [0, 1, 2, 7, 8] s (loopN (F67_4 n) m1)) (xb67_3 n) rt67
noncomputable def kc67_6 (n : Nat × Nat) (m1 : Nat) : St → Option R67 := fun s => normC [0, 1, 2, 7, 8] s (kq67_5 n m1)
noncomputable def kq67_7 (n : Nat × Nat) (m1 : Nat) : St → Option R67 := run (E67 n) (cB (cB (cA (cA (cB (cA (cB (cB c67)))))))) (Ann.snd (Ann.snd (Ann.fst (Ann.fst (Ann.snd (Ann.fst (Ann.snd (Ann.snd an67)))))))) (fun s => normC [0, 1, 2, 7, 8] s (loopN (F67_4 n) m1)) (xb67_3 n) rt67
noncomputable def kc67_8 (n : Nat × Nat) (m1 : Nat) : St → Option R67 := fun s => normC [0, 1, 2, 7, 8] s (loopN (fun _ => (kq67_7 n m1)) n.2)
noncomputable def xb67_9 (n : Nat × Nat) (m1 : Nat) : Nat → St → Option R67 := fun j s => bif Nat.beq j 1 then normC [0, 1, 2, 7, 8] s (loopN (fun _ => (kq67_7 n m1)) n.2) else (xb67_3 n) j s
noncomputable def kq67_10 (n : Nat × Nat) (m1 : Nat) : St → Option R67 := run (E67 n) (cB (cA (cA (cB (cA (cA (cB (cA (cB (cB c67)))))))))) (Ann.snd (Ann.fst (Ann.fst (Ann.snd (Ann.fst (Ann.fst (Ann.snd (Ann.fst (Ann.snd (Ann.snd an67)))))))))) (kc67_8 n m1) (xb67_9 n m1) rt67
noncomputable def kc67_11 (n : Nat × Nat) (m1 : Nat) : St → Option R67 := fun s => normC [0, 1, 2, 7, 8] s (kq67_10 n m1)
noncomputable def kc67_12 (n : Nat × Nat) (m1 : Nat) : St → Option R67 := fun s => normC [0, 1, 2, 7, 8] s (kc67_8 n m1)
noncomputable def L67_1 (n : Nat × Nat) (m : Nat) (sheets0 : List (Int × Int)) (order1 : List Int) (place2 : Int) (v7 : Int) (p8 : Int) : Option R67 := loopN (F67_4 n) m { tm := [.c (.sl (.pair (.int .i64) (.int .i64)) sheets0 false), .c (.sl (.int .i64) order1 false), .c (.int .i64 place2), uu, uu, uu, uu, .c (.int .i64 v7), .c (.int .i64 p8), uu, uu, uu, uu, uu, uu, uu, uu, uu, uu, uu, uu, uu, uu, uu, uu, uu, uu, uu, uu, uu, uu, uu, uu, uu, uu, uu, uu, uu, uu, uu, uu, uu], hp := emp }
noncomputable def L67_2 (n : Nat × Nat) (m1 : Nat) (sheets0 : List (Int × Int)) (order1 : List Int) (place2 : Int) (v7 : Int) (p8 : Int) : Option R67 := loopN (fun _ => (kq67_7 n m1)) n.2 { tm := [.c (.sl (.pair (.int .i64) (.int .i64)) sheets0 false), .c (.sl (.int .i64) order1 false), .c (.int .i64 place2), uu, uu, uu, uu, .c (.int .i64 v7), .c (.int .i64 p8), uu, uu, uu, uu, uu, uu, uu, uu, uu, uu, uu, uu, uu, uu, uu, uu, uu, uu, uu, uu, uu, uu, uu, uu, uu, uu, uu, uu, uu, uu, uu, uu, uu], hp := emp }
theorem L67_1_eq (n : Nat × Nat) (m1 : Nat) (sheets0 : List (Int × Int)) (order1 : List Int) (place2 : Int) (v7 : Int) (p8 : Int) : L67_1 n (m1 + 1) sheets0 order1 place2 v7 p8 =
    (bif decide (p8 < (order1.length : Int)) then (bif decide (p8 ≤ place2) then (idx order1 p8).bind fun x1' =>
        (idx sheets0 x1').bind fun x2' =>
        (bif decide (p8 ≥ place2) then (idx order1 p8).bind fun x3' =>
          (idx sheets0 x3').bind fun x4' =>
          L67_2 n m1 sheets0 order1 place2 (wr .i64 ((wr .i64 (v7 + x2'.1)) + x4'.2)) p8
        else L67_2 n m1 sheets0 order1 place2 (wr .i64 (v7 + x2'.1)) p8)
      else (bif decide (p8 ≥ place2) then (idx order1 p8).bind fun x5' =>
          (idx sheets0 x5').bind fun x6' =>
          L67_2 n m1 sheets0 order1 place2 (wr .i64 (v7 + x6'.2)) p8
        else L67_2 n m1 sheets0 order1 place2 v7 p8))
    else some v7) := by kernel_rfl
theorem L67_2_raw (n : Nat × Nat) (m1 : Nat) (sheets0 : List (Int × Int)) (order1 : List Int) (place2 : Int) (v7 : Int) (p8 : Int) : (kq67_7 n m1) { tm := [.c (.sl (.pair (.int .i64) (.int .i64)) sheets0 false), .c (.sl (.int .i64) order1 false), .c (.int .i64 place2), uu, uu, uu, uu, .c (.int .i64 v7), .c (.int .i64 p8), uu, uu, uu, uu, uu, uu, uu, uu, uu, uu, uu, uu, uu, uu, uu, uu, uu, uu, uu, uu, uu, uu, uu, uu, uu, uu, uu, uu, uu, uu, uu, uu, uu], hp := emp } =
    L67_1 n m1 sheets0 order1 place2 v7 (wr .i64 (p8 + 1)) := by kernel_rfl
noncomputable def S67 (n : Nat × Nat) (sheets0 : List (Int × Int)) (order1 : List Int) (place2 : Int) : Option R67 := run (E67 n) c67 an67 rt67 (fun _ _ => none) rt67 { tm := [.c (.sl (.pair (.int .i64) (.int .i64)) sheets0 false), .c (.sl (.int .i64) order1 false), .c (.int .i64 place2), uu, uu, uu, uu, uu, uu, uu, uu, uu, uu, uu, uu, uu, uu, uu, uu, uu, uu, uu, uu, uu, uu, uu, uu, uu, uu, uu, uu, uu, uu, uu, uu, uu, uu, uu, uu, uu, uu, uu], hp := emp }
theorem S67_eq (n : Nat × Nat) (sheets0 : List (Int × Int)) (order1 : List Int) (place2 : Int) : S67 n sheets0 order1 place2 =
    L67_1 n n.1 sheets0 order1 place2 0 0 := by kernel_rfl
theorem S67_run (n : Nat × Nat) (xs : pksDen pk67) : S67 n xs.1 xs.2.1 xs.2.2.1 = runG (E67 n) noScope c67 an67 (rtG rk67) (fun _ _ => none) (rtG rk67) (st0 pk67 xs Try.f67.ntmps) := by kernel_rfl
noncomputable def P67 (n : Nat × Nat) := phiOf pk67 rk67 (fun xs => S67 n xs.1 xs.2.1 xs.2.2.1)
theorem call67 : CallOK Try.prog 67 := callOK_of Try.func67 (by kernel_rfl) (by kernel_rfl)
theorem env67 (n : Nat × Nat) : EnvOK Try.prog (E67 n) := envOK0 noPhi_ok rfl rfl
theorem par67 (n : Nat × Nat) : EnvPar (E67 n) := envPar0 noPhi_par rfl
theorem FC67 (n : Nat × Nat) : FCs Try.prog 67 (P67 n) := phiOf_FCs fun xs r h vs hv => FC.of_runG tabOK eqsOK (env67 n) (par67 n) mixed (fun _ => noScope_ok) Try.func67 (c := c67) (an := an67) (pks := pk67) (rks := rk67) (by kernel_rfl) (by kernel_rfl) hv ((S67_run n xs).symm.trans h)
abbrev R24 := Int × Int
noncomputable def c24 : Code := bodyOf Try.f24
noncomputable def an24 : Ann := (.s .l (.s .l (.s (.s .l (.j [0, 1] .l .l)) (.s .l (.s (.j [7] (.j [0, 1, 7] (.s (.s .l (.j [0, 1, 7] .l .l)) (.j [0, 1, 7] .l .l)) .l) .l) .l)))))
def pk24 : List PK := [.c (.sl (.pair (.int .i64) (.int .i64))), .c (.sl (.int .i64))]
def rk24 : List RK := [.c (.int .i64) 4, .c (.int .i64) 5]
noncomputable def rt24 (st : St) : Option R24 := rtG rk24 st
noncomputable def E24 (n : Nat × Nat) : Env := { T := tab, phi := (consPhi 59 (fun _ => true) (P59 n) (consPhi 62 (fun _ => true) (P62 n) (consPhi 67 (fun _ => true) (P67 n) noPhi))), eff := fun _ => false, fuel := n.1, hold := n.2 }
noncomputable def kq24_1 (n : Nat × Nat) : St → Option R24 := run (E24 n) (cB (cB (cB c24))) (Ann.snd (Ann.snd (Ann.snd an24))) rt24 (fun _ _ => none) rt24
noncomputable def kc24_2 (n : Nat × Nat) : St → Option R24 := fun s => normC [0, 1] s (kq24_1 n)
noncomputable def kq24_3 (n : Nat × Nat) : St → Option R24 := run (E24 n) (cB (cB (cB (cB (cB c24))))) (Ann.snd (Ann.snd (Ann.snd (Ann.snd (Ann.snd an24))))) rt24 (fun _ _ => none) rt24
noncomputable def kc24_4 (n : Nat × Nat) : St → Option R24 := fun s => normC [7] s (kq24_3 n)
noncomputable def xb24_5 (n : Nat × Nat) : Nat → St → Option R24 := fun j s => bif Nat.beq j 0 then normC [7] s (kq24_3 n) else (fun _ _ => none) j s
noncomputable def F24_6 (n : Nat × Nat) : (St → Option R24) → St → Option R24 := fun K s => run (E24 n) (cA (cA (cA (cB (cB (cB (cB c24))))))) (Ann.fst (Ann.fst (Ann.fst (Ann.snd (Ann.snd (Ann.snd (Ann.snd an24))))))) (fun s => normC [0, 1, 7] s K) (xb24_5 n) rt24 s
noncomputable def kq24_7 (n : Nat × Nat) (m1 : Nat) : St → Option R24 := run (E24 n) (cB (cA (cA (cA (cB (cB (cB (cB c24)))))))) (Ann.snd (Ann.fst (Ann.fst (Ann.fst (Ann.snd (Ann.snd (Ann.snd (Ann.snd an24)))))))) (fun s => normC [0, 1, 7] s (loopN (F24_6 n) m1)) (xb24_5 n) rt24
noncomputable def kc24_8 (n : Nat × Nat) (m1 : Nat) : St → Option R24 := fun s => normC [0, 1, 7] s (kq24_7 n m1)
noncomputable def kc24_9 (n : Nat × Nat) (m1 : Nat) : St → Option R24 := fun s => normC [0, 1, 7] s (fun s => normC [0, 1, 7] s (loopN (F24_6 n) m1))
noncomputable def xb24_10 (n : Nat × Nat) (m1 : Nat) : Nat → St → Option R24 := fun j s => bif Nat.beq j 1 then normC [0, 1, 7] s (fun s => normC [0, 1, 7] s (loopN (F24_6 n) m1)) else (xb24_5 n) j s
noncomputable def L24_1 (n : Nat × Nat) (m : Nat) (sheets0 : List (Int × Int)) (order1 : List Int) (p7 : Int) : Option R24 := loopN (F24_6 n) m { tm := [.c (.sl (.pair (.int .i64) (.int .i64)) sheets0 false), .c (.sl (.int .i64) order1 false), uu, uu, uu, uu, uu, .c (.int .i64 p7), uu, uu, uu, uu, uu, uu, uu, uu, uu, uu, uu, uu, uu, uu, uu, uu, uu], hp := emp }
theorem L24_1_eq (n : Nat × Nat) (m1 : Nat) (sheets0 : List (Int × Int)) (order1 : List Int) (p7 : Int) : L24_1 n (m1 + 1) sheets0 order1 p7 =
    (S67 n sheets0 order1 p7).bind fun r2' =>
    (S62 n sheets0 order1).bind fun r3' =>
    (bif (r2' != r3') then L24_1 n m1 sheets0 order1 (wr .i64 (p7 + 1))
    else some (p7, 0)) := by kernel_rfl
noncomputable def S24 (n : Nat × Nat) (sheets0 : List (Int × Int)) (order1 : List Int) : Option R24 := run (E24 n) c24 an24 rt24 (fun _ _ => none) rt24 { tm := [.c (.sl (.pair (.int .i64) (.int .i64)) sheets0 false), .c (.sl (.int .i64) order1 false), uu, uu, uu, uu, uu, uu, uu, uu, uu, uu, uu, uu, uu, uu, uu, uu, uu, uu, uu, uu, uu, uu, uu], hp := emp }
theorem S24_eq (n : Nat × Nat) (sheets0 : List (Int × Int)) (order1 : List Int) : S24 n sheets0 order1 =
    (S59 n sheets0 order1).bind fun r1' =>
    (bif (r1' != 0) then some (0, r1')
    else L24_1 n n.1 sheets0 order1 0) := by kernel_rfl
theorem S24_run (n : Nat × Nat) (xs : pksDen pk24) : S24 n xs.1 xs.2.1 = runG (E24 n) noScope c24 an24 (rtG rk24) (fun _ _ => none) (rtG rk24) (st0 pk24 xs Try.f24.ntmps) := by kernel_rfl
noncomputable def P24 (n : Nat × Nat) := phiOf pk24 rk24 (fun xs => S24 n xs.1 xs.2.1)
theorem call24 : CallOK Try.prog 24 := callOK_of Try.func24 (by kernel_rfl) (by kernel_rfl)
theorem env24 (n : Nat × Nat) : EnvOK Try.prog (E24 n) := envOK0 (consPhi_ok (FC59 n) call59 (consPhi_ok (FC62 n) call62 (consPhi_ok (FC67 n) call67 noPhi_ok))) rfl rfl
theorem par24 (n : Nat × Nat) : EnvPar (E24 n) := envPar0 (consPhi_par phiOf_Par1 (consPhi_par phiOf_Par1 (consPhi_par phiOf_Par1 noPhi_par))) rfl
theorem FC24 (n : Nat × Nat) : FCs Try.prog 24 (P24 n) := phiOf_FCs fun xs r h vs hv => FC.of_runG tabOK eqsOK (env24 n) (par24 n) mixed (fun _ => noScope_ok) Try.func24 (c := c24) (an := an24) (pks := pk24) (rks := rk24) (by kernel_rfl) (by kernel_rfl) hv ((S24_run n xs).symm.trans h)
/-D 67 -/
noncomputable def DL67_2 (n : Nat × Nat) (f1 : (List (Int × Int)) → List Int → Int → Int → Int → Option R67) (sheets0 : List (Int × Int)) (order1 : List Int) (place2 : Int) (v7 : Int) (p8 : Int) : Option R67 :=
    f1 sheets0 order1 place2 v7 (wr .i64 (p8 + 1))
theorem DL67_2_eq (n : Nat × Nat) (hn : n.2 = 1) (m1 : Nat) : L67_2 n m1 = DL67_2 n (L67_1 n m1) := by
  funext sheets0 order1 place2 v7 p8; refine ((held_eq hn _).trans (L67_2_raw n m1 sheets0 order1 place2 v7 p8)).trans ?_
  unfold DL67_2
  first | with_reducible rfl | rfl
noncomputable def DF67_1 (n : Nat × Nat) (f1 : (List (Int × Int)) → List Int → Int → Int → Int → Option R67) (sheets0 : List (Int × Int)) (order1 : List Int) (place2 : Int) (v7 : Int) (p8 : Int) : Option R67 :=
    (bif decide (p8 < (order1.length : Int)) then (bif decide (p8 ≤ place2) then (idx order1 p8).bind fun x1' =>
        (idx sheets0 x1').bind fun x2' =>
        (bif decide (p8 ≥ place2) then (idx order1 p8).bind fun x3' =>
          (idx sheets0 x3').bind fun x4' =>
          DL67_2 n f1 sheets0 order1 place2 (wr .i64 ((wr .i64 (v7 + x2'.1)) + x4'.2)) p8
        else DL67_2 n f1 sheets0 order1 place2 (wr .i64 (v7 + x2'.1)) p8)
      else (bif decide (p8 ≥ place2) then (idx order1 p8).bind fun x5' =>
          (idx sheets0 x5').bind fun x6' =>
          DL67_2 n f1 sheets0 order1 place2 (wr .i64 (v7 + x6'.2)) p8
        else DL67_2 n f1 sheets0 order1 place2 v7 p8))
    else some v7)
noncomputable def DL67_1 (n : Nat × Nat) (m : Nat) : (List (Int × Int)) → List Int → Int → Int → Int → Option R67 := Nat.rec (motive := fun _ => (List (Int × Int)) → List Int → Int → Int → Int → Option R67) (fun _ _ _ _ _ => none) (fun _ ih => DF67_1 n ih) m
theorem DL67_1_succ (n : Nat × Nat) (m : Nat) : DL67_1 n (m + 1) = DF67_1 n (DL67_1 n m) := rfl
theorem DL67_1_eq (n : Nat × Nat) (hn : n.2 = 1) : ∀ m, L67_1 n m = DL67_1 n m
  | 0 => by funext sheets0 order1 place2 v7 p8; kernel_rfl
  | m + 1 => by
    have ih := DL67_1_eq n hn m
    funext sheets0 order1 place2 v7 p8; refine (L67_1_eq n m sheets0 order1 place2 v7 p8).trans ?_
    rw [DL67_1_succ]
    unfold DF67_1
    (try simp only [ih, DL67_2_eq n hn]) <;> first | with_reducible rfl | rfl
noncomputable def D67 (n : Nat × Nat) (sheets0 : List (Int × Int)) (order1 : List Int) (place2 : Int) : Option R67 :=
    DL67_1 n n.1 sheets0 order1 place2 0 0
theorem S67_D (n : Nat × Nat) (hn : n.2 = 1) : S67 n = D67 n := by
  funext sheets0 order1 place2; refine (S67_eq n sheets0 order1 place2).trans ?_
  unfold D67
  (try simp only [DL67_2_eq n hn, DL67_1_eq n hn]) <;> first | with_reducible rfl | rfl
/-D 24 -/
noncomputable def DF24_1 (n : Nat × Nat) (f1 : (List (Int × Int)) → List Int → Int → Option R24) (sheets0 : List (Int × Int)) (order1 : List Int) (p7 : Int) : Option R24 :=
    (D67 n sheets0 order1 p7).bind fun r2' =>
    (D62 n sheets0 order1).bind fun r3' =>
    (bif (r2' != r3') then f1 sheets0 order1 (wr .i64 (p7 + 1))
    else some (p7, 0))
noncomputable def DL24_1 (n : Nat × Nat) (m : Nat) : (List (Int × Int)) → List Int → Int → Option R24 := Nat.rec (motive := fun _ => (List (Int × Int)) → List Int → Int → Option R24) (fun _ _ _ => none) (fun _ ih => DF24_1 n ih) m
theorem DL24_1_succ (n : Nat × Nat) (m : Nat) : DL24_1 n (m + 1) = DF24_1 n (DL24_1 n m) := rfl
theorem DL24_1_eq (n : Nat × Nat) (hn : n.2 = 1) : ∀ m, L24_1 n m = DL24_1 n m
  | 0 => by funext sheets0 order1 p7; kernel_rfl
  | m + 1 => by
    have ih := DL24_1_eq n hn m
    funext sheets0 order1 p7; refine (L24_1_eq n m sheets0 order1 p7).trans ?_
    rw [DL24_1_succ]
    unfold DF24_1
    (try simp only [ih, S59_D n hn, S62_D n hn, S67_D n hn]) <;> first | with_reducible rfl | rfl
noncomputable def D24 (n : Nat × Nat) (sheets0 : List (Int × Int)) (order1 : List Int) : Option R24 :=
    (D59 n sheets0 order1).bind fun r1' =>
    (bif (r1' != 0) then some (0, r1')
    else DL24_1 n n.1 sheets0 order1 0)
theorem S24_D (n : Nat × Nat) (hn : n.2 = 1) : S24 n = D24 n := by
  funext sheets0 order1; refine (S24_eq n sheets0 order1).trans ?_
  unfold D24
  (try simp only [DL24_1_eq n hn, S59_D n hn, S62_D n hn, S67_D n hn]) <;> first | with_reducible rfl | rfl
end Go.Proofs.Ytnlbhjmbaedadaa
set_option linter.unusedVariables false
set_option linter.unusedSimpArgs false
namespace Go.Proofs.Ytnlbhjmbaedadaa
open Go.Vi

/-- The error of the rest of an order, behind some numbers. -/
def pe (n : Int) : List Int → List Int → Int
  | _, [] => 0
  | pre, i :: r => if i < 0 ∨ n ≤ i then 2 else if i ∈ pre then 6 else pe n (pre ++ [i]) r
/-- The sheets of an order. -/
def pk (l : List (Int × Int)) (o : List Int) : List (Int × Int) := o.map fun i => l.getD i.toNat (0, 0)
def po (e : Int) (x : List (Int × Int)) : List (Int × Int) × Int := if e = 0 then (x, 0) else ([], e)
theorem po_snd (e : Int) (x : List (Int × Int)) : (po e x).2 = e := by
  unfold po
  split
  · rename_i h; exact h.symm
  · rfl
def put (l : List (Int × Int)) (o : List Int) : List (Int × Int) × Int :=
  if chk l ≠ 0 then ([], chk l) else if o.length ≠ l.length then ([], 5) else po (pe l.length [] o) (pk l o)
structure Ord (n : Nat) (o : List Int) : Prop where
  len : o.length = n
  rng : ∀ i ∈ o, 0 ≤ i ∧ i < n
  nodup : o.Nodup

theorem pe_zero {n : Int} : ∀ {r pre : List Int}, pe n pre r = 0 ↔ (∀ i ∈ r, 0 ≤ i ∧ i < n ∧ i ∉ pre) ∧ r.Nodup
  | [], pre => by simp [pe]
  | i :: r, pre => by
    unfold pe
    by_cases h : i < 0 ∨ n ≤ i
    · rw [if_pos h]
      refine ⟨fun h => by simp at h, fun h' => ?_⟩
      have := h'.1 i (by simp)
      omega
    rw [if_neg h]
    by_cases h6 : i ∈ pre
    · rw [if_pos h6]
      refine ⟨fun h => by simp at h, fun h' => ?_⟩
      exact absurd h6 (h'.1 i (by simp)).2.2
    rw [if_neg h6, pe_zero, List.nodup_cons]
    constructor
    · intro ⟨h1, h2⟩
      refine ⟨fun j hj => ?_, fun hi => ?_, h2⟩
      · rcases List.mem_cons.1 hj with e | hj
        · subst e; exact ⟨by omega, by omega, h6⟩
        · have := h1 j hj
          exact ⟨this.1, this.2.1, fun h => this.2.2 (by simp [h])⟩
      · exact (h1 i hi).2.2 (by simp)
    · intro ⟨h1, h2, h3⟩
      refine ⟨fun j hj => ?_, h3⟩
      have := h1 j (by simp [hj])
      refine ⟨this.1, this.2.1, fun h => ?_⟩
      rcases List.mem_append.1 h with h | h
      · exact this.2.2 h
      · rw [List.mem_singleton] at h; subst h; exact h2 hj
theorem put_zero {l : List (Int × Int)} {o : List Int} : (put l o).2 = 0 ↔ Good l ∧ Ord l.length o := by
  unfold put
  by_cases hc : chk l = 0
  · rw [if_neg (by simpa using hc)]
    by_cases hl : o.length = l.length
    · rw [if_neg (by simpa using hl), po_snd, pe_zero]
      exact ⟨fun hp => ⟨chk_good.1 hc, hl, fun i hi => ⟨(hp.1 i hi).1, (hp.1 i hi).2.1⟩, hp.2⟩, fun h => ⟨fun i hi => ⟨(h.2.rng i hi).1, (h.2.rng i hi).2, by simp⟩, h.2.nodup⟩⟩
    · rw [if_pos (by simpa using hl)]
      exact ⟨fun h => by simp at h, fun h => absurd h.2.len hl⟩
  · rw [if_pos (by simpa using hc)]
    exact ⟨fun h => absurd h hc, fun h => absurd (chk_good.2 h.1) hc⟩
theorem put_ord {l : List (Int × Int)} {o : List Int} (h : Good l) (ho : Ord l.length o) : put l o = (pk l o, 0) := by
  unfold put
  rw [if_neg (by simpa using chk_good.2 h), if_neg (by simpa using ho.len), pe_zero.2 ⟨fun i hi => ⟨(ho.rng i hi).1, (ho.rng i hi).2, by simp⟩, ho.nodup⟩]
  rfl

theorem put_loop (n : Nat × Nat) (hn : 1000 ≤ n.1) (l : List (Int × Int)) (o : List Int) (hl : l.length < 800) (hs : o.length < 800) : ∀ (m k : Nat), k ≤ o.length → o.length - k < m →
    DL58_1 n m l o o (o.length : Int) (k : Int) (pk l (o.take k)) = some (po (pe l.length (o.take k) (o.drop k)) (pk l o))
  | 0, k, _, h => by omega
  | m + 1, k, hk, h => by
    rw [DL58_1_succ]
    unfold DF58_1
    by_cases hlt : k < o.length
    · have ih := put_loop n hn l o hl hs m (k + 1) (by omega) (by omega)
      rw [dlt_t hlt, cond_true, idx_nat hlt, wr_succ (by omega), drop_cons hlt]
      simp only [Option.bind_some, pe]
      by_cases h2 : o[k] < 0 ∨ l.length ≤ o[k]
      · rw [if_pos h2]
        by_cases h0 : o[k] < 0
        · simp [h0, po]
        · simp [h0, show (l.length : Int) ≤ o[k] by omega, po]
      rw [if_neg h2, decide_eq_false (show ¬ o[k] < 0 by omega), decide_eq_false (show ¬ o[k] ≥ (l.length : Int) by omega)]
      simp only [beq_self_eq_true, cond_true, Option.bind_some, cond_false]
      rw [show bounds none (some (k : Int)) none o.length = true by simp [bounds]; omega, cond_true, Int.toNat_natCast, contains_eq hn (by simp; omega), Option.bind_some]
      by_cases h6 : o[k] ∈ o.take k
      · simp [h6, po]
      have hj : o[k].toNat < l.length := by omega
      rw [decide_eq_false h6, cond_false, if_neg h6, idx_int (k := o[k].toNat) (by omega) hj, Option.bind_some, lim_dec (by simp [pk]; omega), cond_true]
      rw [take_snoc hlt] at ih
      rw [← ih]
      have e : pk l (o.take k ++ [o[k]]) = pk l (o.take k) ++ [l[o[k].toNat]] := by
        unfold pk
        rw [List.map_append, List.map_cons, List.map_nil, List.getD_eq_getElem?_getD, List.getElem?_eq_getElem hj, Option.getD_some]
      rw [e]
    · rw [dlt_f hlt, cond_false, List.drop_of_length_le (by omega), List.take_of_length_le (by omega)]
      simp [pe, po]
theorem put_eq {n : Nat × Nat} (hn : 1000 ≤ n.1) {o : List Int} (hs : o.length < 800) (l : List (Int × Int)) : D58 n l o = some (put l o) := by
  unfold D58 put
  rw [chk_eq hn, Option.bind_some]
  by_cases h : chk l = 0
  · rw [show (chk l != 0) = false by simp [h], cond_false, if_neg (by simpa using h)]
    have hg := chk_good.1 h
    by_cases hl : o.length = l.length
    · rw [show ((o.length : Int) != l.length) = false by simp [hl], cond_false, if_neg (by simpa using hl)]
      have := put_loop n hn l o (by have := hg.len; omega) hs n.1 0 (by omega) (by omega)
      simpa [pk] using this
    · rw [show ((o.length : Int) != l.length) = true by simpa using (by omega : ((o.length : Int)) ≠ l.length), cond_true, if_pos hl]
  · rw [show (chk l != 0) = true by simpa using h, cond_true, if_pos h]

theorem ordered_loop (n : Nat × Nat) (hn : 1000 ≤ n.1) (l : List (Int × Int)) (o : List Int) (hl : l.length < 800) (hs : o.length < 800) : ∀ (m k : Nat) (e : Int), k ≤ o.length → o.length - k < m → (e ≠ 0 → 0 < m) →
    DL59_1 n m l o e (k : Int) = some (if e ≠ 0 then e else pe l.length (o.take k) (o.drop k))
  | 0, k, e, _, h, _ => by omega
  | m + 1, k, e, hk, h, h' => by
    rw [DL59_1_succ]
    unfold DF59_1
    by_cases hlt : k < o.length
    · rw [dlt_t hlt]
      simp only [beq_self_eq_true, cond_true, Option.bind_some]
      by_cases he : e = 0
      · subst he
        have ih := fun e => ordered_loop n hn l o hl hs m (k + 1) e (by omega) (by omega)
        rw [show ((0 : Int) == 0) = true from rfl, cond_true, idx_nat hlt, Option.bind_some, wr_ok (by omega) (by omega), in_eq, drop_cons hlt, if_neg (by simp), Option.bind_some]
        have hj2 : ∀ e : Int, DL59_2 n (DL59_1 n m) l o e (k : Int) = DL59_1 n m l o e ((k + 1 : Nat) : Int) := by
          intro e
          rw [← wr_succ (by omega)]
          rfl
        simp only [pe]
        have go : ∀ e : Int, e ≠ 0 → DL59_1 n m l o e ((k + 1 : Nat) : Int) = some e := by
          intro e he
          cases m with
          | zero => omega
          | succ m =>
            rw [ih e (by omega), if_pos he]
        by_cases h2 : o[k] < 0 ∨ l.length ≤ o[k]
        · rw [if_pos h2, show (decide (0 ≤ o[k]) && decide (o[k] ≤ (l.length : Int) - 1)) = false by simp; omega]
          simp only [Bool.not_false, cond_true]
          rw [hj2, go 2 (by omega)]
        rw [if_neg h2, show (decide (0 ≤ o[k]) && decide (o[k] ≤ (l.length : Int) - 1)) = true by simp; omega]
        simp only [Bool.not_true, cond_false]
        rw [show bounds none (some (k : Int)) none o.length = true by simp [bounds]; omega, cond_true, Int.toNat_natCast, Option.bind_some, has_eq hn (by simp; omega), Option.bind_some]
        by_cases h6 : o[k] ∈ o.take k
        · rw [decide_eq_true h6, cond_true, if_pos h6, hj2, go 6 (by omega)]
        · rw [decide_eq_false h6, cond_false, if_neg h6, hj2, ← take_snoc hlt]
          cases m with
          | zero => omega
          | succ m => rw [ih 0 (by omega), if_neg (by simp)]
      · rw [show (e == 0) = false by simpa using he, cond_false, if_pos he]
    · rw [dlt_f hlt, List.drop_of_length_le (by omega)]
      simp only [show (false == true) = false from rfl, cond_false, Option.bind_some, pe]
      by_cases he : e = 0
      · simp [he]
      · simp [he]
theorem ordered_eq {n : Nat × Nat} (hn : 1000 ≤ n.1) {o : List Int} (hs : o.length < 800) (l : List (Int × Int)) : D59 n l o = some (put l o).2 := by
  unfold D59 put
  rw [chkr_eq hn, Option.bind_some]
  have hl8 : chk l = 0 → l.length < 800 := fun h => by have := (chk_good.1 h).len; omega
  by_cases h : chk l = 0
  · have hl7 := hl8 h
    rw [h]
    simp only [beq_self_eq_true, cond_true, Option.bind_some]
    rw [if_neg (by simp)]
    by_cases hl : o.length = l.length
    · rw [show ((o.length : Int) != l.length) = false by simp [hl], cond_false, if_neg (by simpa using hl), po_snd]
      have := ordered_loop n hn l o hl7 hs n.1 0 0 (by omega) (by omega) (by omega)
      simpa using this
    · rw [show ((o.length : Int) != l.length) = true by simpa using (by omega : ((o.length : Int)) ≠ l.length), cond_true, if_pos hl]
      have := ordered_loop n hn l o hl7 hs n.1 0 5 (by omega) (by omega) (by omega)
      simpa using this
  · rw [if_pos h]
    simp only [show (chk l == 0) = false by simpa using h, show (false == true) = false from rfl, cond_false, Option.bind_some]
    have : ∀ m, 0 < m → DL59_1 n m l o (chk l) 0 = some (chk l) := by
      intro m hm
      cases m with
      | zero => omega
      | succ m =>
        rw [DL59_1_succ]
        unfold DF59_1
        have hc0 : (chk l == 0) = false := by simpa using h
        rw [hc0]
        cases decide ((0 : Int) < (o.length : Int)) <;> rfl
    exact this _ (by omega)

theorem ord_perm {n : Nat} {o : List Int} (h : Ord n o) : o.Perm ((List.range n).map fun i : Nat => (i : Int)) := by
  refine perm_of_sub h.nodup (fun x hx => ?_) (by simp [h.len])
  have := h.rng x hx
  exact List.mem_map.2 ⟨x.toNat, List.mem_range.2 (by omega), by omega⟩
theorem pk_range (l : List (Int × Int)) : pk l ((List.range l.length).map fun i : Nat => (i : Int)) = l := by
  unfold pk
  rw [List.map_map]
  apply List.ext_getElem
  · simp
  · intro i h1 h2
    simp [h2]
theorem pk_perm {l : List (Int × Int)} {o : List Int} (h : Ord l.length o) : (pk l o).Perm l := by
  have := (ord_perm h).map fun i : Int => l.getD i.toNat (0, 0)
  have e := pk_range l
  unfold pk at e ⊢
  rw [e] at this
  exact this
theorem pk_ok {l : List (Int × Int)} {o : List Int} (hg : Good l) (h : Ord l.length o) : ∀ s ∈ pk l o, Ok s := fun s hs => hg.ok s ((pk_perm h).mem_iff.1 hs)
theorem pk_len (l : List (Int × Int)) (o : List Int) : (pk l o).length = o.length := by simp [pk]
theorem pk_idx {l : List (Int × Int)} {o : List Int} (h : Ord l.length o) {k : Nat} (hk : k < o.length) : idx l o[k] = some ((pk l o)[k]'(by rw [pk_len]; exact hk)) := by
  have := h.rng _ (List.getElem_mem hk)
  rw [idx_int (k := o[k].toNat) (by omega) (by omega)]
  simp [pk, show o[k].toNat < l.length by omega]

/-- When sheets are set, and printed. -/
def ens : Int → List (Int × Int) → List Int
  | _, [] => []
  | a, s :: l => (a + s.1) :: ens (a + s.1) l
def enp : Int → Int → List (Int × Int) → List Int
  | _, _, [] => []
  | a, b, s :: l => (max (a + s.1) b + s.2) :: enp (a + s.1) (max (a + s.1) b + s.2) l
theorem ends_loop (n : Nat × Nat) (l : List (Int × Int)) (hs : l.length < 800) (hb : ∀ s ∈ l, Ok s) : ∀ (m k : Nat) (a b : Int) (u v : List Int), k ≤ l.length → l.length - k < m → 0 ≤ a → a ≤ 50 * k → 0 ≤ b → b ≤ 100 * k → u.length = k → v.length = k →
    DL16_1 n m a b (l.length : Int) (k : Int) u v l = some (u ++ ens a (l.drop k), v ++ enp a b (l.drop k), 0)
  | 0, k, a, b, u, v, _, h, _, _, _, _, _, _ => by omega
  | m + 1, k, a, b, u, v, hk, h, a0, a1, b0, b1, hu, hv => by
    rw [DL16_1_succ]
    unfold DF16_1
    by_cases hlt : k < l.length
    · have ho := hb _ (List.getElem_mem hlt)
      unfold Ok at ho
      have ih := ends_loop n l hs hb m (k + 1) (a + l[k].1) (max (a + l[k].1) b + l[k].2) (u ++ [a + l[k].1]) (v ++ [max (a + l[k].1) b + l[k].2]) (by omega) (by omega) (by omega) (by omega) (by omega) (by omega) (by simp [hu]) (by simp [hv])
      rw [dlt_t hlt, cond_true, inB_nat hlt, cond_true, idx_nat hlt, wr_succ (by omega), Option.bind_some, wr_ok (x := a + l[k].1) (by omega) (by omega), max_if, wr_ok (x := max (a + l[k].1) b + l[k].2) (by omega) (by omega), lim_dec (by omega), lim_dec (by omega), cond_true, cond_true, ih, drop_cons hlt]
      simp only [ens, enp, List.append_assoc, List.singleton_append]
    · rw [dlt_f hlt, cond_false, List.drop_of_length_le (by omega)]
      simp only [ens, enp, List.append_nil]
def endsS (l : List (Int × Int)) (o : List Int) : List Int × List Int × Int := if (put l o).2 ≠ 0 then ([], [], (put l o).2) else (ens 0 (pk l o), enp 0 0 (pk l o), 0)
theorem ends_eq {n : Nat × Nat} (hn : 1000 ≤ n.1) {o : List Int} (hs : o.length < 800) (l : List (Int × Int)) : D16 n l o = some (endsS l o) := by
  unfold D16 endsS
  rw [put_eq hn hs, Option.bind_some]
  by_cases h : (put l o).2 = 0
  · obtain ⟨hg, ho⟩ := put_zero.1 h
    rw [show ((put l o).2 != 0) = false by simp [h], cond_false, if_neg (by simpa using h), put_ord hg ho]
    have := ends_loop n (pk l o) (by rw [pk_len]; omega) (pk_ok hg ho) n.1 0 0 0 [] [] (by omega) (by rw [pk_len]; omega) (by omega) (by omega) (by omega) (by omega) rfl rfl
    simpa using this
  · rw [show ((put l o).2 != 0) = true by simpa using h, cond_true, if_pos h]

theorem idx_last {l : List Int} {k : Nat} (x : Int) (h : l.length = k) : idx (l ++ [x]) (((k + 1 : Nat) : Int) - 1) = some x := by
  rw [idx_int (k := k) (by omega) (by simp; omega)]
  simp [← h]
theorem rends_loop (n : Nat × Nat) (l : List (Int × Int)) (o : List Int) (hs : o.length < 800) (ho : Ord l.length o) (hb : ∀ s ∈ pk l o, Ok s) : ∀ (m k : Nat) (a b : Int) (u v : List Int), k ≤ o.length → o.length - k < m → 0 ≤ a → a ≤ 50 * k → 0 ≤ b → b ≤ 100 * k → u.length = k → v.length = k →
    (k = 0 → a = 0 ∧ b = 0) → (0 < k → idx u ((k : Int) - 1) = some a ∧ idx v ((k : Int) - 1) = some b) →
    DL60_1 n m l o (k : Int) u v = some (u ++ ens a ((pk l o).drop k), v ++ enp a b ((pk l o).drop k))
  | 0, k, a, b, u, v, _, h, _, _, _, _, _, _, _, _ => by omega
  | m + 1, k, a, b, u, v, hk, h, a0, a1, b0, b1, hu, hv, z0, zk => by
    rw [DL60_1_succ]
    unfold DF60_1
    by_cases hlt : k < o.length
    · have hlt' : k < (pk l o).length := by rw [pk_len]; exact hlt
      have hok := hb _ (List.getElem_mem hlt')
      rw [dlt_t hlt, cond_true, idx_nat hlt, wr_succ (by omega), Option.bind_some, pk_idx ho hlt, Option.bind_some, drop_cons hlt']
      generalize (pk l o)[k] = s at hok ⊢
      unfold Ok at hok
      have ih := rends_loop n l o hs ho hb m (k + 1) (a + s.1) (max (a + s.1) b + s.2) (u ++ [a + s.1]) (v ++ [max (a + s.1) b + s.2]) (by omega) (by omega) (by omega) (by omega) (by omega) (by omega) (by simp [hu]) (by simp [hv]) (by omega)
        (fun _ => ⟨idx_last _ hu, idx_last _ hv⟩)
      by_cases hz : k = 0
      · obtain ⟨ha, hb'⟩ := z0 hz
        subst ha hb'
        rw [decide_eq_false (show ¬ (k : Int) > 0 by omega), cond_false, cond_false, lim_dec (by omega), lim_dec (by omega), cond_true, cond_true, wr_ok (x := s.1 + s.2) (by omega) (by omega)]
        rw [show max (0 + s.1) 0 = s.1 by omega, show (0 : Int) + s.1 = s.1 by omega] at ih
        rw [ih]
        simp only [ens, enp, List.append_assoc, List.singleton_append, show (0 : Int) + s.1 = s.1 by omega, show max s.1 0 = s.1 by omega]
      · obtain ⟨z1, z2⟩ := zk (by omega)
        have i1 : inB ((k : Int) - 1) u.length = true := by rw [show (k : Int) - 1 = ((k - 1 : Nat) : Int) by omega]; exact inB_nat (by omega)
        have i2 : inB ((k : Int) - 1) v.length = true := by rw [show (k : Int) - 1 = ((k - 1 : Nat) : Int) by omega]; exact inB_nat (by omega)
        simp only [decide_eq_true (show (k : Int) > 0 by omega), cond_true, wr_ok (x := (k : Int) - 1) (by omega) (by omega), i1, i2, z1, z2, Option.bind_some]
        rw [lim_dec (by omega), lim_dec (by omega), cond_true, cond_true, Int.add_comm s.1 a,
          wr_ok (x := a + s.1) (by omega) (by omega), max_if, wr_ok (x := max (a + s.1) b + s.2) (by omega) (by omega), ih]
        simp only [ens, enp, List.append_assoc, List.singleton_append]
    · rw [dlt_f hlt, cond_false, List.drop_of_length_le (by rw [pk_len]; omega)]
      simp only [ens, enp, List.append_nil]
theorem rends_eq {n : Nat × Nat} (hn : 1000 ≤ n.1) {o : List Int} {l : List (Int × Int)} (hg : Good l) (ho : Ord l.length o) : D60 n l o = some (ens 0 (pk l o), enp 0 0 (pk l o)) := by
  unfold D60
  have := rends_loop n l o (by have := ho.len; have := hg.len; omega) ho (pk_ok hg ho) n.1 0 0 0 [] [] (by omega) (by have := ho.len; have := hg.len; omega) (by omega) (by omega) (by omega) (by omega) rfl rfl (by omega) (by omega)
  simpa using this
theorem rEnds_eq {n : Nat × Nat} (hn : 1000 ≤ n.1) {o : List Int} (hs : o.length < 800) (l : List (Int × Int)) : D17 n l o = some (endsS l o) := by
  unfold D17 endsS
  rw [ordered_eq hn hs, Option.bind_some]
  by_cases h : (put l o).2 = 0
  · obtain ⟨hg, ho⟩ := put_zero.1 h
    rw [show ((put l o).2 != 0) = false by simp [h], cond_false, if_neg (by simpa using h), rends_eq hn hg ho]
    rfl
  · rw [show ((put l o).2 != 0) = true by simpa using h, cond_true, if_pos h]

/-- What sheets need on the first and on the second machine, together. -/
def s1 : List (Int × Int) → Int
  | [] => 0
  | s :: l => s.1 + s1 l
def s2 : List (Int × Int) → Int
  | [] => 0
  | s :: l => s.2 + s2 l
theorem s1_map : ∀ l : List (Int × Int), (l.map (hr 0)).sum = s1 l
  | [] => rfl
  | s :: l => by simp only [List.map_cons, List.sum_cons, s1_map l, s1]; rfl
theorem s2_map : ∀ l : List (Int × Int), (l.map (hr 1)).sum = s2 l
  | [] => rfl
  | s :: l => by simp only [List.map_cons, List.sum_cons, s2_map l, s2]; rfl
theorem s1_append : ∀ l m : List (Int × Int), s1 (l ++ m) = s1 l + s1 m
  | [], m => by simp [s1]
  | s :: l, m => by simp only [List.cons_append, s1, s1_append l m]; omega
theorem s2_append : ∀ l m : List (Int × Int), s2 (l ++ m) = s2 l + s2 m
  | [], m => by simp [s2]
  | s :: l, m => by simp only [List.cons_append, s2, s2_append l m]; omega
theorem s1_bnd : ∀ {l : List (Int × Int)}, (∀ s ∈ l, Ok s) → 0 ≤ s1 l ∧ s1 l ≤ 50 * l.length
  | [], _ => by simp [s1]
  | s :: l, h => by
    have := s1_bnd (l := l) (fun s hs => h s (by simp [hs]))
    have ho := h s (by simp)
    unfold Ok at ho
    simp only [s1, List.length_cons]
    omega
theorem s2_bnd : ∀ {l : List (Int × Int)}, (∀ s ∈ l, Ok s) → 0 ≤ s2 l ∧ s2 l ≤ 50 * l.length
  | [], _ => by simp [s2]
  | s :: l, h => by
    have := s2_bnd (l := l) (fun s hs => h s (by simp [hs]))
    have ho := h s (by simp)
    unfold Ok at ho
    simp only [s2, List.length_cons]
    omega
theorem s2_perm {l m : List (Int × Int)} (h : l.Perm m) : s2 l = s2 m := by
  rw [← s2_map, ← s2_map]
  exact sum_perm (h.map _)
theorem s1_perm {l m : List (Int × Int)} (h : l.Perm m) : s1 l = s1 m := by
  rw [← s1_map, ← s1_map]
  exact sum_perm (h.map _)

/-- The sums of the places: up to a place on the first machine, from it on on the second one. -/
def sms : Int → List (Int × Int) → List Int
  | _, [] => []
  | a, s :: l => (a + s.1 + s.2 + s2 l) :: sms (a + s.1) l
/-- The time of sheets in their order. -/
def tm : Int → Int → List (Int × Int) → Int
  | _, b, [] => b
  | a, b, s :: l => tm (a + s.1) (max (a + s.1) b + s.2) l
theorem sms_len : ∀ (l : List (Int × Int)) (a : Int), (sms a l).length = l.length
  | [], _ => rfl
  | s :: l, a => by simp only [sms, List.length_cons, sms_len l]
theorem tm_sms : ∀ (l : List (Int × Int)) (a b : Int), tm a b l = (sms a l).foldl max (b + s2 l)
  | [], a, b => by simp [tm, sms, s2]
  | s :: l, a, b => by
    simp only [tm, sms, s2, List.foldl_cons]
    rw [tm_sms l]
    congr 1
    omega
theorem tm_cons {s : Int × Int} {l : List (Int × Int)} (hs : 0 ≤ s.1) : tm 0 0 (s :: l) = (sms s.1 l).foldl max (s.1 + s.2 + s2 l) := by
  rw [tm_sms]
  simp only [sms, s2, List.foldl_cons, Int.zero_add]
  congr 1
  omega
theorem tm_enp : ∀ (l : List (Int × Int)) (a b : Int), tm a b l = (enp a b l).getLastD b
  | [], a, b => rfl
  | s :: l, a, b => by
    simp only [tm, enp, List.getLastD_cons]
    exact tm_enp l _ _
theorem sms_get : ∀ {l : List (Int × Int)} {a : Int} {k : Nat} (h : k < l.length), (sms a l)[k]'(by rw [sms_len]; exact h) = a + s1 (l.take (k + 1)) + s2 (l.drop k)
  | [], a, k, h => by simp at h
  | s :: l, a, 0, h => by simp [sms, s1, s2]; omega
  | s :: l, a, k + 1, h => by
    simp only [sms, List.getElem_cons_succ, List.take_succ_cons, List.drop_succ_cons, s1]
    rw [sms_get (by simp at h; omega)]
    omega

theorem sums_loop (n : Nat × Nat) (hn : 1000 ≤ n.1) (l : List (Int × Int)) (hs : l.length < 100) (hb : ∀ s ∈ l, Ok s) : ∀ (m k : Nat), k ≤ l.length → l.length - k < m →
    DL66_1 n m l (l.length : Int) (k : Int) ((sms 0 l).take k) = some (sms 0 l)
  | 0, k, _, h => by omega
  | m + 1, k, hk, h => by
    rw [DL66_1_succ]
    unfold DF66_1
    by_cases hlt : k < l.length
    · have ih := sums_loop n hn l hs hb m (k + 1) (by omega) (by omega)
      have b1 : bounds none (some (((k + 1 : Nat) : Int))) none l.length = true := by simp [bounds]; omega
      have b2 : bounds (some (k : Int)) none none l.length = true := by simp [bounds]; omega
      have hok : ∀ (mc : Int) (x : Int × Int), Ok x → 0 ≤ hr mc x ∧ hr mc x ≤ 1000 := by
        intro mc x h
        unfold Ok at h
        unfold hr
        split <;> omega
      have t1 : D63 n ((l.take (k + 1)).map (hr 0)) = some (s1 (l.take (k + 1))) := by
        rw [total_eq hn (by simp; omega) (fun x hx => ?_), s1_map]
        obtain ⟨y, hy, e⟩ := List.mem_map.1 hx
        rw [← e]
        exact hok 0 y (hb y (List.mem_of_mem_take hy))
      have t2 : D63 n ((l.drop k).map (hr 1)) = some (s2 (l.drop k)) := by
        rw [total_eq hn (by simp; omega) (fun x hx => ?_), s2_map]
        obtain ⟨y, hy, e⟩ := List.mem_map.1 hx
        rw [← e]
        exact hok 1 y (hb y (List.mem_of_mem_drop hy))
      have c1 := s1_bnd (l := l.take (k + 1)) (fun s h => hb s (List.mem_of_mem_take h))
      have c2 := s2_bnd (l := l.drop k) (fun s h => hb s (List.mem_of_mem_drop h))
      rw [List.length_take] at c1
      rw [List.length_drop] at c2
      rw [dlt_t hlt, cond_true, wr_succ (by omega), b1, b2, Int.toNat_natCast, Int.toNat_natCast, cond_true, all_eq hn (.inl rfl) (by simp; omega), Option.bind_some, t1, Option.bind_some, cond_true, all_eq hn (.inr rfl) (by simp; omega), Option.bind_some, t2, Option.bind_some,
        lim_dec (by simp [sms_len]; omega), cond_true, wr_ok (by omega) (by omega), ← ih, take_snoc (l := sms 0 l) (by rw [sms_len]; exact hlt), sms_get hlt, Int.zero_add]
    · rw [dlt_f hlt, cond_false, List.take_of_length_le (by rw [sms_len]; omega)]
theorem sums_eq {n : Nat × Nat} (hn : 1000 ≤ n.1) {l : List (Int × Int)} (hs : l.length < 100) (hb : ∀ s ∈ l, Ok s) : D66 n l = some (sms 0 l) := by
  unfold D66
  exact sums_loop n hn l hs hb n.1 0 (by omega) (by omega)
theorem time_eq {n : Nat × Nat} (hn : 1000 ≤ n.1) {l : List (Int × Int)} (h0 : 0 < l.length) (hs : l.length < 100) (hb : ∀ s ∈ l, Ok s) : D61 n l = some (tm 0 0 l) := by
  unfold D61
  rw [sums_eq hn hs hb, Option.bind_some]
  match l, h0 with
  | s :: l, _ =>
    have ho := hb s (by simp)
    unfold Ok at ho
    rw [tm_cons ho.1]
    simp only [sms, Int.zero_add]
    rw [show inB 0 ((s.1 + s.2 + s2 l) :: sms s.1 l).length = true from inB_nat (k := 0) (by simp), cond_true]
    rw [show idx ((s.1 + s.2 + s2 l) :: sms s.1 l) 0 = some (s.1 + s.2 + s2 l) from rfl, Option.bind_some]
    rw [show bounds (some 1) none none ((s.1 + s.2 + s2 l) :: sms s.1 l).length = true by simp [bounds]; omega, cond_true]
    simp only [Int.toNat_one, Nat.zero_add, List.drop_succ_cons, List.drop_zero, List.length_cons, Nat.add_sub_cancel]
    rw [List.take_of_length_le (Nat.le_refl _), great_eq hn (by rw [sms_len]; simp at hs; omega)]
    rfl
theorem rtime_eq {n : Nat × Nat} (hn : 1000 ≤ n.1) {o : List Int} {l : List (Int × Int)} (hg : Good l) (ho : Ord l.length o) : D62 n l o = some (tm 0 0 (pk l o)) := by
  unfold D62
  rw [rends_eq hn hg ho, Option.bind_some, tm_enp]
  have hlen : ∀ (l : List (Int × Int)) (a b : Int), (enp a b l).length = l.length := by
    intro l
    induction l with
    | nil => intro a b; rfl
    | cons s l ih => intro a b; simp only [enp, List.length_cons, ih]
  have h1 := hlen (pk l o) 0 0
  rw [pk_len, ho.len] at h1
  have hp := hg.pos
  have h7 := hg.len
  generalize enp 0 0 (pk l o) = q at h1 ⊢
  simp only []
  rw [wr_ok (by omega) (by omega), show ((q.length : Int) - 1) = ((q.length - 1 : Nat) : Int) by omega, inB_nat (by omega), cond_true, idx_nat (by omega), Option.bind_some]
  congr 1
  have : q ≠ [] := by intro e; rw [e] at h1; simp at h1; omega
  rw [List.getLastD_eq_getLast?, List.getLast?_eq_getElem?, List.getElem?_eq_getElem (by omega), Option.getD_some]

def timeS (l : List (Int × Int)) (o : List Int) : Int × Int := if (put l o).2 ≠ 0 then (0, (put l o).2) else (tm 0 0 (pk l o), 0)
theorem ord_pk {l : List (Int × Int)} {o : List Int} (hg : Good l) (ho : Ord l.length o) : 0 < (pk l o).length ∧ (pk l o).length < 100 := by
  rw [pk_len, ho.len]
  have := hg.pos
  have := hg.len
  omega
theorem Time_eq {n : Nat × Nat} (hn : 1000 ≤ n.1) {o : List Int} (hs : o.length < 800) (l : List (Int × Int)) : D19 n l o = some (timeS l o) := by
  unfold D19 timeS
  rw [put_eq hn hs, Option.bind_some]
  by_cases h : (put l o).2 = 0
  · obtain ⟨hg, ho⟩ := put_zero.1 h
    rw [show ((put l o).2 != 0) = false by simp [h], cond_false, if_neg (by simpa using h), put_ord hg ho, time_eq hn (ord_pk hg ho).1 (ord_pk hg ho).2 (pk_ok hg ho)]
    rfl
  · rw [show ((put l o).2 != 0) = true by simpa using h, cond_true, if_pos h]
theorem rTime_eq {n : Nat × Nat} (hn : 1000 ≤ n.1) {o : List Int} (hs : o.length < 800) (l : List (Int × Int)) : D20 n l o = some (timeS l o) := by
  unfold D20 timeS
  rw [ordered_eq hn hs, Option.bind_some]
  by_cases h : (put l o).2 = 0
  · obtain ⟨hg, ho⟩ := put_zero.1 h
    rw [show ((put l o).2 != 0) = false by simp [h], cond_false, if_neg (by simpa using h), rtime_eq hn hg ho]
    rfl
  · rw [show ((put l o).2 != 0) = true by simpa using h, cond_true, if_pos h]

theorem foldl_max_mem : ∀ (l : List Int) (a : Int), l.foldl max a = a ∨ l.foldl max a ∈ l
  | [], a => .inl rfl
  | x :: l, a => by
    rw [List.foldl_cons]
    rcases foldl_max_mem l (max a x) with h | h
    · by_cases e : a ≤ x
      · rw [h, Int.max_eq_right e]; exact .inr (by simp)
      · rw [h, Int.max_eq_left (by omega)]; exact .inl rfl
    · exact .inr (List.mem_cons_of_mem _ h)
theorem foldl_max_ge : ∀ (l : List Int) (a : Int), a ≤ l.foldl max a ∧ ∀ x ∈ l, x ≤ l.foldl max a
  | [], a => ⟨Int.le_refl _, fun x h => by simp at h⟩
  | y :: l, a => by
    rw [List.foldl_cons]
    obtain ⟨h1, h2⟩ := foldl_max_ge l (max a y)
    refine ⟨by omega, fun x hx => ?_⟩
    rcases List.mem_cons.1 hx with e | hx
    · subst e; omega
    · exact h2 x hx
/-- The time is one of the sums, and none is greater. -/
theorem tm_mem {l : List (Int × Int)} (h0 : 0 < l.length) (hb : ∀ s ∈ l, Ok s) : tm 0 0 l ∈ sms 0 l := by
  match l, h0 with
  | s :: l, _ =>
    have ho := hb s (by simp)
    unfold Ok at ho
    rw [tm_cons ho.1]
    simp only [sms, Int.zero_add]
    rcases foldl_max_mem (sms s.1 l) (s.1 + s.2 + s2 l) with h | h
    · rw [h]; simp
    · exact List.mem_cons_of_mem _ h
theorem tm_ge {l : List (Int × Int)} (hb : ∀ s ∈ l, Ok s) {x : Int} (hx : x ∈ sms 0 l) : x ≤ tm 0 0 l := by
  rw [tm_sms]
  exact (foldl_max_ge _ _).2 x hx
theorem tm_bnd {l : List (Int × Int)} (hb : ∀ s ∈ l, Ok s) : 0 ≤ tm 0 0 l ∧ tm 0 0 l ≤ 100 * l.length := by
  by_cases h0 : 0 < l.length
  · obtain ⟨k, hk, e⟩ := List.getElem_of_mem (tm_mem h0 hb)
    rw [sms_len] at hk
    rw [sms_get hk] at e
    have c1 := s1_bnd (l := l.take (k + 1)) (fun s h => hb s (List.mem_of_mem_take h))
    have c2 := s2_bnd (l := l.drop k) (fun s h => hb s (List.mem_of_mem_drop h))
    rw [List.length_take] at c1
    rw [List.length_drop] at c2
    omega
  · rw [List.length_eq_zero_iff.1 (by omega : l.length = 0)]
    simp [tm]

def idleS (l : List (Int × Int)) (o : List Int) : Int × Int := if (put l o).2 ≠ 0 then (0, (put l o).2) else (tm 0 0 (pk l o) - s2 l, 0)
theorem Idle_eq {n : Nat × Nat} (hn : 1000 ≤ n.1) {o : List Int} (hs : o.length < 800) (l : List (Int × Int)) : D21 n l o = some (idleS l o) := by
  unfold D21 idleS
  rw [put_eq hn hs, Option.bind_some]
  by_cases h : (put l o).2 = 0
  · obtain ⟨hg, ho⟩ := put_zero.1 h
    have hp := ord_pk hg ho
    have hok := pk_ok hg ho
    rw [show ((put l o).2 != 0) = false by simp [h], cond_false, if_neg (by simpa using h), put_ord hg ho, time_eq hn hp.1 hp.2 hok, Option.bind_some]
    simp only []
    rw [all_eq hn (.inr rfl) (by omega), Option.bind_some, total_eq hn (by simp; omega) (fun x hx => ?_), s2_map, Option.bind_some, s2_perm (pk_perm ho)]
    · have b1 := tm_bnd hok
      have b2 := s2_bnd hg.ok
      have := hg.len
      rw [wr_ok (by omega) (by omega)]
    · obtain ⟨y, hy, e⟩ := List.mem_map.1 hx
      have := hok y hy
      unfold Ok at this
      rw [← e]
      simp only [hr]
      split <;> omega
  · rw [show ((put l o).2 != 0) = true by simpa using h, cond_true, if_pos h]
theorem ridle_loop (n : Nat × Nat) (l : List (Int × Int)) (hs : l.length < 100) (hb : ∀ s ∈ l, Ok s) : ∀ (m k : Nat) (v : Int), k ≤ l.length → l.length - k < m → -10000 + 50 * (l.length - k) ≤ v → v ≤ 100000 →
    DL22_1 n m l v (k : Int) = some (v - s2 (l.drop k), 0)
  | 0, k, v, _, h, _, _ => by omega
  | m + 1, k, v, hk, h, v0, v1 => by
    rw [DL22_1_succ]
    unfold DF22_1
    by_cases hlt : k < l.length
    · have ho := hb _ (List.getElem_mem hlt)
      unfold Ok at ho
      have ih := ridle_loop n l hs hb m (k + 1) (v - l[k].2) (by omega) (by omega) (by omega) (by omega)
      rw [dlt_t hlt, cond_true, idx_nat hlt, wr_succ (by omega), Option.bind_some, wr_ok (by omega) (by omega), ih, drop_cons hlt]
      simp only [s2]
      congr 2
      omega
    · rw [dlt_f hlt, cond_false, List.drop_of_length_le (by omega)]
      simp [s2]
theorem rIdle_eq {n : Nat × Nat} (hn : 1000 ≤ n.1) {o : List Int} (hs : o.length < 800) (l : List (Int × Int)) : D22 n l o = some (idleS l o) := by
  unfold D22 idleS
  rw [ordered_eq hn hs, Option.bind_some]
  by_cases h : (put l o).2 = 0
  · obtain ⟨hg, ho⟩ := put_zero.1 h
    have hp := ord_pk hg ho
    have b1 := tm_bnd (pk_ok hg ho)
    have := hg.len
    rw [show ((put l o).2 != 0) = false by simp [h], cond_false, if_neg (by simpa using h), rtime_eq hn hg ho, Option.bind_some]
    have := ridle_loop n l (by omega) hg.ok n.1 0 (tm 0 0 (pk l o)) (by omega) (by omega) (by omega) (by omega)
    simpa using this
  · rw [show ((put l o).2 != 0) = true by simpa using h, cond_true, if_pos h]

theorem fdo_bnd {v : Int} : ∀ {l : List Int} {k : Int}, v ∈ l → 0 ≤ k → k ≤ fdo v k l ∧ fdo v k l < k + l.length
  | [], k, h, _ => by simp at h
  | x :: l, k, h, h0 => by
    unfold fdo
    by_cases e : v = x
    · rw [if_pos e, List.length_cons]; omega
    · rw [if_neg e, List.length_cons]
      have := fdo_bnd (v := v) (l := l) (k := k + 1) (by simpa [e] using h) (by omega)
      omega
def lastS (l : List (Int × Int)) (o : List Int) : Int × Int := if (put l o).2 ≠ 0 then (0, (put l o).2) else (fdo (tm 0 0 (pk l o)) 0 (sms 0 (pk l o)), 0)
theorem Last_eq {n : Nat × Nat} (hn : 1000 ≤ n.1) {o : List Int} (hs : o.length < 800) (l : List (Int × Int)) : D23 n l o = some (lastS l o) := by
  unfold D23 lastS
  rw [put_eq hn hs, Option.bind_some]
  by_cases h : (put l o).2 = 0
  · obtain ⟨hg, ho⟩ := put_zero.1 h
    have hp := ord_pk hg ho
    have hok := pk_ok hg ho
    rw [show ((put l o).2 != 0) = false by simp [h], cond_false, if_neg (by simpa using h), put_ord hg ho]
    simp only []
    rw [sums_eq hn hp.2 hok, time_eq hn hp.1 hp.2 hok]
    simp only [Option.bind_some]
    rw [index_eq hn (by rw [sms_len]; omega), Option.bind_some]
  · rw [show ((put l o).2 != 0) = true by simpa using h, cond_true, if_pos h]

theorem sum_loop (n : Nat × Nat) (l : List (Int × Int)) (o : List Int) (hs : o.length < 100) (ho : Ord l.length o) (hb : ∀ s ∈ pk l o, Ok s) (p : Nat) (hp : p < o.length) : ∀ (m k : Nat) (v : Int), k ≤ o.length → o.length - k < m → 0 ≤ v → v ≤ 100 * k →
    DL67_1 n m l o (p : Int) v (k : Int) = some (v + s1 (((pk l o).take (p + 1)).drop k) + s2 ((pk l o).drop (max k p)))
  | 0, k, v, _, h, _, _ => by omega
  | m + 1, k, v, hk, h, v0, v1 => by
    rw [DL67_1_succ]
    unfold DF67_1
    have hj2 : ∀ w : Int, DL67_2 n (DL67_1 n m) l o (p : Int) w (k : Int) = DL67_1 n m l o (p : Int) w (wr .i64 ((k : Int) + 1)) := fun w => rfl
    by_cases hlt : k < o.length
    · have hlt' : k < (pk l o).length := by rw [pk_len]; exact hlt
      have hok := hb _ (List.getElem_mem hlt')
      unfold Ok at hok
      have ih := fun v => sum_loop n l o hs ho hb p hp m (k + 1) v (by omega) (by omega)
      rw [dlt_t hlt, cond_true, idx_nat hlt]
      simp only [Option.bind_some, pk_idx ho hlt, hj2, wr_succ (show k < 1000000 by omega)]
      by_cases h1 : k ≤ p
      · have d1 : ((pk l o).take (p + 1)).drop k = (pk l o)[k] :: ((pk l o).take (p + 1)).drop (k + 1) := by
          rw [drop_cons (l := (pk l o).take (p + 1)) (k := k) (by rw [List.length_take]; omega), List.getElem_take]
        rw [decide_eq_true (show (k : Int) ≤ p by omega), cond_true, d1]
        by_cases h2 : p ≤ k
        · have e : k = p := by omega
          rw [decide_eq_true (show (k : Int) ≥ p by omega), cond_true, wr_ok (x := v + (pk l o)[k].1) (by omega) (by omega), wr_ok (by omega) (by omega), ih _ (by omega) (by omega), show max k p = k by omega, show max (k + 1) p = k + 1 by omega, drop_cons hlt']
          simp only [s1, s2]
          congr 1
          omega
        · rw [decide_eq_false (show ¬ (k : Int) ≥ p by omega), cond_false, wr_ok (x := v + (pk l o)[k].1) (by omega) (by omega), ih _ (by omega) (by omega), show max k p = p by omega, show max (k + 1) p = p by omega]
          simp only [s1]
          congr 1
          omega
      · rw [decide_eq_false (show ¬ (k : Int) ≤ p by omega), cond_false, decide_eq_true (show (k : Int) ≥ p by omega), cond_true, wr_ok (by omega) (by omega), ih _ (by omega) (by omega), show max k p = k by omega, show max (k + 1) p = k + 1 by omega, drop_cons hlt',
          List.drop_of_length_le (l := (pk l o).take (p + 1)) (i := k) (by rw [List.length_take]; omega), List.drop_of_length_le (l := (pk l o).take (p + 1)) (i := k + 1) (by rw [List.length_take]; omega)]
        simp only [s1, s2]
        congr 1
        omega
    · rw [dlt_f hlt, cond_false, List.drop_of_length_le (by rw [List.length_take]; omega), List.drop_of_length_le (by rw [pk_len]; omega)]
      simp [s1, s2]
theorem sum_eq {n : Nat × Nat} (hn : 1000 ≤ n.1) {o : List Int} {l : List (Int × Int)} (hg : Good l) (ho : Ord l.length o) {p : Nat} (hp : p < o.length) : D67 n l o (p : Int) = some ((sms 0 (pk l o))[p]'(by rw [sms_len, pk_len]; exact hp)) := by
  have hl := ho.len
  have h7 := hg.len
  unfold D67
  have := sum_loop n l o (by omega) ho (pk_ok hg ho) p hp n.1 0 0 (by omega) (by omega) (by omega) (by omega)
  rw [sms_get (by rw [pk_len]; exact hp)]
  simpa using this
theorem rlast_loop (n : Nat × Nat) (hn : 1000 ≤ n.1) (l : List (Int × Int)) (o : List Int) (hg : Good l) (ho : Ord l.length o) : ∀ (m k : Nat), k ≤ o.length → o.length - k < m → tm 0 0 (pk l o) ∈ (sms 0 (pk l o)).drop k →
    DL24_1 n m l o (k : Int) = some (fdo (tm 0 0 (pk l o)) k ((sms 0 (pk l o)).drop k), 0)
  | 0, k, _, h, _ => by omega
  | m + 1, k, hk, h, hm => by
    have hl := ho.len
    have h7 := hg.len
    rw [DL24_1_succ]
    unfold DF24_1
    by_cases hlt : k < o.length
    · have hlt' : k < (sms 0 (pk l o)).length := by rw [sms_len, pk_len]; exact hlt
      have ih := rlast_loop n hn l o hg ho m (k + 1) (by omega) (by omega)
      rw [sum_eq hn hg ho hlt, rtime_eq hn hg ho, drop_cons hlt']
      rw [drop_cons hlt'] at hm
      simp only [Option.bind_some, fdo]
      generalize tm 0 0 (pk l o) = t at *
      by_cases e : t = (sms 0 (pk l o))[k]
      · rw [if_pos e, show ((sms 0 (pk l o))[k] != t) = false by simp [e], cond_false]
      · rw [if_neg e, show ((sms 0 (pk l o))[k] != t) = true by simpa using Ne.symm e, cond_true, wr_succ (by omega), ih ((List.mem_cons.1 hm).resolve_left e)]
        rfl
    · rw [List.drop_of_length_le (by rw [sms_len, pk_len]; omega)] at hm
      simp at hm
theorem rLast_eq {n : Nat × Nat} (hn : 1000 ≤ n.1) {o : List Int} (hs : o.length < 800) (l : List (Int × Int)) : D24 n l o = some (lastS l o) := by
  unfold D24 lastS
  rw [ordered_eq hn hs, Option.bind_some]
  by_cases h : (put l o).2 = 0
  · obtain ⟨hg, ho⟩ := put_zero.1 h
    have hp := ord_pk hg ho
    rw [show ((put l o).2 != 0) = false by simp [h], cond_false, if_neg (by simpa using h)]
    have := rlast_loop n hn l o hg ho n.1 0 (by omega) (by omega) (by simpa using tm_mem hp.1 (pk_ok hg ho))
    simpa using this
  · rw [show ((put l o).2 != 0) = true by simpa using h, cond_true, if_pos h]

/-- What a sheet adds to the bound of a machine and hours. -/
def ct (m : Int) (h : Int) (s : Int × Int) : Int := if hr m s < h then min s.1 s.2 else hr (1 - m) s
def cs (m : Int) (h : Int) : List (Int × Int) → Int
  | [] => 0
  | s :: l => ct m h s + cs m h l
def bnd (l : List (Int × Int)) (m : Int) (h : Int) : Int := h + cs m h l
theorem cs_append (m h : Int) : ∀ l k : List (Int × Int), cs m h (l ++ k) = cs m h l + cs m h k
  | [], k => by simp [cs]
  | s :: l, k => by simp only [List.cons_append, cs, cs_append m h l k]; omega
theorem cs_map (m h : Int) : ∀ l : List (Int × Int), (l.map (ct m h)).sum = cs m h l
  | [] => rfl
  | s :: l => by simp only [List.map_cons, List.sum_cons, cs_map m h l, cs]
theorem cs_perm {m h : Int} {l k : List (Int × Int)} (hp : l.Perm k) : cs m h l = cs m h k := by
  rw [← cs_map, ← cs_map]
  exact sum_perm (hp.map _)
theorem hr0 (s : Int × Int) : hr 0 s = s.1 := rfl
theorem hr1 (s : Int × Int) : hr 1 s = s.2 := rfl
theorem ct0 (h : Int) (s : Int × Int) : ct 0 h s = if s.1 < h then min s.1 s.2 else s.2 := rfl
theorem ct1 (h : Int) (s : Int × Int) : ct 1 h s = if s.2 < h then min s.1 s.2 else s.1 := rfl
theorem cs0_le (h : Int) : ∀ l : List (Int × Int), cs 0 h l ≤ s2 l
  | [] => by simp [cs, s2]
  | s :: l => by
    have := cs0_le h l
    simp only [cs, s2, ct0]
    split <;> omega
theorem cs1_le (h : Int) : ∀ l : List (Int × Int), (∀ s ∈ l, s.2 < h) → cs 1 h l ≤ s2 l
  | [], _ => by simp [cs, s2]
  | s :: l, hl => by
    have := cs1_le h l (fun s hs => hl s (by simp [hs]))
    have := hl s (by simp)
    simp only [cs, s2, ct1]
    split <;> omega
theorem tm_low (a b : Int) (l : List (Int × Int)) : b + s2 l ≤ tm a b l := by
  rw [tm_sms]
  exact (foldl_max_ge _ _).1
theorem weak0 {h : Int} : ∀ (l : List (Int × Int)) (a b : Int), (∃ s ∈ l, h ≤ s.1) → a + h + cs 0 h l ≤ tm a b l
  | [], a, b, hx => by obtain ⟨s, hs, _⟩ := hx; simp at hs
  | s :: l, a, b, hx => by
    simp only [tm, cs, ct0]
    by_cases e : s.1 < h
    · rw [if_pos e]
      have := weak0 (h := h) l (a + s.1) (max (a + s.1) b + s.2) (by
        obtain ⟨t, ht, hh⟩ := hx
        rcases List.mem_cons.1 ht with e' | ht
        · subst e'; omega
        · exact ⟨t, ht, hh⟩)
      omega
    · rw [if_neg e]
      have := tm_low (a + s.1) (max (a + s.1) b + s.2) l
      have := cs0_le h l
      omega
theorem weak1 {h : Int} : ∀ (l : List (Int × Int)) (a b : Int), (∃ s ∈ l, h ≤ s.2) → a + h + cs 1 h l ≤ tm a b l
  | [], a, b, hx => by obtain ⟨s, hs, _⟩ := hx; simp at hs
  | s :: l, a, b, hx => by
    simp only [tm, cs, ct1]
    by_cases e : ∃ t ∈ l, h ≤ t.2
    · have := weak1 (h := h) l (a + s.1) (max (a + s.1) b + s.2) e
      split <;> omega
    · have hl : ∀ t ∈ l, t.2 < h := fun t ht => by
        by_cases c : t.2 < h
        · exact c
        · exact absurd ⟨t, ht, by omega⟩ e
      have hs : h ≤ s.2 := by
        obtain ⟨t, ht, hh⟩ := hx
        rcases List.mem_cons.1 ht with e' | ht
        · subst e'; exact hh
        · have := hl t ht; omega
      rw [if_neg (by omega)]
      have := tm_low (a + s.1) (max (a + s.1) b + s.2) l
      have := cs1_le h l hl
      omega
/-- No bound is greater than the time of any order. -/
theorem weak {l : List (Int × Int)} {m : Int} (hm : m = 0 ∨ m = 1) {s : Int × Int} (hs : s ∈ l) : bnd l m (hr m s) ≤ tm 0 0 l := by
  unfold bnd
  rcases hm with e | e <;> subst e
  · have := weak0 (h := hr 0 s) l 0 0 ⟨s, hs, Int.le_refl _⟩
    omega
  · have := weak1 (h := hr 1 s) l 0 0 ⟨s, hs, Int.le_refl _⟩
    omega
theorem bnd_perm {l k : List (Int × Int)} (m h : Int) (hp : l.Perm k) : bnd l m h = bnd k m h := by
  unfold bnd
  rw [cs_perm hp]

/-- One sheet may stand before another one by the rule. -/
def Bf (s t : Int × Int) : Prop := (s.1 < s.2 ∧ ¬ t.1 < t.2) ∨ (s.1 < s.2 ∧ t.1 < t.2 ∧ s.1 ≤ t.1) ∨ (¬ s.1 < s.2 ∧ ¬ t.1 < t.2 ∧ t.2 ≤ s.2)
theorem cs0_ge_a {h : Int} : ∀ {l : List (Int × Int)}, (∀ s ∈ l, s.1 < s.2 ∧ s.1 ≤ h) → s1 l ≤ cs 0 h l
  | [], _ => by simp [cs, s1]
  | s :: l, hl => by
    have := cs0_ge_a (h := h) (l := l) (fun s hs => hl s (by simp [hs]))
    have := hl s (by simp)
    simp only [cs, s1, ct0]
    split <;> omega
theorem cs0_ge_b {h : Int} : ∀ {l : List (Int × Int)}, (∀ s ∈ l, s.1 < s.2 → h ≤ s.1) → s2 l ≤ cs 0 h l
  | [], _ => by simp [cs, s2]
  | s :: l, hl => by
    have := cs0_ge_b (h := h) (l := l) (fun s hs => hl s (by simp [hs]))
    have := hl s (by simp)
    simp only [cs, s2, ct0]
    split <;> omega
theorem cs1_ge_b {h : Int} : ∀ {l : List (Int × Int)}, (∀ s ∈ l, ¬ s.1 < s.2 ∧ s.2 ≤ h) → s2 l ≤ cs 1 h l
  | [], _ => by simp [cs, s2]
  | s :: l, hl => by
    have := cs1_ge_b (h := h) (l := l) (fun s hs => hl s (by simp [hs]))
    have := hl s (by simp)
    simp only [cs, s2, ct1]
    split <;> omega
theorem cs1_ge_a {h : Int} : ∀ {l : List (Int × Int)}, (∀ s ∈ l, ¬ s.1 < s.2 → h ≤ s.2) → s1 l ≤ cs 1 h l
  | [], _ => by simp [cs, s1]
  | s :: l, hl => by
    have := cs1_ge_a (h := h) (l := l) (fun s hs => hl s (by simp [hs]))
    have := hl s (by simp)
    simp only [cs, s1, ct1]
    split <;> omega
/-- Sheets as the rule has them: one bound is at least the time. -/
theorem strong {l : List (Int × Int)} (h0 : 0 < l.length) (hb : ∀ s ∈ l, Ok s) (hp : l.Pairwise Bf) : ∃ m s, (m = 0 ∨ m = 1) ∧ s ∈ l ∧ tm 0 0 l = bnd l m (hr m s) := by
  obtain ⟨k, hk, e⟩ := List.getElem_of_mem (tm_mem h0 hb)
  rw [sms_len] at hk
  rw [sms_get hk, Int.zero_add] at e
  have hl : l = l.take k ++ l[k] :: l.drop (k + 1) := by rw [← drop_cons hk, List.take_append_drop]
  have hin : l[k] ∈ l := List.getElem_mem hk
  rw [take_snoc hk, drop_cons hk, s1_append] at e
  generalize l.take k = A at hl e
  generalize l.drop (k + 1) = B at hl e
  generalize l[k] = s at hl hin e
  simp only [s1, s2] at e
  have hp' := hp
  rw [hl, List.pairwise_append, List.pairwise_cons] at hp'
  obtain ⟨_, ⟨pB, _⟩, pA⟩ := hp'
  have pA : ∀ t ∈ A, Bf t s := fun t ht => pA t ht s (by simp)
  by_cases f : s.1 < s.2
  · refine ⟨0, s, .inl rfl, hin, Int.le_antisymm ?_ (weak (.inl rfl) hin)⟩
    have c : bnd l 0 (hr 0 s) = s.1 + (cs 0 s.1 A + (s.2 + cs 0 s.1 B)) := by
      rw [hl]
      simp only [bnd, cs_append, cs, ct0, hr0, Int.lt_irrefl, if_false]
    have cA := cs0_ge_a (h := s.1) (l := A) (fun t ht => by have := pA t ht; unfold Bf at this; omega)
    have cB := cs0_ge_b (h := s.1) (l := B) (fun t ht => by have := pB t ht; unfold Bf at this; omega)
    omega
  · refine ⟨1, s, .inr rfl, hin, Int.le_antisymm ?_ (weak (.inr rfl) hin)⟩
    have c : bnd l 1 (hr 1 s) = s.2 + (cs 1 s.2 A + (s.1 + cs 1 s.2 B)) := by
      rw [hl]
      simp only [bnd, cs_append, cs, ct1, hr1, Int.lt_irrefl, if_false]
    have cA := cs1_ge_a (h := s.2) (l := A) (fun t ht => by have := pA t ht; unfold Bf at this; omega)
    have cB := cs1_ge_b (h := s.2) (l := B) (fun t ht => by have := pB t ht; unfold Bf at this; omega)
    omega
end Go.Proofs.Ytnlbhjmbaedadaa
set_option linter.unusedVariables false
set_option linter.unusedSimpArgs false
set_option maxRecDepth 100000
namespace Go.Proofs.Ytnlbhjmbaedadaa
open Go.Vi
abbrev R70 := Bool
noncomputable def c70 : Code := bodyOf Try.f70
noncomputable def an70 : Ann := (.s .l (.s .l (.s (.s .l (.j [1, 2, 7, 8, 39, 40, 41, 42, 43, 56, 57, 58, 59, 60] .l .l)) (.s (.s .l (.j [1, 2, 7, 8, 56, 57, 58, 59, 60] .l .l)) (.s (.s .l (.j [1, 2] .l .l)) .l)))))
def pk70 : List PK := [.c (.sl (.pair (.int .i64) (.int .i64))), .c (.int .i64), .c (.int .i64)]
def rk70 : List RK := [.c .bool 6]
noncomputable def rt70 (st : St) : Option R70 := rtG rk70 st
noncomputable def E70 (n : Nat × Nat) : Env := { T := tab, phi := noPhi, eff := fun _ => false, fuel := n.1, hold := n.2 }
noncomputable def kq70_1 (n : Nat × Nat) : St → Option R70 := run (E70 n) (cB (cB (cB c70))) (Ann.snd (Ann.snd (Ann.snd an70))) rt70 (fun _ _ => none) rt70
noncomputable def kc70_2 (n : Nat × Nat) : St → Option R70 := fun s => normC [1, 2, 7, 8, 39, 40, 41, 42, 43, 56, 57, 58, 59, 60] s (kq70_1 n)
noncomputable def kq70_3 (n : Nat × Nat) : St → Option R70 := run (E70 n) (cB (cB (cB (cB c70)))) (Ann.snd (Ann.snd (Ann.snd (Ann.snd an70)))) rt70 (fun _ _ => none) rt70
noncomputable def kc70_4 (n : Nat × Nat) : St → Option R70 := fun s => normC [1, 2, 7, 8, 56, 57, 58, 59, 60] s (kq70_3 n)
noncomputable def kq70_5 (n : Nat × Nat) : St → Option R70 := run (E70 n) (cB (cB (cB (cB (cB c70))))) (Ann.snd (Ann.snd (Ann.snd (Ann.snd (Ann.snd an70))))) rt70 (fun _ _ => none) rt70
noncomputable def kc70_6 (n : Nat × Nat) : St → Option R70 := fun s => normC [1, 2] s (kq70_5 n)
noncomputable def S70 (n : Nat × Nat) (sheets0 : List (Int × Int)) (i1 : Int) (j2 : Int) : Option R70 := run (E70 n) c70 an70 rt70 (fun _ _ => none) rt70 { tm := [.c (.sl (.pair (.int .i64) (.int .i64)) sheets0 false), .c (.int .i64 i1), .c (.int .i64 j2), uu, uu, uu, uu, uu, uu, uu, uu, uu, uu, uu, uu, uu, uu, uu, uu, uu, uu, uu, uu, uu, uu, uu, uu, uu, uu, uu, uu, uu, uu, uu, uu, uu, uu, uu, uu, uu, uu, uu, uu, uu, uu, uu, uu, uu, uu, uu, uu, uu, uu, uu, uu, uu, uu, uu, uu, uu, uu, uu, uu, uu, uu, uu, uu, uu, uu, uu], hp := emp }
theorem S70_eq (n : Nat × Nat) (sheets0 : List (Int × Int)) (i1 : Int) (j2 : Int) : S70 n sheets0 i1 j2 =
    (idx sheets0 i1).bind fun x1' =>
    (idx sheets0 j2).bind fun x2' =>
    (bif ((decide (x1'.1 < x1'.2)) != (decide (x2'.1 < x2'.2))) then some (decide (x1'.1 < x1'.2))
    else ((bif (decide (x1'.1 < x1'.2) == true) then some (x1'.1 != x2'.1)
        else some false)).bind fun b3' =>
      (bif b3' then some (decide (x1'.1 < x2'.1))
      else ((bif (decide (x1'.1 ≥ x1'.2) == true) then some (x1'.2 != x2'.2)
          else some false)).bind fun b4' =>
        (bif b4' then some (decide (x1'.2 > x2'.2))
        else some (decide (i1 < j2))))) := by kernel_rfl
theorem S70_run (n : Nat × Nat) (xs : pksDen pk70) : S70 n xs.1 xs.2.1 xs.2.2.1 = runG (E70 n) noScope c70 an70 (rtG rk70) (fun _ _ => none) (rtG rk70) (st0 pk70 xs Try.f70.ntmps) := by kernel_rfl
noncomputable def P70 (n : Nat × Nat) := phiOf pk70 rk70 (fun xs => S70 n xs.1 xs.2.1 xs.2.2.1)
theorem call70 : CallOK Try.prog 70 := callOK_of Try.func70 (by kernel_rfl) (by kernel_rfl)
theorem env70 (n : Nat × Nat) : EnvOK Try.prog (E70 n) := envOK0 noPhi_ok rfl rfl
theorem par70 (n : Nat × Nat) : EnvPar (E70 n) := envPar0 noPhi_par rfl
theorem FC70 (n : Nat × Nat) : FCs Try.prog 70 (P70 n) := phiOf_FCs fun xs r h vs hv => FC.of_runG tabOK eqsOK (env70 n) (par70 n) mixed (fun _ => noScope_ok) Try.func70 (c := c70) (an := an70) (pks := pk70) (rks := rk70) (by kernel_rfl) (by kernel_rfl) hv ((S70_run n xs).symm.trans h)
abbrev R28 := List Int × Int
noncomputable def c28 : Code := bodyOf Try.f28
noncomputable def an28 : Ann := (.s .l (.s .l (.s (.s .l (.j [0, 33, 34, 35, 36] .l .l)) (.s .l (.s (.s .l (.j [5] (.j [0, 5, 6, 33, 34, 35, 36] (.s (.s .l (.j [0, 5, 6, 33, 34, 35, 36] .l .l)) (.s (.j [0, 5, 6, 33, 34, 35, 36] (.s .l (.s (.s .l (.j [0, 5, 6, 7, 33, 34, 35, 36] (.j [0, 5, 6, 7, 8, 33, 34, 35, 36] (.s (.s .l (.j [0, 5, 6, 7, 8, 33, 34, 35, 36] .l .l)) (.j [] (.j [0, 5, 6, 7, 8, 33, 34, 35, 36] (.s .l (.j [0, 5, 6, 7, 8, 33, 34, 35, 36] .l .l)) .l) .l)) .l) .l)) .l)) .l) .l)) .l) .l)) .l)))))
def pk28 : List PK := [.c (.sl (.pair (.int .i64) (.int .i64)))]
def rk28 : List RK := [.own (.int .i64) 2, .c (.int .i64) 3]
noncomputable def rt28 (st : St) : Option R28 := rtG rk28 st
noncomputable def E28 (n : Nat × Nat) : Env := { T := tab, phi := (consPhi 26 (fun _ => true) (P26 n) (consPhi 70 (fun _ => true) (P70 n) noPhi)), eff := fun _ => false, fuel := n.1, hold := n.2 }
noncomputable def kq28_1 (n : Nat × Nat) : St → Option R28 := run (E28 n) (cB (cB (cB c28))) (Ann.snd (Ann.snd (Ann.snd an28))) rt28 (fun _ _ => none) rt28
noncomputable def kc28_2 (n : Nat × Nat) : St → Option R28 := fun s => normC [0, 33, 34, 35, 36] s (kq28_1 n)
noncomputable def kq28_3 (n : Nat × Nat) : St → Option R28 := run (E28 n) (cB (cB (cB (cB (cB c28))))) (Ann.snd (Ann.snd (Ann.snd (Ann.snd (Ann.snd an28))))) rt28 (fun _ _ => none) rt28
noncomputable def kc28_4 (n : Nat × Nat) : St → Option R28 := fun s => normC [5] s (kq28_3 n)
noncomputable def xb28_5 (n : Nat × Nat) : Nat → St → Option R28 := fun j s => bif Nat.beq j 0 then normC [5] s (kq28_3 n) else (fun _ _ => none) j s
noncomputable def F28_6 (n : Nat × Nat) : (St → Option R28) → St → Option R28 := fun K s => run (E28 n) (cA (cA (cB (cA (cB (cB (cB (cB c28)))))))) (Ann.fst (Ann.fst (Ann.snd (Ann.fst (Ann.snd (Ann.snd (Ann.snd (Ann.snd an28)))))))) (fun s => normC [0, 5, 6, 33, 34, 35, 36] s K) (xb28_5 n) rt28 s
noncomputable def kq28_7 (n : Nat × Nat) (m1 : Nat) : St → Option R28 := run (E28 n) (cB (cA (cA (cB (cA (cB (cB (cB (cB c28))))))))) (Ann.snd (Ann.fst (Ann.fst (Ann.snd (Ann.fst (Ann.snd (Ann.snd (Ann.snd (Ann.snd an28))))))))) (fun s => normC [0, 5, 6, 33, 34, 35, 36] s (loopN (F28_6 n) m1)) (xb28_5 n) rt28
noncomputable def kc28_8 (n : Nat × Nat) (m1 : Nat) : St → Option R28 := fun s => normC [0, 5, 6, 33, 34, 35, 36] s (kq28_7 n m1)
noncomputable def kq28_9 (n : Nat × Nat) (m1 : Nat) : St → Option R28 := run (E28 n) (cB (cB (cA (cA (cB (cA (cB (cB (cB (cB c28)))))))))) (Ann.snd (Ann.snd (Ann.fst (Ann.fst (Ann.snd (Ann.fst (Ann.snd (Ann.snd (Ann.snd (Ann.snd an28)))))))))) (fun s => normC [0, 5, 6, 33, 34, 35, 36] s (loopN (F28_6 n) m1)) (xb28_5 n) rt28
noncomputable def kc28_10 (n : Nat × Nat) (m1 : Nat) : St → Option R28 := fun s => normC [0, 5, 6, 33, 34, 35, 36] s (kq28_9 n m1)
noncomputable def xb28_11 (n : Nat × Nat) (m1 : Nat) : Nat → St → Option R28 := fun j s => bif Nat.beq j 1 then normC [0, 5, 6, 33, 34, 35, 36] s (kq28_9 n m1) else (xb28_5 n) j s
noncomputable def kq28_12 (n : Nat × Nat) (m1 : Nat) : St → Option R28 := run (E28 n) (cB (cB (cA (cA (cB (cA (cA (cB (cA (cB (cB (cB (cB c28))))))))))))) (Ann.snd (Ann.snd (Ann.fst (Ann.fst (Ann.snd (Ann.fst (Ann.fst (Ann.snd (Ann.fst (Ann.snd (Ann.snd (Ann.snd (Ann.snd an28))))))))))))) (kc28_10 n m1) (xb28_11 n m1) rt28
noncomputable def kc28_13 (n : Nat × Nat) (m1 : Nat) : St → Option R28 := fun s => normC [0, 5, 6, 7, 33, 34, 35, 36] s (kq28_12 n m1)
noncomputable def xb28_14 (n : Nat × Nat) (m1 : Nat) : Nat → St → Option R28 := fun j s => bif Nat.beq j 2 then normC [0, 5, 6, 7, 33, 34, 35, 36] s (kq28_12 n m1) else (xb28_11 n m1) j s
noncomputable def F28_15 (n : Nat × Nat) (m1 : Nat) : (St → Option R28) → St → Option R28 := fun K s => run (E28 n) (cA (cA (cB (cA (cB (cA (cA (cB (cA (cA (cB (cA (cB (cB (cB (cB c28)))))))))))))))) (Ann.fst (Ann.fst (Ann.snd (Ann.fst (Ann.snd (Ann.fst (Ann.fst (Ann.snd (Ann.fst (Ann.fst (Ann.snd (Ann.fst (Ann.snd (Ann.snd (Ann.snd (Ann.snd an28)))))))))))))))) (fun s => normC [0, 5, 6, 7, 8, 33, 34, 35, 36] s K) (xb28_14 n m1) rt28 s
noncomputable def kq28_16 (n : Nat × Nat) (m1 m2 : Nat) : St → Option R28 := run (E28 n) (cB (cA (cA (cB (cA (cB (cA (cA (cB (cA (cA (cB (cA (cB (cB (cB (cB c28))))))))))))))))) (Ann.snd (Ann.fst (Ann.fst (Ann.snd (Ann.fst (Ann.snd (Ann.fst (Ann.fst (Ann.snd (Ann.fst (Ann.fst (Ann.snd (Ann.fst (Ann.snd (Ann.snd (Ann.snd (Ann.snd an28))))))))))))))))) (fun s => normC [0, 5, 6, 7, 8, 33, 34, 35, 36] s (loopN (F28_15 n m1) m2)) (xb28_14 n m1) rt28
noncomputable def kc28_17 (n : Nat × Nat) (m1 m2 : Nat) : St → Option R28 := fun s => normC [0, 5, 6, 7, 8, 33, 34, 35, 36] s (kq28_16 n m1 m2)
noncomputable def kq28_18 (n : Nat × Nat) (m1 m2 : Nat) : St → Option R28 := run (E28 n) (cB (cB (cA (cA (cB (cA (cB (cA (cA (cB (cA (cA (cB (cA (cB (cB (cB (cB c28)))))))))))))))))) (Ann.snd (Ann.snd (Ann.fst (Ann.fst (Ann.snd (Ann.fst (Ann.snd (Ann.fst (Ann.fst (Ann.snd (Ann.fst (Ann.fst (Ann.snd (Ann.fst (Ann.snd (Ann.snd (Ann.snd (Ann.snd an28)))))))))))))))))) (fun s => normC [0, 5, 6, 7, 8, 33, 34, 35, 36] s (loopN (F28_15 n m1) m2)) (xb28_14 n m1) rt28
noncomputable def kc28_19 (n : Nat × Nat) (m1 m2 : Nat) : St → Option R28 := fun s => normC [0, 5, 6, 7, 8, 33, 34, 35, 36] s (loopN (fun _ => (kq28_18 n m1 m2)) n.2)
noncomputable def xb28_20 (n : Nat × Nat) (m1 m2 : Nat) : Nat → St → Option R28 := fun j s => bif Nat.beq j 3 then normC [0, 5, 6, 7, 8, 33, 34, 35, 36] s (loopN (fun _ => (kq28_18 n m1 m2)) n.2) else (xb28_14 n m1) j s
noncomputable def kc28_21 (n : Nat × Nat) (m1 m2 : Nat) : St → Option R28 := fun s => normC [0, 5, 6, 7, 8, 33, 34, 35, 36] s (kc28_19 n m1 m2)
noncomputable def L28_1 (n : Nat × Nat) (m : Nat) (sheets0 : List (Int × Int)) (i6 : Int) (out5 : List Int) : Option R28 := loopN (F28_6 n) m { tm := [.c (.sl (.pair (.int .i64) (.int .i64)) sheets0 false), uu, uu, uu, uu, .own 5 none false, .c (.int .i64 i6), uu, uu, uu, uu, uu, uu, uu, uu, uu, uu, uu, uu, uu, uu, uu, uu, uu, uu, uu, uu, uu, uu, uu, uu, uu, uu, uu, uu, uu, uu, uu, uu, uu, uu, uu, uu, uu, uu], hp := (upd emp 5 (.arr (.int .i64) out5 false)) }
noncomputable def L28_2 (n : Nat × Nat) (m1 : Nat) (m : Nat) (sheets0 : List (Int × Int)) (i6 : Int) (place7 : Int) (j8 : Int) (out5 : List Int) : Option R28 := loopN (F28_15 n m1) m { tm := [.c (.sl (.pair (.int .i64) (.int .i64)) sheets0 false), uu, uu, uu, uu, .own 5 none false, .c (.int .i64 i6), .c (.int .i64 place7), .c (.int .i64 j8), uu, uu, uu, uu, uu, uu, uu, uu, uu, uu, uu, uu, uu, uu, uu, uu, uu, uu, uu, uu, uu, uu, uu, uu, uu, uu, uu, uu, uu, uu, uu, uu, uu, uu, uu, uu], hp := (upd emp 5 (.arr (.int .i64) out5 false)) }
noncomputable def L28_3 (n : Nat × Nat) (m1 m2 : Nat) (sheets0 : List (Int × Int)) (i6 : Int) (place7 : Int) (j8 : Int) (out5 : List Int) : Option R28 := loopN (fun _ => (kq28_18 n m1 m2)) n.2 { tm := [.c (.sl (.pair (.int .i64) (.int .i64)) sheets0 false), uu, uu, uu, uu, .own 5 none false, .c (.int .i64 i6), .c (.int .i64 place7), .c (.int .i64 j8), uu, uu, uu, uu, uu, uu, uu, uu, uu, uu, uu, uu, uu, uu, uu, uu, uu, uu, uu, uu, uu, uu, uu, uu, uu, uu, uu, uu, uu, uu, uu, uu, uu, uu, uu, uu], hp := (upd emp 5 (.arr (.int .i64) out5 false)) }
theorem L28_1_eq (n : Nat × Nat) (m1 : Nat) (sheets0 : List (Int × Int)) (i6 : Int) (out5 : List Int) : L28_1 n (m1 + 1) sheets0 i6 out5 =
    (bif decide (i6 < (sheets0.length : Int)) then L28_2 n m1 n.1 sheets0 i6 0 0 out5
    else some (out5, 0)) := by kernel_rfl
theorem L28_2_eq (n : Nat × Nat) (m1 m2 : Nat) (sheets0 : List (Int × Int)) (i6 : Int) (place7 : Int) (j8 : Int) (out5 : List Int) : L28_2 n m1 (m2 + 1) sheets0 i6 place7 j8 out5 =
    (bif decide (j8 < (sheets0.length : Int)) then ((bif ((j8 != i6) == true) then (S70 n sheets0 j8 i6).bind fun r2' =>
          some r2'
        else some false)).bind fun b3' =>
      (bif b3' then L28_3 n m1 m2 sheets0 i6 (wr .i64 (place7 + 1)) j8 out5
      else L28_3 n m1 m2 sheets0 i6 place7 j8 out5)
    else (bif inB place7 out5.length then (idx out5 place7).bind fun x4' =>
        L28_1 n m1 sheets0 (wr .i64 (i6 + 1)) (out5.set (Int.toNat place7) i6)
      else none)) := by kernel_rfl
theorem L28_3_raw (n : Nat × Nat) (m1 m2 : Nat) (sheets0 : List (Int × Int)) (i6 : Int) (place7 : Int) (j8 : Int) (out5 : List Int) : (kq28_18 n m1 m2) { tm := [.c (.sl (.pair (.int .i64) (.int .i64)) sheets0 false), uu, uu, uu, uu, .own 5 none false, .c (.int .i64 i6), .c (.int .i64 place7), .c (.int .i64 j8), uu, uu, uu, uu, uu, uu, uu, uu, uu, uu, uu, uu, uu, uu, uu, uu, uu, uu, uu, uu, uu, uu, uu, uu, uu, uu, uu, uu, uu, uu, uu, uu, uu, uu, uu, uu], hp := (upd emp 5 (.arr (.int .i64) out5 false)) } =
    L28_2 n m1 m2 sheets0 i6 place7 (wr .i64 (j8 + 1)) out5 := by kernel_rfl
noncomputable def S28 (n : Nat × Nat) (sheets0 : List (Int × Int)) : Option R28 := run (E28 n) c28 an28 rt28 (fun _ _ => none) rt28 { tm := [.c (.sl (.pair (.int .i64) (.int .i64)) sheets0 false), uu, uu, uu, uu, uu, uu, uu, uu, uu, uu, uu, uu, uu, uu, uu, uu, uu, uu, uu, uu, uu, uu, uu, uu, uu, uu, uu, uu, uu, uu, uu, uu, uu, uu, uu, uu, uu, uu, uu, uu, uu, uu, uu, uu], hp := emp }
theorem S28_eq (n : Nat × Nat) (sheets0 : List (Int × Int)) : S28 n sheets0 =
    (S26 n sheets0).bind fun r1' =>
    (bif (r1' != 0) then some ([], r1')
    else (bif decide (0 ≤ (sheets0.length : Int)) && decide ((sheets0.length : Int) ≤ (sheets0.length : Int)) && decide ((sheets0.length : Int) ≤ lim) then L28_1 n n.1 sheets0 0 (List.replicate (Int.toNat (sheets0.length : Int)) (0 : Int))
      else none)) := by kernel_rfl
theorem S28_run (n : Nat × Nat) (xs : pksDen pk28) : S28 n xs.1 = runG (E28 n) noScope c28 an28 (rtG rk28) (fun _ _ => none) (rtG rk28) (st0 pk28 xs Try.f28.ntmps) := by kernel_rfl
noncomputable def P28 (n : Nat × Nat) := phiOf pk28 rk28 (fun xs => S28 n xs.1)
theorem call28 : CallOK Try.prog 28 := callOK_of Try.func28 (by kernel_rfl) (by kernel_rfl)
theorem env28 (n : Nat × Nat) : EnvOK Try.prog (E28 n) := envOK0 (consPhi_ok (FC26 n) call26 (consPhi_ok (FC70 n) call70 noPhi_ok)) rfl rfl
theorem par28 (n : Nat × Nat) : EnvPar (E28 n) := envPar0 (consPhi_par phiOf_Par1 (consPhi_par phiOf_Par1 noPhi_par)) rfl
theorem FC28 (n : Nat × Nat) : FCs Try.prog 28 (P28 n) := phiOf_FCs fun xs r h vs hv => FC.of_runG tabOK eqsOK (env28 n) (par28 n) mixed (fun _ => noScope_ok) Try.func28 (c := c28) (an := an28) (pks := pk28) (rks := rk28) (by kernel_rfl) (by kernel_rfl) hv ((S28_run n xs).symm.trans h)
/-D 70 -/
noncomputable def D70 (n : Nat × Nat) (sheets0 : List (Int × Int)) (i1 : Int) (j2 : Int) : Option R70 :=
    (idx sheets0 i1).bind fun x1' =>
    (idx sheets0 j2).bind fun x2' =>
    (bif ((decide (x1'.1 < x1'.2)) != (decide (x2'.1 < x2'.2))) then some (decide (x1'.1 < x1'.2))
    else ((bif (decide (x1'.1 < x1'.2) == true) then some (x1'.1 != x2'.1)
        else some false)).bind fun b3' =>
      (bif b3' then some (decide (x1'.1 < x2'.1))
      else ((bif (decide (x1'.1 ≥ x1'.2) == true) then some (x1'.2 != x2'.2)
          else some false)).bind fun b4' =>
        (bif b4' then some (decide (x1'.2 > x2'.2))
        else some (decide (i1 < j2)))))
theorem S70_D (n : Nat × Nat) (hn : n.2 = 1) : S70 n = D70 n := by
  funext sheets0 i1 j2; refine (S70_eq n sheets0 i1 j2).trans ?_
  unfold D70
  first | with_reducible rfl | rfl
/-D 28 -/
noncomputable def DL28_3 (n : Nat × Nat) (f1 : (List (Int × Int)) → Int → List Int → Option R28) (f2 : (List (Int × Int)) → Int → Int → Int → List Int → Option R28) (sheets0 : List (Int × Int)) (i6 : Int) (place7 : Int) (j8 : Int) (out5 : List Int) : Option R28 :=
    f2 sheets0 i6 place7 (wr .i64 (j8 + 1)) out5
theorem DL28_3_eq (n : Nat × Nat) (hn : n.2 = 1) (m1 m2 : Nat) : L28_3 n m1 m2 = DL28_3 n (L28_1 n m1) (L28_2 n m1 m2) := by
  funext sheets0 i6 place7 j8 out5; refine ((held_eq hn _).trans (L28_3_raw n m1 m2 sheets0 i6 place7 j8 out5)).trans ?_
  unfold DL28_3
  (try simp only [S26_D n hn, S70_D n hn]) <;> first | with_reducible rfl | rfl
noncomputable def DF28_2 (n : Nat × Nat) (f1 : (List (Int × Int)) → Int → List Int → Option R28) (f2 : (List (Int × Int)) → Int → Int → Int → List Int → Option R28) (sheets0 : List (Int × Int)) (i6 : Int) (place7 : Int) (j8 : Int) (out5 : List Int) : Option R28 :=
    (bif decide (j8 < (sheets0.length : Int)) then ((bif ((j8 != i6) == true) then (D70 n sheets0 j8 i6).bind fun r2' =>
          some r2'
        else some false)).bind fun b3' =>
      (bif b3' then DL28_3 n f1 f2 sheets0 i6 (wr .i64 (place7 + 1)) j8 out5
      else DL28_3 n f1 f2 sheets0 i6 place7 j8 out5)
    else (bif inB place7 out5.length then (idx out5 place7).bind fun x4' =>
        f1 sheets0 (wr .i64 (i6 + 1)) (out5.set (Int.toNat place7) i6)
      else none))
noncomputable def DL28_2 (n : Nat × Nat) (f1 : (List (Int × Int)) → Int → List Int → Option R28) (m : Nat) : (List (Int × Int)) → Int → Int → Int → List Int → Option R28 := Nat.rec (motive := fun _ => (List (Int × Int)) → Int → Int → Int → List Int → Option R28) (fun _ _ _ _ _ => none) (fun _ ih => DF28_2 n f1 ih) m
theorem DL28_2_succ (n : Nat × Nat) (f1 : (List (Int × Int)) → Int → List Int → Option R28) (m : Nat) : DL28_2 n f1 (m + 1) = DF28_2 n f1 (DL28_2 n f1 m) := rfl
theorem DL28_2_eq (n : Nat × Nat) (hn : n.2 = 1) (m1 : Nat) : ∀ m, L28_2 n m1 m = DL28_2 n (L28_1 n m1) m
  | 0 => by funext sheets0 i6 place7 j8 out5; kernel_rfl
  | m + 1 => by
    have ih := DL28_2_eq n hn m1 m
    funext sheets0 i6 place7 j8 out5; refine (L28_2_eq n m1 m sheets0 i6 place7 j8 out5).trans ?_
    rw [DL28_2_succ]
    unfold DF28_2
    (try simp only [ih, DL28_3_eq n hn, S26_D n hn, S70_D n hn]) <;> first | with_reducible rfl | rfl
noncomputable def DF28_1 (n : Nat × Nat) (f1 : (List (Int × Int)) → Int → List Int → Option R28) (sheets0 : List (Int × Int)) (i6 : Int) (out5 : List Int) : Option R28 :=
    (bif decide (i6 < (sheets0.length : Int)) then DL28_2 n f1 n.1 sheets0 i6 0 0 out5
    else some (out5, 0))
noncomputable def DL28_1 (n : Nat × Nat) (m : Nat) : (List (Int × Int)) → Int → List Int → Option R28 := Nat.rec (motive := fun _ => (List (Int × Int)) → Int → List Int → Option R28) (fun _ _ _ => none) (fun _ ih => DF28_1 n ih) m
theorem DL28_1_succ (n : Nat × Nat) (m : Nat) : DL28_1 n (m + 1) = DF28_1 n (DL28_1 n m) := rfl
theorem DL28_1_eq (n : Nat × Nat) (hn : n.2 = 1) : ∀ m, L28_1 n m = DL28_1 n m
  | 0 => by funext sheets0 i6 out5; kernel_rfl
  | m + 1 => by
    have ih := DL28_1_eq n hn m
    funext sheets0 i6 out5; refine (L28_1_eq n m sheets0 i6 out5).trans ?_
    rw [DL28_1_succ]
    unfold DF28_1
    (try simp only [ih, DL28_3_eq n hn, DL28_2_eq n hn, S26_D n hn, S70_D n hn]) <;> first | with_reducible rfl | rfl
noncomputable def D28 (n : Nat × Nat) (sheets0 : List (Int × Int)) : Option R28 :=
    (D26 n sheets0).bind fun r1' =>
    (bif (r1' != 0) then some ([], r1')
    else (bif decide (0 ≤ (sheets0.length : Int)) && decide ((sheets0.length : Int) ≤ (sheets0.length : Int)) && decide ((sheets0.length : Int) ≤ lim) then DL28_1 n n.1 sheets0 0 (List.replicate (Int.toNat (sheets0.length : Int)) (0 : Int))
      else none))
theorem S28_D (n : Nat × Nat) (hn : n.2 = 1) : S28 n = D28 n := by
  funext sheets0; refine (S28_eq n sheets0).trans ?_
  unfold D28
  (try simp only [DL28_3_eq n hn, DL28_2_eq n hn, DL28_1_eq n hn, S26_D n hn, S70_D n hn]) <;> first | with_reducible rfl | rfl
end Go.Proofs.Ytnlbhjmbaedadaa
