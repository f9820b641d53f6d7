/- Texts of this claim, joined: G43 to Co8. -/
import Derived.KernelRfl
import Derived.Test.YtjgmfdgpgdaclaaProg
import Derived.WalkKit
import Derived.Test.YtjgmfdgpgdaclaaP8
set_option linter.unusedVariables false
set_option linter.unusedSimpArgs false
set_option maxRecDepth 100000
namespace Go.Proofs.Ytjgmfdgpgdaclaa
open Go.Vi
/- (headword/headwordlaw12.Mint).made -/
abbrev R43 := List Int
noncomputable def c43 : Code := bodyOf Try.f43
noncomputable def an43 : Ann := (.s .l (.s .l (.s (.s .l (.j [7] (.j [2, 7, 19, 20, 21] (.s .l (.s (.j [2, 7, 19, 20, 21] .l .l) (.j [] (.j [2, 7, 19, 20, 21] (.s .l (.s .l (.s .l (.j [2, 7, 19, 20, 21] .l .l)))) .l) .l))) .l) .l)) .l)))
def pk43 : List PK := [.c (.pair (.int .u8) (.pair (.int .u8) (.pair (.int .u8) (.pair (.int .u8) (.pair (.int .u8) (.int .u8)))))), .c (.int .i64), .c (.int .i64)]
def rk43 : List RK := [.sl (.int .i64) 6]
noncomputable def rt43 (st : St) : Option R43 := rtG rk43 st
noncomputable def E43 (n : Nat × Nat) : Env := { T := tab, phi := noPhi, eff := fun _ => false, fuel := n.1, hold := n.2 }
noncomputable def kq43_1 (n : Nat × Nat) : St → Option R43 := run (E43 n) (cB (cB (cB c43))) (Ann.snd (Ann.snd (Ann.snd an43))) rt43 (fun _ _ => none) rt43
noncomputable def kc43_2 (n : Nat × Nat) : St → Option R43 := fun s => normC [7] s (kq43_1 n)
noncomputable def xb43_3 (n : Nat × Nat) : Nat → St → Option R43 := fun j s => bif Nat.beq j 0 then normC [7] s (kq43_1 n) else (fun _ _ => none) j s
noncomputable def F43_4 (n : Nat × Nat) : (St → Option R43) → St → Option R43 := fun K s => run (E43 n) (cA (cA (cB (cA (cB (cB c43)))))) (Ann.fst (Ann.fst (Ann.snd (Ann.fst (Ann.snd (Ann.snd an43)))))) (fun s => normC [2, 7, 19, 20, 21] s K) (xb43_3 n) rt43 s
noncomputable def kq43_5 (n : Nat × Nat) (m1 : Nat) : St → Option R43 := run (E43 n) (cB (cB (cA (cA (cB (cA (cB (cB c43)))))))) (Ann.snd (Ann.snd (Ann.fst (Ann.fst (Ann.snd (Ann.fst (Ann.snd (Ann.snd an43)))))))) (fun s => normC [2, 7, 19, 20, 21] s (loopN (F43_4 n) m1)) (xb43_3 n) rt43
noncomputable def kc43_6 (n : Nat × Nat) (m1 : Nat) : St → Option R43 := fun s => normC [2, 7, 19, 20, 21] s (kq43_5 n m1)
noncomputable def kq43_7 (n : Nat × Nat) (m1 : Nat) : St → Option R43 := run (E43 n) (cB (cB (cB (cA (cA (cB (cA (cB (cB c43))))))))) (Ann.snd (Ann.snd (Ann.snd (Ann.fst (Ann.fst (Ann.snd (Ann.fst (Ann.snd (Ann.snd an43))))))))) (fun s => normC [2, 7, 19, 20, 21] s (loopN (F43_4 n) m1)) (xb43_3 n) rt43
noncomputable def kc43_8 (n : Nat × Nat) (m1 : Nat) : St → Option R43 := fun s => normC [2, 7, 19, 20, 21] s (loopN (fun _ => (kq43_7 n m1)) n.2)
noncomputable def xb43_9 (n : Nat × Nat) (m1 : Nat) : Nat → St → Option R43 := fun j s => bif Nat.beq j 1 then normC [2, 7, 19, 20, 21] s (loopN (fun _ => (kq43_7 n m1)) n.2) else (xb43_3 n) j s
noncomputable def kc43_10 (n : Nat × Nat) (m1 : Nat) : St → Option R43 := fun s => normC [2, 7, 19, 20, 21] s (kc43_8 n m1)
noncomputable def L43_1 (n : Nat × Nat) (m : Nat) (most2 : Int) (v19 : List Int) (v20 : Int) (v21 : Int) (out7 : List Int) : Option R43 := loopN (F43_4 n) m { tm := [uu, uu, .c (.int .i64 most2), uu, uu, uu, uu, .own 7 none false, uu, uu, uu, uu, uu, uu, uu, uu, uu, uu, uu, .c (.sl (.int .u8) v19 false), .c (.int .i64 v20), .c (.int .i64 v21), uu, uu, uu, uu, uu, uu, uu, uu, uu, uu, uu, uu, uu, uu, uu, uu, uu, uu, uu, uu, uu, uu, uu, uu, uu], hp := (upd emp 7 (.arr (.int .i64) out7 false)) }
noncomputable def L43_2 (n : Nat × Nat) (m1 : Nat) (most2 : Int) (v19 : List Int) (v20 : Int) (v21 : Int) (out7 : List Int) : Option R43 := loopN (fun _ => (kq43_7 n m1)) n.2 { tm := [uu, uu, .c (.int .i64 most2), uu, uu, uu, uu, .own 7 none false, uu, uu, uu, uu, uu, uu, uu, uu, uu, uu, uu, .c (.sl (.int .u8) v19 false), .c (.int .i64 v20), .c (.int .i64 v21), uu, uu, uu, uu, uu, uu, uu, uu, uu, uu, uu, uu, uu, uu, uu, uu, uu, uu, uu, uu, uu, uu, uu, uu, uu], hp := (upd emp 7 (.arr (.int .i64) out7 false)) }
theorem L43_1_eq (n : Nat × Nat) (m1 : Nat) (most2 : Int) (v19 : List Int) (v20 : Int) (v21 : Int) (out7 : List Int) : L43_1 n (m1 + 1) most2 v19 v20 v21 out7 =
 (bif decide (v21 < v20) then (idx v19 v21).bind fun x1' =>
 (bif inB (wr .i64 ((out7.length : Int) - 1)) out7.length then (idx out7 (wr .i64 ((out7.length : Int) - 1))).bind fun x2' =>
 (bif 2 == 0 then none
 else (bif (wr .i64 (Int.tdiv most2 2)) == 0 then none
 else (bif decide (wr .i64 ((wr .i64 (x2' + 1)) + (Int.tmod (wr .i64 x1') (wr .i64 (Int.tdiv most2 2)))) ≤ most2) then (bif decide (out7.length + [wr .i64 ((wr .i64 (x2' + 1)) + (Int.tmod (wr .i64 x1') (wr .i64 (Int.tdiv most2 2))))].length ≤ lim) then L43_2 n m1 most2 v19 v20 v21 (out7 ++ [wr .i64 ((wr .i64 (x2' + 1)) + (Int.tmod (wr .i64 x1') (wr .i64 (Int.tdiv most2 2))))])
 else none)
 else L43_2 n m1 most2 v19 v20 v21 out7)))
 else none)
 else some out7) := by kernel_rfl
theorem L43_2_raw (n : Nat × Nat) (m1 : Nat) (most2 : Int) (v19 : List Int) (v20 : Int) (v21 : Int) (out7 : List Int) : (kq43_7 n m1) { tm := [uu, uu, .c (.int .i64 most2), uu, uu, uu, uu, .own 7 none false, uu, uu, uu, uu, uu, uu, uu, uu, uu, uu, uu, .c (.sl (.int .u8) v19 false), .c (.int .i64 v20), .c (.int .i64 v21), uu, uu, uu, uu, uu, uu, uu, uu, uu, uu, uu, uu, uu, uu, uu, uu, uu, uu, uu, uu, uu, uu, uu, uu, uu], hp := (upd emp 7 (.arr (.int .i64) out7 false)) } =
    L43_1 n m1 most2 v19 v20 (wr .i64 (v21 + 1)) out7 := by kernel_rfl
noncomputable def S43 (n : Nat × Nat) (m0 : Int × Int × Int × Int × Int × Int) (many1 : Int) (most2 : Int) : Option R43 := run (E43 n) c43 an43 rt43 (fun _ _ => none) rt43 { tm := [.agg [.int .u8 m0.1, .int .u8 m0.2.1, .int .u8 m0.2.2.1, .int .u8 m0.2.2.2.1, .int .u8 m0.2.2.2.2.1, .int .u8 m0.2.2.2.2.2], .c (.int .i64 many1), .c (.int .i64 most2), uu, uu, uu, uu, uu, uu, uu, uu, uu, uu, uu, uu, uu, uu, uu, uu, uu, uu, uu, uu, uu, uu, uu, uu, uu, uu, uu, uu, uu, uu, uu, uu, uu, uu, uu, uu, uu, uu, uu, uu, uu, uu, uu, uu], hp := emp }
theorem S43_eq (n : Nat × Nat) (m0 : Int × Int × Int × Int × Int × Int) (many1 : Int) (most2 : Int) : S43 n m0 many1 most2 =
 (bif many1 == 0 then none
 else (bif bounds none (some (Int.tmod (wr .i64 m0.1) many1)) none 5 then L43_1 n n.1 most2 ([m0.2.1, m0.2.2.1, m0.2.2.2.1, m0.2.2.2.2.1, m0.2.2.2.2.2].take (Int.toNat (Int.tmod (wr .i64 m0.1) many1))) (([m0.2.1, m0.2.2.1, m0.2.2.2.1, m0.2.2.2.2.1, m0.2.2.2.2.2].take (Int.toNat (Int.tmod (wr .i64 m0.1) many1))).length : Int) 0 [1]
 else none)) := by kernel_rfl
theorem S43_run (n : Nat × Nat) (xs : pksDen pk43) : S43 n xs.1 xs.2.1 xs.2.2.1 = runG (E43 n) noScope c43 an43 (rtG rk43) (fun _ _ => none) (rtG rk43) (st0 pk43 xs Try.f43.ntmps) := by kernel_rfl
noncomputable def P43 (n : Nat × Nat) := phiOf pk43 rk43 (fun xs => S43 n xs.1 xs.2.1 xs.2.2.1)
theorem call43 : CallOK Try.prog 43 := callOK_of Try.func43 (by kernel_rfl) (by kernel_rfl)
theorem env43 (n : Nat × Nat) : EnvOK Try.prog (E43 n) := envOK0 noPhi_ok rfl rfl
theorem par43 (n : Nat × Nat) : EnvPar (E43 n) := envPar0 noPhi_par rfl
theorem FC43 (n : Nat × Nat) : FCs Try.prog 43 (P43 n) := phiOf_FCs fun xs r h vs hv => FC.of_runG tabOK eqsOK (env43 n) (par43 n) mixed (fun _ => noScope_ok) Try.func43 (c := c43) (an := an43) (pks := pk43) (rks := rk43) (by kernel_rfl) (by kernel_rfl) hv ((S43_run n xs).symm.trans h)
abbrev R47 := Bool
noncomputable def c47 : Code := bodyOf Try.f47
noncomputable def an47 : Ann := (.s .l (.s (.s .l (.j [] (.j [0, 11, 12, 13] (.s .l (.s (.j [0, 11, 12, 13] .l .l) (.s (.j [0, 11, 12, 13] (.s .l (.s .l (.s .l (.j [0, 11, 12, 13] .l .l)))) .l) .l))) .l) .l)) .l))
def pk47 : List PK := [.c (.sl (.int .i64)), .p (.int .i64)]
def rk47 : List RK := [.c .bool 3]
noncomputable def rt47 (st : St) : Option R47 := rtG rk47 st
noncomputable def E47 (n : Nat × Nat) : Env := { T := tab, phi := (consPhi 44 (fun _ => true) (P44 n) (consPhi 45 (fun _ => true) (P45 n) noPhi)), eff := fun _ => false, fuel := n.1, hold := n.2 }
noncomputable def kq47_1 (n : Nat × Nat) : St → Option R47 := run (E47 n) (cB (cB c47)) (Ann.snd (Ann.snd an47)) rt47 (fun _ _ => none) rt47
noncomputable def kc47_2 (n : Nat × Nat) : St → Option R47 := fun s => normC [] s (kq47_1 n)
noncomputable def xb47_3 (n : Nat × Nat) : Nat → St → Option R47 := fun j s => bif Nat.beq j 0 then normC [] s (kq47_1 n) else (fun _ _ => none) j s
noncomputable def F47_4 (n : Nat × Nat) : (St → Option R47) → St → Option R47 := fun K s => run (E47 n) (cA (cA (cB (cA (cB c47))))) (Ann.fst (Ann.fst (Ann.snd (Ann.fst (Ann.snd an47))))) (fun s => normC [0, 11, 12, 13] s K) (xb47_3 n) rt47 s
noncomputable def kq47_5 (n : Nat × Nat) (m1 : Nat) : St → Option R47 := run (E47 n) (cB (cB (cA (cA (cB (cA (cB c47))))))) (Ann.snd (Ann.snd (Ann.fst (Ann.fst (Ann.snd (Ann.fst (Ann.snd an47))))))) (fun s => normC [0, 11, 12, 13] s (loopN (F47_4 n) m1)) (xb47_3 n) rt47
noncomputable def kc47_6 (n : Nat × Nat) (m1 : Nat) : St → Option R47 := fun s => normC [0, 11, 12, 13] s (kq47_5 n m1)
noncomputable def kq47_7 (n : Nat × Nat) (m1 : Nat) : St → Option R47 := run (E47 n) (cB (cB (cB (cA (cA (cB (cA (cB c47)))))))) (Ann.snd (Ann.snd (Ann.snd (Ann.fst (Ann.fst (Ann.snd (Ann.fst (Ann.snd an47)))))))) (fun s => normC [0, 11, 12, 13] s (loopN (F47_4 n) m1)) (xb47_3 n) rt47
noncomputable def kc47_8 (n : Nat × Nat) (m1 : Nat) : St → Option R47 := fun s => normC [0, 11, 12, 13] s (kq47_7 n m1)
noncomputable def xb47_9 (n : Nat × Nat) (m1 : Nat) : Nat → St → Option R47 := fun j s => bif Nat.beq j 1 then normC [0, 11, 12, 13] s (kq47_7 n m1) else (xb47_3 n) j s
noncomputable def kc47_10 (n : Nat × Nat) (m1 : Nat) : St → Option R47 := fun s => normC [0, 11, 12, 13] s (kc47_8 n m1)
noncomputable def L47_1 (n : Nat × Nat) (m : Nat) (coins0 : List Int) (v12 : Int) (v13 : Int) (v11 : List Int) : Option R47 := loopN (F47_4 n) m { tm := [.c (.sl (.int .i64) coins0 false), uu, uu, uu, uu, uu, uu, uu, uu, uu, uu, .own 11 none false, .c (.int .i64 v12), .c (.int .i64 v13), uu, uu, uu, uu, uu, uu, uu, uu, uu, uu, uu, uu, uu, uu], hp := (upd emp 11 (.arr (.int .i64) v11 false)) }
theorem L47_1_eq (n : Nat × Nat) (m1 : Nat) (coins0 : List Int) (v12 : Int) (v13 : Int) (v11 : List Int) : L47_1 n (m1 + 1) coins0 v12 v13 v11 =
 (bif decide (v13 < v12) then (bif inB v13 v11.length then (idx v11 v13).bind fun x2' =>
 (S45 n coins0 v13).bind fun r3' =>
 (bif decide (r3'.2 > x2') then some false
 else L47_1 n m1 coins0 v12 (wr .i64 (v13 + 1)) v11)
 else none)
 else some true) := by kernel_rfl
noncomputable def S47 (n : Nat × Nat) (coins0 : List Int) (v1 : Int) : Option R47 := run (E47 n) c47 an47 rt47 (fun _ _ => none) rt47 { tm := [.c (.sl (.int .i64) coins0 false), .iptr [.int .i64 v1], uu, uu, uu, uu, uu, uu, uu, uu, uu, uu, uu, uu, uu, uu, uu, uu, uu, uu, uu, uu, uu, uu, uu, uu, uu, uu], hp := emp }
theorem S47_eq (n : Nat × Nat) (coins0 : List Int) (v1 : Int) : S47 n coins0 v1 =
 (S44 n coins0 (wr .i64 (5 * v1))).bind fun r1' =>
    L47_1 n n.1 coins0 (r1'.length : Int) 0 r1' := by kernel_rfl
theorem S47_run (n : Nat × Nat) (xs : pksDen pk47) : S47 n xs.1 xs.2.1 = runG (E47 n) noScope c47 an47 (rtG rk47) (fun _ _ => none) (rtG rk47) (st0 pk47 xs Try.f47.ntmps) := by kernel_rfl
noncomputable def P47 (n : Nat × Nat) := phiOf pk47 rk47 (fun xs => S47 n xs.1 xs.2.1)
theorem call47 : CallOK Try.prog 47 := callOK_of Try.func47 (by kernel_rfl) (by kernel_rfl)
theorem env47 (n : Nat × Nat) : EnvOK Try.prog (E47 n) := envOK0 (consPhi_ok (FC44 n) call44 (consPhi_ok (FC45 n) call45 noPhi_ok)) rfl rfl
theorem par47 (n : Nat × Nat) : EnvPar (E47 n) := envPar0 (consPhi_par phiOf_Par1 (consPhi_par phiOf_Par1 noPhi_par)) rfl
theorem FC47 (n : Nat × Nat) : FCs Try.prog 47 (P47 n) := phiOf_FCs fun xs r h vs hv => FC.of_runG tabOK eqsOK (env47 n) (par47 n) mixed (fun _ => noScope_ok) Try.func47 (c := c47) (an := an47) (pks := pk47) (rks := rk47) (by kernel_rfl) (by kernel_rfl) hv ((S47_run n xs).symm.trans h)
abbrev R8 := Bool
noncomputable def c8 : Code := bodyOf Try.f8
noncomputable def an8 : Ann := (.s .l (.s .l (.s .l (.s .l (.s .l (.s .l (.s .l (.s .l (.s .l (.s .l (.s (.s .l (.j [5, 6, 7, 8, 9, 10, 11, 12, 87, 88, 91, 110, 111, 112, 115, 116, 117, 118, 119, 122] .l .l)) (.s (.s .l (.j [6, 7, 8, 10, 11, 12, 110, 111, 112, 115, 116, 117, 118, 119, 122] .l .l)) .l))))))))))))
def pk8 : List PK := [.c (.pair (.int .u8) (.pair (.int .u8) (.pair (.int .u8) (.pair (.int .u8) (.pair (.int .u8) (.int .u8)))))), .c (.int .u8)]
def rk8 : List RK := [.c .bool 4]
noncomputable def rt8 (st : St) : Option R8 := rtG rk8 st
noncomputable def E8 (n : Nat × Nat) : Env := { T := tab, phi := (consPhi 17 (fun _ => true) (P17 n) (consPhi 27 (fun _ => true) (P27 n) (consPhi 33 (fun _ => true) (P33 n) (consPhi 43 (fun _ => true) (P43 n) (consPhi 45 (fun _ => true) (P45 n) (consPhi 46 (fun _ => true) (P46 n) (consPhi 47 (fun _ => true) (P47 n) noPhi))))))), eff := fun g => Nat.beq g 43, fuel := n.1, hold := n.2, pcl := [67, 80] }
noncomputable def kq8_1 (n : Nat × Nat) : St → Option R8 := run (E8 n) (cB (cB (cB (cB (cB (cB (cB (cB (cB (cB (cB c8))))))))))) (Ann.snd (Ann.snd (Ann.snd (Ann.snd (Ann.snd (Ann.snd (Ann.snd (Ann.snd (Ann.snd (Ann.snd (Ann.snd an8))))))))))) rt8 (fun _ _ => none) rt8
noncomputable def kc8_2 (n : Nat × Nat) : St → Option R8 := fun s => normC [5, 6, 7, 8, 9, 10, 11, 12, 87, 88, 91, 110, 111, 112, 115, 116, 117, 118, 119, 122] s (kq8_1 n)
noncomputable def kq8_3 (n : Nat × Nat) : St → Option R8 := run (E8 n) (cB (cB (cB (cB (cB (cB (cB (cB (cB (cB (cB (cB c8)))))))))))) (Ann.snd (Ann.snd (Ann.snd (Ann.snd (Ann.snd (Ann.snd (Ann.snd (Ann.snd (Ann.snd (Ann.snd (Ann.snd (Ann.snd an8)))))))))))) rt8 (fun _ _ => none) rt8
noncomputable def kc8_4 (n : Nat × Nat) : St → Option R8 := fun s => normC [6, 7, 8, 10, 11, 12, 110, 111, 112, 115, 116, 117, 118, 119, 122] s (kq8_3 n)
noncomputable def S8 (n : Nat × Nat) (m0 : Int × Int × Int × Int × Int × Int) (step1 : Int) : Option R8 := run (E8 n) c8 an8 rt8 (fun _ _ => none) rt8 { tm := [.agg [.int .u8 m0.1, .int .u8 m0.2.1, .int .u8 m0.2.2.1, .int .u8 m0.2.2.2.1, .int .u8 m0.2.2.2.2.1, .int .u8 m0.2.2.2.2.2], .c (.int .u8 step1), uu, uu, uu, uu, uu, uu, uu, uu, uu, uu, uu, uu, uu, uu, uu, uu, uu, uu, uu, uu, uu, uu, uu, uu, uu, uu, uu, uu, uu, uu, uu, uu, uu, uu, uu, uu, uu, uu, uu, uu, uu, uu, uu, uu, uu, uu, uu, uu, uu, uu, uu, uu, uu, uu, uu, uu, uu, uu, uu, uu, uu, uu, uu, uu, uu, uu, uu, uu, uu, uu, uu, uu, uu, uu, uu, uu, uu, uu, uu, uu, uu, uu, uu, uu, uu, uu, uu, uu, uu, uu, uu, uu, uu, uu, uu, uu, uu, uu, uu, uu, uu, uu, uu, uu, uu, uu, uu, uu, uu, uu, uu, uu, uu, uu, uu, uu, uu, uu, uu, uu, uu, uu], hp := emp }
theorem S8_eq (n : Nat × Nat) (m0 : Int × Int × Int × Int × Int × Int) (step1 : Int) : S8 n m0 step1 =
 (S43 n m0 5 30).bind fun r1' =>
 (idx r1' (wr .i64 ((r1'.length : Int) - 1))).bind fun x2' =>
 (bif 10 == 0 then none
 else (S46 n r1').bind fun r3' =>
 (bif decide (r3'.length + [wr .i64 ((wr .i64 (x2' + 1)) + (Int.tmod (wr .i64 step1) 10))].length ≤ lim) then (S33 n r1' (wr .i64 ((wr .i64 (x2' + 1)) + (Int.tmod (wr .i64 step1) 10)))).bind fun r4' =>
 (S27 n (r3' ++ [wr .i64 ((wr .i64 (x2' + 1)) + (Int.tmod (wr .i64 step1) 10))])).bind fun r5' =>
 (S33 n r1' x2').bind fun r6' =>
 (S33 n r1' 41).bind fun r7' =>
 ((bif ((r5'.2 != 0) == false) then (S47 n (r3' ++ [wr .i64 ((wr .i64 (x2' + 1)) + (Int.tmod (wr .i64 step1) 10))]) (wr .i64 ((wr .i64 (x2' + 1)) + (Int.tmod (wr .i64 step1) 10)))).bind fun r8' =>
 some (r5'.1 != r8')
 else some true)).bind fun b9' =>
 ((bif (b9' == false) then some (r6'.2 != 7)
 else some true)).bind fun b10' =>
 ((bif (b10' == false) then some (r7'.2 != 1)
 else some true)).bind fun b11' =>
 (bif b11' then some false
 else (S47 n r1' (wr .i64 ((wr .i64 (x2' + 1)) + (Int.tmod (wr .i64 step1) 10)))).bind fun r12' =>
 (bif (!r12') then ((bif ((r4'.2 == 13) == true) then some (!r4'.1)
 else some false)).bind fun b13' =>
 ((bif (b13' == true) then (S17 n).bind fun r14' =>
 some r14'
 else some false)).bind fun b15' =>
 some b15'
 else (bif x2' == 0 then none
 else (S45 n (r3' ++ [wr .i64 ((wr .i64 (x2' + 1)) + (Int.tmod (wr .i64 step1) 10))]) (wr .i64 ((wr .i64 (Int.tdiv (wr .i64 ((wr .i64 ((wr .i64 ((wr .i64 (x2' + 1)) + (Int.tmod (wr .i64 step1) 10))) + x2')) - 1)) x2')) * x2'))).bind fun r16' =>
 ((bif ((r4'.2 == 0) == true) then some (r4'.1 == r5'.1)
 else some false)).bind fun b17' =>
 ((bif (b17' == true) then some (r4'.1 == (decide (r16'.2 ≤ wr .i64 (Int.tdiv (wr .i64 ((wr .i64 ((wr .i64 ((wr .i64 (x2' + 1)) + (Int.tmod (wr .i64 step1) 10))) + x2')) - 1)) x2'))))
 else some false)).bind fun b18' =>
 ((bif (b18' == true) then (S17 n).bind fun r19' =>
 some r19'
 else some false)).bind fun b20' =>
 some b20')))
 else none)) := by kernel_rfl
theorem S8_run (n : Nat × Nat) (xs : pksDen pk8) : S8 n xs.1 xs.2.1 = runG (E8 n) noScope c8 an8 (rtG rk8) (fun _ _ => none) (rtG rk8) (st0 pk8 xs Try.f8.ntmps) := by kernel_rfl
noncomputable def P8 (n : Nat × Nat) := phiOf pk8 rk8 (fun xs => S8 n xs.1 xs.2.1)
theorem call8 : CallOK Try.prog 8 := callOK_of Try.func8 (by kernel_rfl) (by kernel_rfl)
theorem env8 (n : Nat × Nat) : EnvOK Try.prog (E8 n) := envOK0 (consPhi_ok (FC17 n) call17 (consPhi_ok (FC27 n) call27 (consPhi_ok (FC33 n) call33 (consPhi_ok (FC43 n) call43 (consPhi_ok (FC45 n) call45 (consPhi_ok (FC46 n) call46 (consPhi_ok (FC47 n) call47 noPhi_ok))))))) rfl rfl
theorem par8 (n : Nat × Nat) : EnvPar (E8 n) := envPar0 (consPhi_par phiOf_Par1 (consPhi_par phiOf_Par1 (consPhi_par phiOf_Par1 (consPhi_par phiOf_Par1 (consPhi_par phiOf_Par1 (consPhi_par phiOf_Par1 (consPhi_par phiOf_Par1 noPhi_par))))))) rfl
theorem FC8 (n : Nat × Nat) : FCs Try.prog 8 (P8 n) := phiOf_FCs fun xs r h vs hv => FC.of_runG tabOK eqsOK (env8 n) (par8 n) mixed (fun _ => noScope_ok) Try.func8 (c := c8) (an := an8) (pks := pk8) (rks := rk8) (by kernel_rfl) (by kernel_rfl) hv ((S8_run n xs).symm.trans h)
/-D 43 -/
noncomputable def DL43_2 (n : Nat × Nat) (f1 : Int → List Int → Int → Int → List Int → Option R43) (most2 : Int) (v19 : List Int) (v20 : Int) (v21 : Int) (out7 : List Int) : Option R43 :=
    f1 most2 v19 v20 (wr .i64 (v21 + 1)) out7
theorem DL43_2_eq (n : Nat × Nat) (hn : n.2 = 1) (m1 : Nat) : L43_2 n m1 = DL43_2 n (L43_1 n m1) := by
  funext most2 v19 v20 v21 out7; refine ((held_eq hn _).trans (L43_2_raw n m1 most2 v19 v20 v21 out7)).trans ?_
  unfold DL43_2
  first | with_reducible rfl | rfl
noncomputable def DF43_1 (n : Nat × Nat) (f1 : Int → List Int → Int → Int → List Int → Option R43) (most2 : Int) (v19 : List Int) (v20 : Int) (v21 : Int) (out7 : List Int) : Option R43 :=
 (bif decide (v21 < v20) then (idx v19 v21).bind fun x1' =>
 (bif inB (wr .i64 ((out7.length : Int) - 1)) out7.length then (idx out7 (wr .i64 ((out7.length : Int) - 1))).bind fun x2' =>
 (bif 2 == 0 then none
 else (bif (wr .i64 (Int.tdiv most2 2)) == 0 then none
 else (bif decide (wr .i64 ((wr .i64 (x2' + 1)) + (Int.tmod (wr .i64 x1') (wr .i64 (Int.tdiv most2 2)))) ≤ most2) then (bif decide (out7.length + [wr .i64 ((wr .i64 (x2' + 1)) + (Int.tmod (wr .i64 x1') (wr .i64 (Int.tdiv most2 2))))].length ≤ lim) then DL43_2 n f1 most2 v19 v20 v21 (out7 ++ [wr .i64 ((wr .i64 (x2' + 1)) + (Int.tmod (wr .i64 x1') (wr .i64 (Int.tdiv most2 2))))])
 else none)
 else DL43_2 n f1 most2 v19 v20 v21 out7)))
 else none)
 else some out7)
noncomputable def DL43_1 (n : Nat × Nat) (m : Nat) : Int → List Int → Int → Int → List Int → Option R43 := Nat.rec (motive := fun _ => Int → List Int → Int → Int → List Int → Option R43) (fun _ _ _ _ _ => none) (fun _ ih => DF43_1 n ih) m
theorem DL43_1_succ (n : Nat × Nat) (m : Nat) : DL43_1 n (m + 1) = DF43_1 n (DL43_1 n m) := rfl
theorem DL43_1_eq (n : Nat × Nat) (hn : n.2 = 1) : ∀ m, L43_1 n m = DL43_1 n m
  | 0 => by funext most2 v19 v20 v21 out7; kernel_rfl
  | m + 1 => by
    have ih := DL43_1_eq n hn m
    funext most2 v19 v20 v21 out7; refine (L43_1_eq n m most2 v19 v20 v21 out7).trans ?_
    rw [DL43_1_succ]
    unfold DF43_1
    (try simp only [ih, DL43_2_eq n hn]) <;> first | with_reducible rfl | rfl
noncomputable def D43 (n : Nat × Nat) (m0 : Int × Int × Int × Int × Int × Int) (many1 : Int) (most2 : Int) : Option R43 :=
 (bif many1 == 0 then none
 else (bif bounds none (some (Int.tmod (wr .i64 m0.1) many1)) none 5 then DL43_1 n n.1 most2 ([m0.2.1, m0.2.2.1, m0.2.2.2.1, m0.2.2.2.2.1, m0.2.2.2.2.2].take (Int.toNat (Int.tmod (wr .i64 m0.1) many1))) (([m0.2.1, m0.2.2.1, m0.2.2.2.1, m0.2.2.2.2.1, m0.2.2.2.2.2].take (Int.toNat (Int.tmod (wr .i64 m0.1) many1))).length : Int) 0 [1]
 else none))
theorem S43_D (n : Nat × Nat) (hn : n.2 = 1) : S43 n = D43 n := by
  funext m0 many1 most2; refine (S43_eq n m0 many1 most2).trans ?_
  unfold D43
  (try simp only [DL43_2_eq n hn, DL43_1_eq n hn]) <;> first | with_reducible rfl | rfl
/-D 47 -/
noncomputable def DF47_1 (n : Nat × Nat) (f1 : List Int → Int → Int → List Int → Option R47) (coins0 : List Int) (v12 : Int) (v13 : Int) (v11 : List Int) : Option R47 :=
 (bif decide (v13 < v12) then (bif inB v13 v11.length then (idx v11 v13).bind fun x2' =>
 (D45 n coins0 v13).bind fun r3' =>
 (bif decide (r3'.2 > x2') then some false
 else f1 coins0 v12 (wr .i64 (v13 + 1)) v11)
 else none)
 else some true)
noncomputable def DL47_1 (n : Nat × Nat) (m : Nat) : List Int → Int → Int → List Int → Option R47 := Nat.rec (motive := fun _ => List Int → Int → Int → List Int → Option R47) (fun _ _ _ _ => none) (fun _ ih => DF47_1 n ih) m
theorem DL47_1_succ (n : Nat × Nat) (m : Nat) : DL47_1 n (m + 1) = DF47_1 n (DL47_1 n m) := rfl
theorem DL47_1_eq (n : Nat × Nat) (hn : n.2 = 1) : ∀ m, L47_1 n m = DL47_1 n m
  | 0 => by funext coins0 v12 v13 v11; kernel_rfl
  | m + 1 => by
    have ih := DL47_1_eq n hn m
    funext coins0 v12 v13 v11; refine (L47_1_eq n m coins0 v12 v13 v11).trans ?_
    rw [DL47_1_succ]
    unfold DF47_1
    (try simp only [ih, S44_D n hn, S45_D n hn]) <;> first | with_reducible rfl | rfl
noncomputable def D47 (n : Nat × Nat) (coins0 : List Int) (v1 : Int) : Option R47 :=
 (D44 n coins0 (wr .i64 (5 * v1))).bind fun r1' =>
    DL47_1 n n.1 coins0 (r1'.length : Int) 0 r1'
theorem S47_D (n : Nat × Nat) (hn : n.2 = 1) : S47 n = D47 n := by
  funext coins0 v1; refine (S47_eq n coins0 v1).trans ?_
  unfold D47
  (try simp only [DL47_1_eq n hn, S44_D n hn, S45_D n hn]) <;> first | with_reducible rfl | rfl
/-D 8 -/
noncomputable def D8 (n : Nat × Nat) (m0 : Int × Int × Int × Int × Int × Int) (step1 : Int) : Option R8 :=
 (D43 n m0 5 30).bind fun r1' =>
 (idx r1' (wr .i64 ((r1'.length : Int) - 1))).bind fun x2' =>
 (bif 10 == 0 then none
 else (D46 n r1').bind fun r3' =>
 (bif decide (r3'.length + [wr .i64 ((wr .i64 (x2' + 1)) + (Int.tmod (wr .i64 step1) 10))].length ≤ lim) then (D33 n r1' (wr .i64 ((wr .i64 (x2' + 1)) + (Int.tmod (wr .i64 step1) 10)))).bind fun r4' =>
 (D27 n (r3' ++ [wr .i64 ((wr .i64 (x2' + 1)) + (Int.tmod (wr .i64 step1) 10))])).bind fun r5' =>
 (D33 n r1' x2').bind fun r6' =>
 (D33 n r1' 41).bind fun r7' =>
 ((bif ((r5'.2 != 0) == false) then (D47 n (r3' ++ [wr .i64 ((wr .i64 (x2' + 1)) + (Int.tmod (wr .i64 step1) 10))]) (wr .i64 ((wr .i64 (x2' + 1)) + (Int.tmod (wr .i64 step1) 10)))).bind fun r8' =>
 some (r5'.1 != r8')
 else some true)).bind fun b9' =>
 ((bif (b9' == false) then some (r6'.2 != 7)
 else some true)).bind fun b10' =>
 ((bif (b10' == false) then some (r7'.2 != 1)
 else some true)).bind fun b11' =>
 (bif b11' then some false
 else (D47 n r1' (wr .i64 ((wr .i64 (x2' + 1)) + (Int.tmod (wr .i64 step1) 10)))).bind fun r12' =>
 (bif (!r12') then ((bif ((r4'.2 == 13) == true) then some (!r4'.1)
 else some false)).bind fun b13' =>
 ((bif (b13' == true) then (D17 n).bind fun r14' =>
 some r14'
 else some false)).bind fun b15' =>
 some b15'
 else (bif x2' == 0 then none
 else (D45 n (r3' ++ [wr .i64 ((wr .i64 (x2' + 1)) + (Int.tmod (wr .i64 step1) 10))]) (wr .i64 ((wr .i64 (Int.tdiv (wr .i64 ((wr .i64 ((wr .i64 ((wr .i64 (x2' + 1)) + (Int.tmod (wr .i64 step1) 10))) + x2')) - 1)) x2')) * x2'))).bind fun r16' =>
 ((bif ((r4'.2 == 0) == true) then some (r4'.1 == r5'.1)
 else some false)).bind fun b17' =>
 ((bif (b17' == true) then some (r4'.1 == (decide (r16'.2 ≤ wr .i64 (Int.tdiv (wr .i64 ((wr .i64 ((wr .i64 ((wr .i64 (x2' + 1)) + (Int.tmod (wr .i64 step1) 10))) + x2')) - 1)) x2'))))
 else some false)).bind fun b18' =>
 ((bif (b18' == true) then (D17 n).bind fun r19' =>
 some r19'
 else some false)).bind fun b20' =>
 some b20')))
 else none))
theorem S8_D (n : Nat × Nat) (hn : n.2 = 1) : S8 n = D8 n := by
  funext m0 step1; refine (S8_eq n m0 step1).trans ?_
  unfold D8
  (try simp only [S17_D n hn, S27_D n hn, S33_D n hn, S43_D n hn, S45_D n hn, S46_D n hn, S47_D n hn]) <;> first | with_reducible rfl | rfl
end Go.Proofs.Ytjgmfdgpgdaclaa
set_option linter.unusedVariables false
set_option linter.unusedSimpArgs false
namespace Go.Proofs.Ytjgmfdgpgdaclaa
open Go.Vi
theorem same_loop (n : Nat × Nat) (a b : List Int) (hab : a.length = b.length) (hl : a.length ≤ 100) : ∀ (m i : Nat), i ≤ a.length → a.length - i < m → DL24_1 n m a b (i : Int) = some (decide (a.drop i = b.drop i))
  | 0, i, _, h => by omega
  | m + 1, i, hi, h => by
    rw [DL24_1_succ]
    unfold DF24_1
    by_cases hlt : i < a.length
    · rw [decide_eq_true (show (i : Int) < (a.length : Int) by omega), cond_true, idx_nat hlt, idx_nat (show i < b.length by omega), drop_cons hlt, drop_cons (show i < b.length by omega)]
      simp only [Option.bind_some]
      have ih := same_loop n a b hab hl m (i + 1) (by omega) (by omega)
      rw [show ((i + 1 : Nat) : Int) = wr .i64 ((i : Int) + 1) by rw [wr_ok (by omega) (by omega)]; omega] at ih
      by_cases e : a[i] = b[i]
      · rw [show (a[i] != b[i]) = false by simp [e], cond_false, ih]
        congr 1
        rw [e]
        by_cases e2 : a.drop (i + 1) = b.drop (i + 1)
        · rw [decide_eq_true e2, decide_eq_true (by rw [e2])]
        · rw [decide_eq_false e2, decide_eq_false (fun h => e2 (List.cons.inj h).2)]
      · rw [show (a[i] != b[i]) = true by simpa using e, cond_true]
        congr 1
        symm
        exact decide_eq_false fun h => e (List.cons.inj h).1
    · rw [decide_eq_false (show ¬ (i : Int) < (a.length : Int) by omega), cond_false, List.drop_of_length_le (by omega), List.drop_of_length_le (by omega)]
      simp
theorem same_eq {n : Nat × Nat} (hn : 1000 ≤ n.1) (a b : List Int) (hl : a.length ≤ 100) : D24 n a b = some (decide (a = b)) := by
  unfold D24
  by_cases h : a.length = b.length
  · rw [show ((a.length : Int) != (b.length : Int)) = false by simp [h], cond_false]
    have := same_loop n a b h hl n.1 0 (by omega) (by omega)
    simpa using this
  · rw [show ((a.length : Int) != (b.length : Int)) = true by simpa using (show ¬ (a.length : Int) = (b.length : Int) by omega), cond_true]
    congr 1
    symm
    exact decide_eq_false fun e => h (by rw [e])

theorem hN1 : 1000 ≤ N.1 := by decide
theorem hN2 : 2000 ≤ N.1 := by decide
end Go.Proofs.Ytjgmfdgpgdaclaa
set_option linter.unusedVariables false
set_option linter.unusedSimpArgs false
set_option maxRecDepth 100000
namespace Go.Proofs.Ytjgmfdgpgdaclaa
open Go.Vi
abbrev R23 := List Int × Int
noncomputable def c23 : Code := bodyOf Try.f23
noncomputable def an23 : Ann := (.s .l (.s .l (.s (.s .l (.j [0, 1] .l .l)) .l)))
def pk23 : List PK := [.c (.sl (.int .i64)), .c (.int .i64)]
def rk23 : List RK := [.own (.int .i64) 4, .c (.int .i64) 5]
noncomputable def rt23 (st : St) : Option R23 := rtG rk23 st
noncomputable def E23 (n : Nat × Nat) : Env := { T := tab, phi := (consPhi 58 (fun _ => true) (P58 n) (consPhi 64 (fun _ => true) (P64 n) noPhi)), eff := fun _ => false, fuel := n.1, hold := n.2 }
noncomputable def kq23_1 (n : Nat × Nat) : St → Option R23 := run (E23 n) (cB (cB (cB c23))) (Ann.snd (Ann.snd (Ann.snd an23))) rt23 (fun _ _ => none) rt23
noncomputable def kc23_2 (n : Nat × Nat) : St → Option R23 := fun s => normC [0, 1] s (kq23_1 n)
noncomputable def S23 (n : Nat × Nat) (coins0 : List Int) (sum1 : Int) : Option R23 := run (E23 n) c23 an23 rt23 (fun _ _ => none) rt23 { tm := [.c (.sl (.int .i64) coins0 false), .c (.int .i64 sum1), uu, uu, uu, uu, uu, uu, uu, uu, uu, uu, uu, uu, uu, uu], hp := emp }
theorem S23_eq (n : Nat × Nat) (coins0 : List Int) (sum1 : Int) : S23 n coins0 sum1 =
 (S58 n coins0 sum1).bind fun r1' =>
 (bif (r1' != 0) then some ([], r1')
 else (S64 n coins0 sum1).bind fun r2' =>
 some (r2', 0)) := by kernel_rfl
theorem S23_run (n : Nat × Nat) (xs : pksDen pk23) : S23 n xs.1 xs.2.1 = runG (E23 n) noScope c23 an23 (rtG rk23) (fun _ _ => none) (rtG rk23) (st0 pk23 xs Try.f23.ntmps) := by kernel_rfl
noncomputable def P23 (n : Nat × Nat) := phiOf pk23 rk23 (fun xs => S23 n xs.1 xs.2.1)
theorem call23 : CallOK Try.prog 23 := callOK_of Try.func23 (by kernel_rfl) (by kernel_rfl)
theorem env23 (n : Nat × Nat) : EnvOK Try.prog (E23 n) := envOK0 (consPhi_ok (FC58 n) call58 (consPhi_ok (FC64 n) call64 noPhi_ok)) rfl rfl
theorem par23 (n : Nat × Nat) : EnvPar (E23 n) := envPar0 (consPhi_par phiOf_Par1 (consPhi_par phiOf_Par1 noPhi_par)) rfl
theorem FC23 (n : Nat × Nat) : FCs Try.prog 23 (P23 n) := phiOf_FCs fun xs r h vs hv => FC.of_runG tabOK eqsOK (env23 n) (par23 n) mixed (fun _ => noScope_ok) Try.func23 (c := c23) (an := an23) (pks := pk23) (rks := rk23) (by kernel_rfl) (by kernel_rfl) hv ((S23_run n xs).symm.trans h)
/-D 23 -/
noncomputable def D23 (n : Nat × Nat) (coins0 : List Int) (sum1 : Int) : Option R23 :=
 (D58 n coins0 sum1).bind fun r1' =>
 (bif (r1' != 0) then some ([], r1')
 else (D64 n coins0 sum1).bind fun r2' =>
 some (r2', 0))
theorem S23_D (n : Nat × Nat) (hn : n.2 = 1) : S23 n = D23 n := by
  funext coins0 sum1; refine (S23_eq n coins0 sum1).trans ?_
  unfold D23
  (try simp only [S58_D n hn, S64_D n hn]) <;> first | with_reducible rfl | rfl
end Go.Proofs.Ytjgmfdgpgdaclaa
/-
  Coins by numbers; few coins; the first best payment; purses.
-/
set_option linter.unusedVariables false
set_option linter.unusedSimpArgs false
namespace Go.Proofs.Ytjgmfdgpgdaclaa
open Go.Vi

theorem u8_rng {x : Int} (h : (Lit.int .u8 x).wf = true) : 0 ≤ x ∧ x ≤ 255 := by
  simpa [Lit.wf, IntKind.min, IntKind.max, IntKind.signed, IntKind.bits] using h

/-- Coins so far, none above a number. -/
structure Mv (most : Int) (cs : List Int) : Prop where
  pos : 0 < cs.length
  rng : ∀ c ∈ cs, 1 ≤ c ∧ c ≤ most
  inc : cs.Pairwise (· < ·)
  one : cs.headD 0 = 1
theorem Mv.vld {most : Int} {cs : List Int} (h : Mv most cs) (hl : cs.length ≤ 6) (hm : most ≤ 40) : Vld cs := ⟨h.pos, hl, fun c hc => by have := h.rng c hc; omega, h.inc, h.one⟩
theorem made_loop (n : Nat × Nat) (most : Int) (hm2 : 2 ≤ most) (hm : most ≤ 40) (v : List Int) (hv : ∀ x ∈ v, 0 ≤ x ∧ x ≤ 255) (hvl : v.length ≤ 5) : ∀ (m k : Nat) (out : List Int), k ≤ v.length → v.length - k < m → Mv most out → out.length + (v.length - k) ≤ 10 →
    ∃ cs : List Int, DL43_1 n m most v (v.length : Int) (k : Int) out = some cs ∧ Mv most cs ∧ cs.length ≤ out.length + (v.length - k)
  | 0, k, out, _, h, _, _ => by omega
  | m + 1, k, out, hk, h, ho, hol => by
    rw [DL43_1_succ]
    unfold DF43_1
    by_cases hlt : k < v.length
    · have hx := hv v[k] (List.getElem_mem _)
      have hp := ho.pos
      have hll : out.length - 1 < out.length := by omega
      have hlr := ho.rng out[out.length - 1] (List.getElem_mem _)
      rw [decide_eq_true (show (k : Int) < (v.length : Int) by omega), cond_true, idx_nat hlt]
      simp only [Option.bind_some]
      rw [show wr .i64 ((out.length : Int) - 1) = ((out.length - 1 : Nat) : Int) by rw [wr_ok (by omega) (by omega)]; omega, inB_nat hll, cond_true, idx_nat hll]
      simp only [Option.bind_some]
      rw [show ((2 : Nat) == 0) = false from rfl, cond_false, Int.tdiv_eq_ediv_of_nonneg (by omega), wr_ok (x := most / 2) (by omega) (by omega), show (most / 2 == 0) = false by simpa using (show most / 2 ≠ 0 by omega), cond_false]
      rw [wr_ok (x := v[k]) (by omega) (by omega), Int.tmod_eq_emod_of_nonneg hx.1]
      have e1 := Int.emod_nonneg v[k] (show most / 2 ≠ 0 by omega)
      have e2 := Int.emod_lt_of_pos v[k] (show 0 < most / 2 by omega)
      generalize v[k] % (most / 2) = y at *
      generalize hd : out[out.length - 1] = d at *
      rw [wr_ok (x := d + 1) (by omega) (by omega), wr_ok (x := d + 1 + y) (by omega) (by omega)]
      have ih := made_loop n most hm2 hm v hv hvl m (k + 1)
      rw [show ((k + 1 : Nat) : Int) = wr .i64 ((k : Int) + 1) by rw [wr_ok (by omega) (by omega)]; omega] at ih
      by_cases hle : d + 1 + y ≤ most
      · rw [decide_eq_true hle, cond_true, decide_eq_true (show out.length + [d + 1 + y].length ≤ lim by simp [lim]; omega), cond_true]
        simp only [DL43_2]
        have hmv : Mv most (out ++ [d + 1 + y]) := by
          refine ⟨by simp, fun c hc => ?_, ?_, ?_⟩
          · rcases List.mem_append.1 hc with hc | hc
            · exact ho.rng c hc
            · simp at hc; omega
          · rw [List.pairwise_append]
            refine ⟨ho.inc, by simp, fun a ha b hb => ?_⟩
            simp at hb
            obtain ⟨j, hj, rfl⟩ := List.getElem_of_mem ha
            by_cases e : j = out.length - 1
            · subst e; omega
            · have := List.pairwise_iff_getElem.1 ho.inc j (out.length - 1) hj hll (by omega)
              omega
          · have := ho.one
            cases out with
            | nil => simp at hp
            | cons a l => exact this
        obtain ⟨cs, a, b, c⟩ := ih (out ++ [d + 1 + y]) (by omega) (by omega) hmv (by simp; omega)
        exact ⟨cs, a, b, by simp at c; omega⟩
      · rw [decide_eq_false hle, cond_false]
        simp only [DL43_2]
        obtain ⟨cs, a, b, c⟩ := ih out (by omega) (by omega) ho (by omega)
        exact ⟨cs, a, b, by omega⟩
    · rw [decide_eq_false (show ¬ (k : Int) < (v.length : Int) by omega), cond_false]
      exact ⟨out, rfl, ho, by omega⟩

theorem made_eq {n : Nat × Nat} (hn : 1000 ≤ n.1) {m0 : Int × Int × Int × Int × Int × Int} (h : Wf (.pair (.int .u8) (.pair (.int .u8) (.pair (.int .u8) (.pair (.int .u8) (.pair (.int .u8) (.int .u8)))))) m0) {many most : Int} (hy1 : 1 ≤ many) (hy2 : many ≤ 6) (hm1 : 2 ≤ most) (hm2 : most ≤ 40) :
    ∃ cs : List Int, D43 n m0 many most = some cs ∧ Vld cs ∧ (cs.length : Int) ≤ many ∧ ∀ c ∈ cs, c ≤ most := by
  obtain ⟨a, b, c, d, e, f⟩ := m0
  have u8 : ∀ {x : Int}, Wf (.int .u8) x → 0 ≤ x ∧ x ≤ 255 := fun {x} hx => u8_rng hx
  obtain ⟨ha, hb, hc, hd, he, hf⟩ := h
  have ha := u8 ha
  have hb := u8 hb
  have hc := u8 hc
  have hd := u8 hd
  have he := u8 he
  have hf := u8 hf
  unfold D43
  rw [show (many == 0) = false by simpa using (show many ≠ 0 by omega), cond_false, wr_ok (x := a) (by omega) (by omega), Int.tmod_eq_emod_of_nonneg ha.1]
  have e1 := Int.emod_nonneg a (show many ≠ 0 by omega)
  have e2 := Int.emod_lt_of_pos a (show 0 < many by omega)
  generalize a % many = r at *
  obtain ⟨k, rfl⟩ := Int.eq_ofNat_of_zero_le e1
  rw [show bounds none (some (k : Int)) none 5 = true by simp [bounds]; omega, cond_true, Int.toNat_natCast]
  have hl : ([b, c, d, e, f].take k).length ≤ 5 := by simp; omega
  have hll : ([b, c, d, e, f].take k).length ≤ k := by simp; omega
  obtain ⟨cs, g1, g2, g3⟩ := made_loop n most hm1 hm2 ([b, c, d, e, f].take k) (fun x hx => by
    have := List.mem_of_mem_take hx
    simp only [List.mem_cons, List.not_mem_nil, or_false] at this
    simp only at hb hc hd he hf
    omega) hl n.1 0 [1] (by omega) (by omega) ⟨by simp, by simp; omega, by simp, rfl⟩ (by simp; omega)
  simp only [List.length_singleton] at g3
  exact ⟨cs, g1, g2.vld (by omega) hm2, by omega, fun c hc => (g2.rng c hc).2⟩

noncomputable def fewS (cs : List Int) (s : Int) : Int × Int := if smd cs s ≠ 0 then (0, smd cs s) else (opt cs s, 0)
theorem fewS_eq {n : Nat × Nat} (hn : 1000 ≤ n.1) (cs : List Int) (s : Int) : D18 n cs s = some (fewS cs s) := by
  unfold D18 fewS
  rw [smd_eq hn]
  simp only [Option.bind_some]
  by_cases h : smd cs s = 0
  · obtain ⟨hv, h0, h1⟩ := smd_zero h
    rw [show (smd cs s != 0) = false by simp [h], cond_false, if_neg (by simpa using h)]
    obtain ⟨s', rfl⟩ := Int.eq_ofNat_of_zero_le h0
    rw [few_eq hn hv s' (by omega)]
    simp only [Option.bind_some]
    have hsl : s' < (ftab cs s').length := by rw [ftab_length]; omega
    rw [inB_nat hsl, cond_true, idx_nat hsl, ftab_get]
    rfl
  · rw [show (smd cs s != 0) = true by simpa using h, cond_true, if_pos h]
noncomputable def grS (cs : List Int) (s : Int) : List Int × Int := if smd cs s ≠ 0 then ([], smd cs s) else ((gr cs s).1, 0)
theorem grS_eq {n : Nat × Nat} (hn : 1000 ≤ n.1) (cs : List Int) (s : Int) : D22 n cs s = some (grS cs s) := by
  unfold D22 grS
  rw [smd_eq hn]
  simp only [Option.bind_some]
  by_cases h : smd cs s = 0
  · obtain ⟨hv, h0, h1⟩ := smd_zero h
    rw [show (smd cs s != 0) = false by simp [h], cond_false, if_neg (by simpa using h), great_eq hv h0 (by omega)]
    rfl
  · rw [show (smd cs s != 0) = true by simpa using h, cond_true, if_pos h]
theorem rgrS_eq {n : Nat × Nat} (hn : 1000 ≤ n.1) (cs : List Int) (s : Int) : D23 n cs s = some (grS cs s) := by
  unfold D23 grS
  rw [smdr_eq hn]
  simp only [Option.bind_some]
  by_cases h : smd cs s = 0
  · obtain ⟨hv, h0, h1⟩ := smd_zero h
    rw [show (smd cs s != 0) = false by simp [h], cond_false, if_neg (by simpa using h), rgreat_eq hn hv h0 (by omega)]
    rfl
  · rw [show (smd cs s != 0) = true by simpa using h, cond_true, if_pos h]

/-! ### Payments with so many coins -/
theorem PayU.snoc {d : Int} : ∀ {l : List Int} {s : Int} {p : List Int}, PayU (l ++ [d]) s p ↔ ∃ q n, p = q ++ [n] ∧ 0 ≤ n ∧ PayU l (s - n * d) q
  | [], s, p => by
    constructor
    · rintro ⟨n, p', rfl, h0, h1, rfl⟩
      exact ⟨[], n, rfl, h0, h1, rfl⟩
    · rintro ⟨q, n, rfl, h0, h1, rfl⟩
      exact ⟨n, [], rfl, h0, h1, rfl⟩
  | c :: l, s, p => by
    constructor
    · rintro ⟨n, p', rfl, h0, h1⟩
      obtain ⟨q, m, rfl, h2, h3⟩ := PayU.snoc.1 h1
      exact ⟨n :: q, m, rfl, h2, n, q, rfl, h0, by rwa [show s - m * d - n * c = s - n * c - m * d by omega]⟩
    · rintro ⟨q, m, rfl, h2, n, q', rfl, h0, h3⟩
      exact ⟨n, q' ++ [m], rfl, h0, PayU.snoc.2 ⟨q', m, rfl, h2, by rwa [show s - n * c - m * d = s - m * d - n * c by omega]⟩⟩
theorem tot_snoc (l : List Int) (n : Int) : tot (l ++ [n]) = tot l + n := by
  induction l with
  | nil => simp [tot]
  | cons a l ih => simp only [List.cons_append, tot]; omega
def Ex (l : List Int) (s m : Int) : Prop := ∃ p, PayU l s p ∧ tot p = m
theorem Ex.bd {l : List Int} (hp : ∀ c ∈ l, 1 ≤ c) {s m : Int} (h : Ex l s m) : 0 ≤ m ∧ m ≤ s := by
  obtain ⟨p, h1, h2⟩ := h
  have := PayU.sum hp h1
  omega
theorem Ex.snoc {l : List Int} {d s m : Int} : Ex (l ++ [d]) s m ↔ ∃ n, 0 ≤ n ∧ Ex l (s - n * d) (m - n) := by
  constructor
  · rintro ⟨p, h1, h2⟩
    obtain ⟨q, n, rfl, h3, h4⟩ := PayU.snoc.1 h1
    rw [tot_snoc] at h2
    exact ⟨n, h3, q, h4, by omega⟩
  · rintro ⟨n, h3, q, h4, h5⟩
    exact ⟨q ++ [n], PayU.snoc.2 ⟨q, n, rfl, h3, h4⟩, by rw [tot_snoc]; omega⟩
theorem Ex.cons {l : List Int} {d s m : Int} : Ex (d :: l) s m ↔ ∃ n, 0 ≤ n ∧ Ex l (s - n * d) (m - n) := by
  constructor
  · rintro ⟨p, ⟨n, q, rfl, h3, h4⟩, h2⟩
    simp only [tot] at h2
    exact ⟨n, h3, q, h4, by omega⟩
  · rintro ⟨n, h3, q, h4, h5⟩
    exact ⟨n :: q, ⟨n, q, rfl, h3, h4⟩, by simp only [tot]; omega⟩
open Classical in
theorem paid_loop (n : Nat × Nat) {l : List Int} {d : Int} (hp : ∀ c ∈ l, 1 ≤ c) (hd : 1 ≤ d) (hd2 : d ≤ 40) (hl : l.length ≤ 6) (SS : List Int → Int → Int → Option R60) (s m : Int) (hs : s ≤ 1000) (hs0 : -100000 ≤ s) (hm : m ≤ 1000) (hm0 : 0 ≤ m) (hSS : ∀ x y, -100000 ≤ x → x ≤ 1000 → 0 ≤ y → y ≤ 1000 → SS l x y = some (decide (Ex l x y))) :
    ∀ (f : Nat) (k : Nat), (k : Int) ≤ m + 1 → m + 1 - k < f → (∀ j : Int, 0 ≤ j → j < k → ¬ Ex l (s - j * d) (m - j)) → DL60_1 n SS f (l ++ [d]) s m (l.length : Int) (k : Int) = some (decide (Ex (l ++ [d]) s m))
  | 0, k, _, h, _ => by omega
  | f + 1, k, hk, h, hno => by
    rw [DL60_1_succ]
    unfold DF60_1
    have none_of : (∀ j : Int, 0 ≤ j → ¬ Ex l (s - j * d) (m - j)) → decide (Ex (l ++ [d]) s m) = false := fun hh => decide_eq_false fun e => by
      obtain ⟨j, h1, h2⟩ := Ex.snoc.1 e
      exact hh j h1 h2
    have hlt : l.length < (l ++ [d]).length := by simp
    have hg : (l ++ [d])[l.length] = d := by simp
    by_cases hkm : (k : Int) ≤ m
    · rw [decide_eq_true hkm, show (true == true) = true from rfl, cond_true, idx_nat hlt, hg]
      simp only [Option.bind_some]
      have hkd : (k : Int) * 1 ≤ (k : Int) * d := Int.mul_le_mul_of_nonneg_left hd (by omega)
      have hkd2 : (k : Int) * d ≤ 1000 * 40 := Int.mul_le_mul (by omega) hd2 (by omega) (by omega)
      rw [wr_ok (x := (k : Int) * d) (by omega) (by omega)]
      by_cases hks : (k : Int) * d ≤ s
      · rw [decide_eq_true hks, cond_true, show bounds none (some (l.length : Int)) none (l ++ [d]).length = true by simp [bounds]; omega, cond_true]
        rw [wr_ok (x := s - (k : Int) * d) (by omega) (by omega), wr_ok (x := m - (k : Int)) (by omega) (by omega), Int.toNat_natCast, List.take_left, hSS _ _ (by omega) (by omega) (by omega) (by omega)]
        simp only [Option.bind_some]
        by_cases he : Ex l (s - (k : Int) * d) (m - (k : Int))
        · rw [decide_eq_true he, cond_true]
          congr 1
          symm
          exact decide_eq_true (Ex.snoc.2 ⟨k, by omega, he⟩)
        · rw [decide_eq_false he, cond_false]
          have ih := paid_loop n hp hd hd2 hl SS s m hs hs0 hm hm0 hSS f (k + 1) (by omega) (by omega) (fun j h1 h2 => by
            by_cases e : j = k
            · subst e; exact he
            · exact hno j h1 (by omega))
          rw [show ((k + 1 : Nat) : Int) = wr .i64 ((k : Int) + 1) by rw [wr_ok (by omega) (by omega)]; omega] at ih
          exact ih
      · rw [decide_eq_false hks, cond_false]
        congr 1
        symm
        refine none_of fun j h1 h2 => ?_
        by_cases hj : j < k
        · exact hno j h1 hj h2
        · have := h2.bd hp
          have : (k : Int) * d ≤ j * d := Int.mul_le_mul_of_nonneg_right (by omega) (by omega)
          omega
    · rw [decide_eq_false hkm, show (false == true) = false from rfl, cond_false]
      simp only [Option.bind_some, cond_false]
      congr 1
      symm
      refine none_of fun j h1 h2 => ?_
      by_cases hj : j < k
      · exact hno j h1 hj h2
      · have := h2.bd hp
        omega
open Classical in
theorem paid_eq (n : Nat × Nat) (hn : 2000 ≤ n.1) : ∀ (D : Nat) {cs : List Int}, (∀ c ∈ cs, 1 ≤ c ∧ c ≤ 40) → cs.length < D → cs.length ≤ 6 → ∀ {s m : Int}, -100000 ≤ s → s ≤ 1000 → 0 ≤ m → m ≤ 1000 → DT60 n D cs s m = some (decide (Ex cs s m))
  | 0, cs, _, h, _, s, m, _, _, _, _ => by omega
  | D + 1, cs, hr, hD, h6, s, m, s0, s1, m0, m1 => by
    rw [DT60_succ]
    unfold DB60
    by_cases h0 : cs.length = 0
    · have : cs = [] := List.eq_nil_of_length_eq_zero h0
      subst this
      rw [show ((([] : List Int).length : Int) == 0) = true from rfl, cond_true]
      have he : Ex [] s m ↔ s = 0 ∧ m = 0 := by
        constructor
        · rintro ⟨p, ⟨h1, rfl⟩, h2⟩
          exact ⟨h1, h2.symm⟩
        · rintro ⟨h1, h2⟩
          exact ⟨[], ⟨h1, rfl⟩, h2.symm⟩
      by_cases hs : s = 0
      · by_cases hm : m = 0
        · rw [decide_eq_true (he.2 ⟨hs, hm⟩)]; simp [hs, hm]
        · rw [decide_eq_false (fun h => hm (he.1 h).2), show (m == 0) = false by simpa using hm, show (s == 0) = true by simpa using hs]; rfl
      · rw [decide_eq_false (fun h => hs (he.1 h).1), show (s == 0) = false by simpa using hs]; rfl
    · rw [show ((cs.length : Int) == 0) = false by simpa using h0, cond_false]
      obtain ⟨l, x, rfl⟩ : ∃ l x, cs = l ++ [x] := ⟨cs.dropLast, cs.getLast (by intro e; rw [e] at h0; simp at h0), (List.dropLast_concat_getLast _).symm⟩
      simp only [List.length_append, List.length_singleton] at hD h6
      have hx := hr x (by simp)
      have := paid_loop n (l := l) (d := x) (fun c hc => (hr c (by simp [hc])).1) hx.1 hx.2 (by omega) (DT60 n D) s m s1 s0 m1 m0 (fun y z y0 y1 z0 z1 => paid_eq n hn D (fun c hc => hr c (by simp [hc])) (by omega) (by omega) y0 y1 z0 z1) n.1 0 (by omega) (by omega) (fun j h1 h2 => by omega)
      rw [show wr .i64 (((l ++ [x]).length : Int) - 1) = (l.length : Int) by rw [wr_ok (by simp only [List.length_append, List.length_singleton]; omega) (by simp only [List.length_append, List.length_singleton]; omega)]; simp]
      exact this

/-- The first payment with so many coins. -/
def Lf (l : List Int) (s m : Int) (p : List Int) : Prop := PayU l s p ∧ tot p = m ∧ ∀ p', PayU l s p' → tot p' = m → Lx p p'
open Classical in
theorem first_in (n : Nat × Nat) (hn : 2000 ≤ n.1) {cs : List Int} (hv : Vld cs) (f1 : List Int → Int → Int → List Int → Int → Int → List Int → Option R20) (i : Nat) (hi : i < cs.length) (s m : Int) (hs0 : 0 ≤ s) (hs1 : s ≤ 200) (hm0 : 0 ≤ m) (hm1 : m ≤ 200) (he : Ex (cs.drop i) s m) (v25 : List Int) (v26 v27 : Int) (out : List Int) (hol : out.length ≤ 10) :
    ∀ (f k : Nat), (k : Int) ≤ m → m - k < f → (∀ j : Int, 0 ≤ j → j < k → ¬ Ex (cs.drop (i + 1)) (s - j * cs[i]) (m - j)) →
    ∃ k' : Int, 0 ≤ k' ∧ k' ≤ m ∧ Ex (cs.drop (i + 1)) (s - k' * cs[i]) (m - k') ∧ (∀ j : Int, 0 ≤ j → j < k' → ¬ Ex (cs.drop (i + 1)) (s - j * cs[i]) (m - j)) ∧
      DL20_2 n f1 f cs s m cs[i] (cs.drop (i + 1)) (k : Int) v25 v26 v27 out = f1 cs (s - k' * cs[i]) (m - k') v25 v26 (wr .i64 (v27 + 1)) (out ++ [k'])
  | 0, k, _, h, _ => by omega
  | f + 1, k, hk, h, hno => by
    have hl := hv.len
    rw [DL20_2_succ]
    unfold DF20_2
    have hc := hv.rng cs[i] (List.getElem_mem _)
    have hkd : (k : Int) * 1 ≤ (k : Int) * cs[i] := Int.mul_le_mul_of_nonneg_left hc.1 (by omega)
    have hkd2 : (k : Int) * cs[i] ≤ 200 * 40 := Int.mul_le_mul (by omega) hc.2 (by omega) (by omega)
    have hfin : (¬ ((k : Int) < m ∧ ¬ Ex (cs.drop (i + 1)) (s - (k : Int) * cs[i]) (m - (k : Int)))) → ∃ k' : Int, 0 ≤ k' ∧ k' ≤ m ∧ Ex (cs.drop (i + 1)) (s - k' * cs[i]) (m - k') ∧ (∀ j : Int, 0 ≤ j → j < k' → ¬ Ex (cs.drop (i + 1)) (s - j * cs[i]) (m - j)) ∧
        (bif decide (out.length + [(k : Int)].length ≤ lim) then f1 cs (wr .i64 (s - (wr .i64 ((k : Int) * cs[i])))) (wr .i64 (m - (k : Int))) v25 v26 (wr .i64 (v27 + 1)) (out ++ [(k : Int)]) else none) = f1 cs (s - k' * cs[i]) (m - k') v25 v26 (wr .i64 (v27 + 1)) (out ++ [k']) := fun hh => by
      have hex : Ex (cs.drop (i + 1)) (s - (k : Int) * cs[i]) (m - (k : Int)) := by
        rw [drop_cons hi] at he
        obtain ⟨j, j0, j1⟩ := Ex.cons.1 he
        have hb := j1.bd (fun c hc => (hv.rng c (List.mem_of_mem_drop hc)).1)
        by_cases h1 : (k : Int) < m
        · exact Classical.byContradiction fun h2 => hh ⟨h1, h2⟩
        · by_cases h3 : j < k
          · exact absurd j1 (hno j j0 h3)
          · have : j = k := by omega
            subst this
            exact j1
      refine ⟨k, by omega, hk, hex, hno, ?_⟩
      rw [decide_eq_true (by simp [lim]; omega), cond_true, wr_ok (x := (k : Int) * cs[i]) (by omega) (by omega), wr_ok (x := s - (k : Int) * cs[i]) (by omega) (by omega), wr_ok (x := m - (k : Int)) (by omega) (by omega)]
    by_cases hkm : (k : Int) < m
    · rw [decide_eq_true hkm, show (true == true) = true from rfl, cond_true]
      have hpd := paid_eq n hn n.1 (cs := cs.drop (i + 1)) (fun c hc => hv.rng c (List.mem_of_mem_drop hc)) (by simp; omega) (by simp; omega) (s := s - (k : Int) * cs[i]) (m := m - (k : Int)) (by omega) (by omega) (by omega) (by omega)
      have hpd2 : D60 n (cs.drop (i + 1)) (wr .i64 (s - (wr .i64 ((k : Int) * cs[i])))) (wr .i64 (m - (k : Int))) = some (decide (Ex (cs.drop (i + 1)) (s - (k : Int) * cs[i]) (m - (k : Int)))) := by
        rw [wr_ok (x := (k : Int) * cs[i]) (by omega) (by omega), wr_ok (x := s - (k : Int) * cs[i]) (by omega) (by omega), wr_ok (x := m - (k : Int)) (by omega) (by omega)]
        exact hpd
      rw [hpd2]
      simp only [Option.bind_some]
      by_cases hex : Ex (cs.drop (i + 1)) (s - (k : Int) * cs[i]) (m - (k : Int))
      · simp only [decide_eq_true hex, Bool.not_true, cond_false]
        exact hfin (fun h => h.2 hex)
      · simp only [decide_eq_false hex, Bool.not_false, cond_true]
        have ih := first_in n hn hv f1 i hi s m hs0 hs1 hm0 hm1 he v25 v26 v27 out hol f (k + 1) (by omega) (by omega) (fun j h1 h2 => by
          by_cases e : j = k
          · subst e; exact hex
          · exact hno j h1 (by omega))
        rw [show ((k + 1 : Nat) : Int) = wr .i64 ((k : Int) + 1) by rw [wr_ok (by omega) (by omega)]; omega] at ih
        exact ih
    · rw [decide_eq_false hkm, show (false == true) = false from rfl, cond_false]
      simp only [Option.bind_some, cond_false]
      exact hfin (fun h => hkm h.1)
theorem first_out (n : Nat × Nat) (hn : 2000 ≤ n.1) {cs : List Int} (hv : Vld cs) : ∀ (f i : Nat) (s m : Int) (out : List Int), i ≤ cs.length → cs.length - i < f → 0 ≤ s → s ≤ 200 → 0 ≤ m → m ≤ 200 → Ex (cs.drop i) s m → out.length = i →
    ∃ p, Lf (cs.drop i) s m p ∧ DL20_1 n f cs s m cs (cs.length : Int) (i : Int) out = some (out ++ p, 0)
  | 0, i, s, m, out, _, h, _, _, _, _, _, _ => by omega
  | f + 1, i, s, m, out, hi, h, s0, s1, m0, m1, he, hol => by
    have hl := hv.len
    rw [DL20_1_succ]
    unfold DF20_1
    by_cases hlt : i < cs.length
    · rw [decide_eq_true (show (i : Int) < (cs.length : Int) by omega), cond_true, idx_nat hlt]
      simp only [Option.bind_some]
      have hw : wr .i64 ((i : Int) + 1) = ((i + 1 : Nat) : Int) := by rw [wr_ok (by omega) (by omega)]; omega
      rw [hw, show bounds (some ((i + 1 : Nat) : Int)) none none cs.length = true by simp [bounds]; omega, cond_true, Int.toNat_natCast]
      obtain ⟨k, k0, k1, k2, k3, k4⟩ := first_in n hn hv (DL20_1 n f) i hlt s m s0 s1 m0 m1 he cs (cs.length : Int) (i : Int) out (by omega) n.1 0 (by omega) (by omega) (fun j h1 h2 => by omega)
      rw [show ((0 : Nat) : Int) = 0 from rfl] at k4
      have hb := k2.bd (fun c hc => (hv.rng c (List.mem_of_mem_drop hc)).1)
      have hc := hv.rng cs[i] (List.getElem_mem _)
      have hkc := Int.mul_nonneg k0 (show 0 ≤ cs[i] by omega)
      obtain ⟨p, p1, p2⟩ := first_out n hn hv f (i + 1) (s - k * cs[i]) (m - k) (out ++ [k]) (by omega) (by omega) (by omega) (by omega) (by omega) (by omega) k2 (by simp [hol])
      refine ⟨k :: p, ?_, ?_⟩
      · rw [drop_cons hlt]
        refine ⟨⟨k, p, rfl, k0, p1.1⟩, by have := p1.2.1; simp only [tot]; omega, ?_⟩
        rintro p' ⟨k', q, rfl, h1, h2⟩ h3
        simp only [tot] at h3
        by_cases e : k' < k
        · exact absurd ⟨q, h2, by omega⟩ (k3 k' h1 e)
        · by_cases e2 : k' = k
          · subst e2
            exact .inr ⟨rfl, p1.2.2 q h2 (by omega)⟩
          · exact .inl (by omega)
      · rw [k4, hw, p2]
        simp
    · obtain rfl : i = cs.length := by omega
      rw [decide_eq_false (show ¬ (cs.length : Int) < (cs.length : Int) by omega), cond_false]
      rw [List.drop_of_length_le (Nat.le_refl _)] at he ⊢
      obtain ⟨p, ⟨h1, rfl⟩, h2⟩ := he
      exact ⟨[], ⟨⟨h1, rfl⟩, h2, fun p' h3 _ => by rw [h3.2]; exact Lx.refl _⟩, by simp⟩
theorem first_eq {n : Nat × Nat} (hn : 2000 ≤ n.1) (cs : List Int) (s : Int) : (smd cs s ≠ 0 ∧ D20 n cs s = some ([], smd cs s)) ∨ (smd cs s = 0 ∧ ∃ p, D20 n cs s = some (p, 0) ∧ IsBst (PayU cs s) p) := by
  unfold D20
  rw [smd_eq (by omega)]
  simp only [Option.bind_some]
  by_cases h : smd cs s = 0
  · obtain ⟨hv, h0, h1⟩ := smd_zero h
    right
    refine ⟨h, ?_⟩
    rw [show (smd cs s != 0) = false by simp [h], cond_false]
    obtain ⟨s', rfl⟩ := Int.eq_ofNat_of_zero_le h0
    rw [few_eq (by omega) hv s' (by omega)]
    simp only [Option.bind_some]
    have hsl : s' < (ftab cs s').length := by rw [ftab_length]; omega
    rw [inB_nat hsl, cond_true, idx_nat hsl, ftab_get]
    simp only [Option.bind_some]
    have hl := hv.len
    have o1 := opt_nonneg hv.mnt h0
    have o2 := opt_self hv.mnt h0
    obtain ⟨p, p1, p2⟩ := first_out n hn hv n.1 0 s' (opt cs s') [] (by omega) (by omega) h0 h1 o1 (by omega) (opt_pay hv.mnt h0) rfl
    refine ⟨p, by simpa using p2, p1.1, fun p' h' => ?_⟩
    have h4 := opt_pay_le hv.mnt h'
    have h5 := p1.2.1
    by_cases e : tot p' = opt cs s'
    · exact .inr ⟨by omega, p1.2.2 p' h' e⟩
    · exact .inl (by omega)
  · left
    exact ⟨h, by rw [show (smd cs s != 0) = true by simpa using h, cond_true]⟩
end Go.Proofs.Ytjgmfdgpgdaclaa
set_option linter.unusedVariables false
set_option linter.unusedSimpArgs false
namespace Go.Proofs.Ytjgmfdgpgdaclaa
open Go.Vi

/-! ### One coin more -/
def lastC (cs : List Int) : Int := cs[cs.length - 1]?.getD 0
theorem lastC_get {cs : List Int} (h : 0 < cs.length) : lastC cs = cs[cs.length - 1]'(by omega) := by
  unfold lastC
  rw [List.getElem?_eq_getElem (by omega), Option.getD_some]
theorem idx_last {cs : List Int} (h : 0 < cs.length) (hl : cs.length ≤ 100) : idx cs (wr .i64 ((cs.length : Int) - 1)) = some (lastC cs) := by
  rw [idx_int (k := cs.length - 1) (by rw [wr_ok (by omega) (by omega)]; omega) (by omega), lastC_get h]
theorem lastC_rng {cs : List Int} (h : Vld cs) : 1 ≤ lastC cs ∧ lastC cs ≤ 40 := by
  rw [lastC_get h.pos]
  exact h.rng _ (List.getElem_mem _)
noncomputable def withS (cs : List Int) (c : Int) : Bool × Int :=
  if chk cs ≠ 0 then (false, chk cs) else if cs.length = 6 then (false, 3) else if 40 < c then (false, 1) else if c ≤ lastC cs then (false, 7) else if 0 < fbad cs then (false, 13) else (decide (fbad (cs ++ [c]) = 0), 0)
theorem fbad_nn {cs : List Int} (h : Vld cs) : 0 ≤ fbad cs := by
  rcases fbad_spec h.mnt with ⟨e, _⟩ | ⟨e, _⟩ <;> omega
theorem with_eq {n : Nat × Nat} (hn : 1000 ≤ n.1) (cs : List Int) (c : Int) : D33 n cs c = some (withS cs c) := by
  unfold D33 withS
  rw [chk_eq hn]
  simp only [Option.bind_some]
  by_cases h : chk cs = 0
  · have hv := chk_vld h
    have hp := hv.pos
    have hl := hv.len
    rw [show (chk cs != 0) = false by simp [h], cond_false, if_neg (by simpa using h)]
    by_cases h6 : cs.length = 6
    · rw [show ((cs.length : Int) == 6) = true by simp [h6], cond_true, if_pos h6]
    rw [show ((cs.length : Int) == 6) = false by simpa using (show ¬ (cs.length : Int) = 6 by omega), cond_false, if_neg h6]
    by_cases h40 : 40 < c
    · rw [decide_eq_true (show c > 40 from h40), cond_true, if_pos h40]
    rw [decide_eq_false (show ¬ c > 40 from h40), cond_false, if_neg h40, idx_last hp (by omega)]
    simp only [Option.bind_some]
    by_cases hcl : c ≤ lastC cs
    · rw [decide_eq_true hcl, cond_true, if_pos hcl]
    rw [decide_eq_false hcl, cond_false, if_neg hcl, bad_eq hn hv]
    simp only [Option.bind_some]
    have hfn := fbad_nn hv
    by_cases hfb : 0 < fbad cs
    · rw [decide_eq_true (show fbad cs > 0 from hfb), cond_true, if_pos hfb]
    rw [decide_eq_false (show ¬ fbad cs > 0 from hfb), cond_false, if_neg hfb]
    have hd := lastC_rng hv
    rw [show (lastC cs == 0) = false by simpa using (show lastC cs ≠ 0 by omega), cond_false]
    have h46 : D46 n cs = some cs := by
      unfold D46
      cases cs with
      | nil => simp at hp
      | cons a l =>
        rw [decide_eq_true (show ([] : List Int).length + (a :: l).length ≤ lim by simp [lim]; simp at hl; omega)]
        rfl
    rw [h46]
    simp only [Option.bind_some]
    rw [decide_eq_true (show cs.length + [c].length ≤ lim by simp [lim]; omega), cond_true]
    have hvs := hv.snoc (by omega) (show cs[cs.length - 1]?.getD 0 < c by show lastC cs < c; omega) (show c ≤ 40 by omega)
    generalize hlc : lastC cs = d at *
    rw [wr_ok (x := c + d) (by omega) (by omega), wr_ok (x := c + d - 1) (by omega) (by omega), Int.tdiv_eq_ediv_of_nonneg (by omega)]
    have hm4 := Int.mul_ediv_add_emod (c + d - 1) d
    have hm5 := Int.emod_nonneg (c + d - 1) (show d ≠ 0 by omega)
    have hm6 := Int.emod_lt_of_pos (c + d - 1) (show 0 < d by omega)
    have hm7 := Int.ediv_nonneg (show 0 ≤ c + d - 1 by omega) (show 0 ≤ d by omega)
    have hm8 : (c + d - 1) / d * 1 ≤ (c + d - 1) / d * d := Int.mul_le_mul_of_nonneg_left hd.1 hm7
    rw [Int.mul_comm] at hm4
    generalize (c + d - 1) / d = m at *
    rw [wr_ok (x := m) (by omega) (by omega), wr_ok (x := m * d) (by omega) (by omega), great_eq hvs (by omega) (by omega)]
    simp only [Option.bind_some]
    have hone := one_iff hv hvs (show cs[cs.length - 1]?.getD 0 = d from hlc) (show d < c by omega) (show fbad cs = 0 by omega) (m := m) (by omega) (by omega)
    by_cases hx : (gr (cs ++ [c]) (m * d)).2.1 ≤ m
    · rw [decide_eq_true hx, decide_eq_true (hone.1 hx)]
    · rw [decide_eq_false hx, decide_eq_false (fun e => hx (hone.2 e))]
  · rw [show (chk cs != 0) = true by simpa using h, cond_true, if_pos h]
theorem rwith_eq {n : Nat × Nat} (hn : 1000 ≤ n.1) (cs : List Int) (c : Int) : D34 n cs c = some (withS cs c) := by
  unfold D34 withS
  rw [chkr_eq hn]
  simp only [Option.bind_some]
  by_cases h : chk cs = 0
  · have hv := chk_vld h
    have hp := hv.pos
    have hl := hv.len
    rw [if_neg (by simpa using h), h]
    simp only [show ((0 : Int) == 0) = true from rfl, show (true == true) = true from rfl, cond_true, Option.bind_some, show ((0 : Int) != 0) = false from rfl]
    by_cases h6 : cs.length = 6
    · rw [show ((cs.length : Int) == 6) = true by simp [h6], cond_true, if_pos h6]
      rfl
    rw [show ((cs.length : Int) == 6) = false by simpa using (show ¬ (cs.length : Int) = 6 by omega), cond_false, if_neg h6]
    by_cases h40 : 40 < c
    · rw [decide_eq_true (show c > 40 from h40), cond_true, if_pos h40]
      rfl
    rw [decide_eq_false (show ¬ c > 40 from h40), cond_false, if_neg h40, idx_last hp (by omega)]
    simp only [Option.bind_some]
    by_cases hcl : c ≤ lastC cs
    · rw [decide_eq_true hcl, cond_true, if_pos hcl]
      rfl
    rw [decide_eq_false hcl, cond_false, if_neg hcl, rbad_eq hn hv]
    simp only [Option.bind_some]
    by_cases hfb : 0 < fbad cs
    · rw [decide_eq_true (show fbad cs > 0 from hfb), cond_true, if_pos hfb]
      rfl
    rw [decide_eq_false (show ¬ fbad cs > 0 from hfb), cond_false, if_neg hfb]
    have hvs := hv.snoc (by omega) (show cs[cs.length - 1]?.getD 0 < c by show lastC cs < c; omega) (show c ≤ 40 by omega)
    rw [decide_eq_true (show ([] : List Int).length + cs.length ≤ lim by simp [lim]; omega), decide_eq_true (show (([] : List Int) ++ cs).length + [c].length ≤ lim by simp [lim]; omega), cond_false, cond_true, cond_true, List.nil_append, rbad_eq hn hvs]
    simp only [Option.bind_some]
    by_cases h2 : fbad (cs ++ [c]) = 0 <;> simp [h2]
  · rw [if_pos h]
    simp only [show (chk cs == 0) = false by simpa using h, show (false == true) = false from rfl, cond_false, Option.bind_some, show (chk cs != 0) = true by simpa using h, cond_true]

/-! ### How far -/
theorem rs_iff {l : List Int} : ∀ (k : Nat) (x : Int), rs l k x = true ↔ ∃ m, m ≤ k ∧ Rch l m x
  | 0, x => by
    simp only [rs, beq_iff_eq]
    constructor
    · intro h; exact ⟨0, Nat.le_refl 0, h⟩
    · rintro ⟨m, hm, h⟩
      obtain rfl : m = 0 := by omega
      exact h
  | k + 1, x => by
    simp only [rs, Bool.or_eq_true, List.any_eq_true, rs_iff k]
    constructor
    · rintro (⟨m, hm, h⟩ | ⟨c, hc, m, hm, h⟩)
      · exact ⟨m, by omega, h⟩
      · exact ⟨m + 1, by omega, c, hc, h⟩
    · rintro ⟨m, hm, h⟩
      cases m with
      | zero => exact .inl ⟨0, by omega, h⟩
      | succ m =>
        obtain ⟨c, hc, h⟩ := h
        exact .inr ⟨c, hc, m, by omega, h⟩
theorem rs_opt {l : List Int} (h : Mnt l) {k : Nat} {x : Int} (hx : 0 ≤ x) : rs l k x = decide (opt l x ≤ (k : Int)) := by
  rw [Bool.eq_iff_iff, rs_iff, decide_eq_true_eq]
  constructor
  · rintro ⟨m, hm, h1⟩
    have := opt_le h h1
    omega
  · intro h1
    obtain ⟨m, a, b, _⟩ := opt_spec h hx
    exact ⟨m, by omega, b⟩
theorem rch_top {cs : List Int} (hv : Vld cs) : ∀ {n : Nat} {s : Int}, Rch cs n s → s ≤ 40 * n
  | 0, s, h => by have h : s = 0 := h; omega
  | n + 1, s, ⟨c, hc, h⟩ => by have := rch_top hv h; have := hv.rng c hc; omega
theorem opt_top {cs : List Int} (hv : Vld cs) {s : Int} (hs : 0 ≤ s) : s ≤ 40 * opt cs s := by
  obtain ⟨m, a, b, _⟩ := opt_spec hv.mnt hs
  have := rch_top hv b
  omega
noncomputable def reachS (cs : List Int) (many : Int) : Int × Int := if chk cs ≠ 0 then (0, chk cs) else if many < 0 ∨ 5 < many then (0, 1) else (upTo (rs cs many.toNat) 300 0, 0)
theorem reach_eq {n : Nat × Nat} (hn : 1000 ≤ n.1) (cs : List Int) (many : Int) : D35 n cs many = some (reachS cs many) := by
  unfold D35 HF35 reachS
  rw [chk_eq hn]
  simp only [Option.bind_some]
  by_cases h : chk cs = 0
  · have hv := chk_vld h
    rw [show (chk cs != 0) = false by simp [h], cond_false, if_neg (by simpa using h)]
    by_cases h1 : many < 0
    · rw [decide_eq_true h1, Bool.true_or, cond_true, if_pos (.inl h1)]
    · by_cases h2 : many > 5
      · rw [decide_eq_true h2, Bool.or_true, cond_true, if_pos (.inr h2)]
      · rw [decide_eq_false h1, decide_eq_false h2, Bool.or_self, cond_false, if_neg (by omega)]
        have hb : ((cs.all fun c => decide (1 ≤ c) && decide (c ≤ 40)) && (decide (0 < cs.length) && decide (cs.length ≤ 6))) = true := by
          simp only [Bool.and_eq_true, decide_eq_true_eq, List.all_eq_true]
          exact ⟨fun c hc => hv.rng c hc, hv.pos, hv.len⟩
        rw [hb, cond_true]
  · rw [show (chk cs != 0) = true by simpa using h, cond_true, if_pos h]
theorem rreach_loop (n : Nat × Nat) {cs : List Int} (hv : Vld cs) (k : Nat) (hk : k ≤ 5) : ∀ (m s : Nat), s ≤ 200 → 200 - s < m → ∀ K, 200 - s < K → DL36_1 n m (k : Int) (s : Int) (ftab cs 201) = some (upTo (rs cs k) K s, 0)
  | 0, s, _, h, _, _ => by omega
  | m + 1, s, hs, h, 0, hK => by omega
  | m + 1, s, hs, h, K + 1, hK => by
    rw [DL36_1_succ]
    unfold DF36_1
    have hsl : s + 1 < (ftab cs 201).length := by rw [ftab_length]; omega
    rw [show wr .i64 ((s : Int) + 1) = ((s + 1 : Nat) : Int) by rw [wr_ok (by omega) (by omega)]; omega, inB_nat hsl, cond_true, idx_nat hsl, ftab_get]
    simp only [Option.bind_some, upTo]
    have hro := rs_opt hv.mnt (k := k) (x := (s : Int) + 1) (by omega)
    rw [hro, show ((s + 1 : Nat) : Int) = (s : Int) + 1 by omega]
    by_cases h1 : opt cs ((s : Int) + 1) ≤ (k : Int)
    · rw [decide_eq_true h1, cond_true, cond_true]
      have ht := opt_top hv (s := (s : Int) + 1) (by omega)
      have ih := rreach_loop n hv k hk m (s + 1) (by omega) (by omega) K (by omega)
      rw [show ((s + 1 : Nat) : Int) = (s : Int) + 1 by omega] at ih
      exact ih
    · rw [decide_eq_false h1, cond_false, cond_false]
theorem rreach_eq {n : Nat × Nat} (hn : 1000 ≤ n.1) (cs : List Int) (many : Int) : D36 n cs many = some (reachS cs many) := by
  unfold D36 reachS
  rw [chkr_eq hn]
  simp only [Option.bind_some, in_eq]
  by_cases h : chk cs = 0
  · have hv := chk_vld h
    rw [if_neg (by simpa using h), h]
    simp only [show ((0 : Int) == 0) = true from rfl, show (true == true) = true from rfl, cond_true, Option.bind_some, show ((0 : Int) != 0) = false from rfl, show ((1 : Int) != 0) = true from rfl, cond_false]
    by_cases h1 : many < 0 ∨ 5 < many
    · have hx : (!(decide (0 ≤ many) && decide (many ≤ 5))) = true := by
        rcases h1 with h1 | h1
        · rw [decide_eq_false (by omega)]; rfl
        · rw [decide_eq_false (show ¬ many ≤ 5 by omega), Bool.and_false]; rfl
      rw [if_pos h1, hx, cond_true]
      rfl
    · rw [if_neg h1, decide_eq_true (show 0 ≤ many by omega), decide_eq_true (show many ≤ 5 by omega)]
      simp only [Bool.and_self, Bool.not_true, cond_false]
      have hf := rfew_eq hn hv 201 (by omega)
      rw [show ((201 : Nat) : Int) = 201 from rfl] at hf
      rw [hf]
      simp only [Option.bind_some]
      obtain ⟨k, rfl⟩ := Int.eq_ofNat_of_zero_le (show 0 ≤ many by omega)
      exact rreach_loop n hv k (by omega) n.1 0 (by omega) (by omega) 300 (by omega)
  · rw [if_pos h]
    simp only [show (chk cs == 0) = false by simpa using h, show (false == true) = false from rfl, cond_false, Option.bind_some, show (chk cs != 0) = true by simpa using h, cond_true]

/-! ### Change -/
noncomputable def chgL (cs : List Int) (s : Int) : Nat → Int → Int → Int → Int × Int
  | 0, _, pay, back => (pay, back)
  | k + 1, x, pay, back =>
    if opt cs (s + x) + opt cs x < pay + back ∨ (opt cs (s + x) + opt cs x = pay + back ∧ opt cs x < back) then chgL cs s k (x + 1) (opt cs (s + x)) (opt cs x) else chgL cs s k (x + 1) pay back
noncomputable def changeS (cs : List Int) (s : Int) : Int × Int × Int := if smd cs s ≠ 0 then (0, 0, smd cs s) else ((chgL cs s (lastC cs).toNat 1 (opt cs s) 0).1, (chgL cs s (lastC cs).toNat 1 (opt cs s) 0).2, 0)
theorem chg_loop (n : Nat × Nat) {cs : List Int} (hv : Vld cs) (s M L : Nat) (hM : M ≤ 900) (hL : s + L ≤ M) : ∀ (m x : Nat) (pay back : Int), x ≤ L + 1 → L + 1 - x < m → 0 ≤ pay → pay ≤ 1000 → 0 ≤ back → back ≤ 1000 →
    DL39_1 n m (s : Int) pay back 0 (L + 1) ((L + 1 : Nat) : Int) (x : Int) (ftab cs M) = some ((chgL cs s (L + 1 - x) x pay back).1, (chgL cs s (L + 1 - x) x pay back).2, 0)
  | 0, x, pay, back, _, h, _, _, _, _ => by omega
  | m + 1, x, pay, back, hx, h, p0, p1, b0, b1 => by
    rw [DL39_1_succ]
    unfold DF39_1
    by_cases hlt : x < L + 1
    · have hvl : (((ftab cs M).drop 0).take (L + 1)).length = L + 1 := by simp [ftab_length]; omega
      have hxl : x < (((ftab cs M).drop 0).take (L + 1)).length := by omega
      have hsl : s + x < (ftab cs M).length := by rw [ftab_length]; omega
      rw [decide_eq_true (show (x : Int) < ((L + 1 : Nat) : Int) by omega), cond_true, inB_nat hxl, cond_true, idx_nat hxl]
      simp only [Option.bind_some]
      rw [show wr .i64 ((s : Int) + (x : Int)) = ((s + x : Nat) : Int) by rw [wr_ok (by omega) (by omega)]; omega, inB_nat hsl, cond_true, idx_nat hsl, ftab_get]
      simp only [Option.bind_some, List.getElem_take, List.drop_zero, ftab_get, DL39_2]
      have o1 := opt_nonneg hv.mnt (s := ((s + x : Nat) : Int)) (by omega)
      have o2 := opt_self hv.mnt (s := ((s + x : Nat) : Int)) (by omega)
      have o3 := opt_nonneg hv.mnt (s := (x : Int)) (by omega)
      have o4 := opt_self hv.mnt (s := (x : Int)) (by omega)
      rw [show L + 1 - x = (L + 1 - (x + 1)) + 1 by omega]
      simp only [chgL]
      rw [show (s : Int) + (x : Int) = ((s + x : Nat) : Int) by omega]
      have ih := chg_loop n hv s M L hM hL m (x + 1)
      rw [show ((x + 1 : Nat) : Int) = wr .i64 ((x : Int) + 1) by rw [wr_ok (by omega) (by omega)]; omega] at ih
      have hw1 : wr .i64 ((x : Int) + 1) = (x : Int) + 1 := wr_ok (by omega) (by omega)
      generalize opt cs ((s + x : Nat) : Int) = a at *
      generalize opt cs (x : Int) = b at *
      rw [wr_ok (x := a + b) (by omega) (by omega), wr_ok (x := a + b - pay) (by omega) (by omega), wr_ok (x := a + b - pay - back) (by omega) (by omega)]
      by_cases c1 : a + b - pay - back < 0
      · rw [decide_eq_true c1, if_pos (.inl (by omega))]
        simp only [show (true == false) = false from rfl, cond_false, Option.bind_some, cond_true]
        rw [ih a b (by omega) (by omega) o1 (by omega) o3 (by omega), hw1]
      · rw [decide_eq_false c1]
        simp only [show (false == false) = true from rfl, cond_true]
        by_cases c2 : a + b - pay - back = 0
        · rw [show (a + b - pay - back == 0) = true by simpa using c2]
          simp only [show (true == true) = true from rfl, cond_true, Option.bind_some]
          by_cases c3 : b < back
          · rw [decide_eq_true c3, if_pos (.inr ⟨by omega, c3⟩)]
            simp only [cond_true]
            rw [ih a b (by omega) (by omega) o1 (by omega) o3 (by omega), hw1]
          · rw [decide_eq_false c3, if_neg (by omega)]
            simp only [cond_false]
            rw [ih pay back (by omega) (by omega) p0 p1 b0 b1, hw1]
        · rw [show (a + b - pay - back == 0) = false by simpa using c2, if_neg (by omega)]
          simp only [show (false == true) = false from rfl, cond_false, Option.bind_some]
          rw [ih pay back (by omega) (by omega) p0 p1 b0 b1, hw1]
    · rw [decide_eq_false (show ¬ (x : Int) < ((L + 1 : Nat) : Int) by omega), cond_false, show L + 1 - x = 0 by omega]
      rfl
theorem chgL_zero {cs : List Int} (hv : Vld cs) {s : Int} (k : Nat) : chgL cs s (k + 1) 0 (opt cs s) 0 = chgL cs s k 1 (opt cs s) 0 := by
  simp only [chgL]
  rw [Int.add_zero, opt_zero hv.mnt, if_neg (by omega), Int.zero_add]
theorem change_eq {n : Nat × Nat} (hn : 1000 ≤ n.1) (cs : List Int) (s : Int) : D39 n cs s = some (changeS cs s) := by
  unfold D39 changeS
  rw [smd_eq hn]
  simp only [Option.bind_some]
  by_cases h : smd cs s = 0
  · obtain ⟨hv, h0, h1⟩ := smd_zero h
    have hp := hv.pos
    have hl := hv.len
    have hd := lastC_rng hv
    rw [show (smd cs s != 0) = false by simp [h], cond_false, if_neg (by simpa using h), idx_last hp (by omega)]
    simp only [Option.bind_some]
    obtain ⟨s', rfl⟩ := Int.eq_ofNat_of_zero_le h0
    obtain ⟨L, hL⟩ := Int.eq_ofNat_of_zero_le (show 0 ≤ lastC cs by omega)
    rw [hL] at hd ⊢
    rw [show wr .i64 ((s' : Int) + (L : Int)) = ((s' + L : Nat) : Int) by rw [wr_ok (by omega) (by omega)]; omega, few_eq hn hv (s' + L) (by omega)]
    simp only [Option.bind_some]
    have hsl : s' < (ftab cs (s' + L)).length := by rw [ftab_length]; omega
    rw [inB_nat hsl, cond_true, idx_nat hsl, ftab_get]
    simp only [Option.bind_some]
    have hw : wr .i64 ((L : Int) + 1) = ((L + 1 : Nat) : Int) := by rw [wr_ok (by omega) (by omega)]; omega
    rw [hw, show bounds none (some ((L + 1 : Nat) : Int)) none (ftab cs (s' + L)).length = true by first | (simp [bounds, ftab_length]; done) | (simp [bounds, ftab_length]; omega), cond_true]
    rw [show (Int.toNat ((L + 1 : Nat) : Int)) - 0 = L + 1 by omega, show (0 + 0 : Nat) = 0 from rfl, show ((((ftab cs (s' + L)).drop 0).take (L + 1)).length : Int) = ((L + 1 : Nat) : Int) by first | (simp [ftab_length]; done) | (simp [ftab_length]; omega)]
    have ho := opt_nonneg hv.mnt (s := (s' : Int)) (by omega)
    have ho2 := opt_self hv.mnt (s := (s' : Int)) (by omega)
    have := chg_loop n hv s' (s' + L) L (by omega) (Nat.le_refl _) n.1 0 (opt cs s') 0 (by omega) (by omega) ho (by omega) (Int.le_refl 0) (by omega)
    rw [Nat.sub_zero, show ((0 : Nat) : Int) = 0 from rfl, chgL_zero hv] at this
    rw [Int.toNat_natCast]
    exact this
  · rw [show (smd cs s != 0) = true by simpa using h, cond_true, if_pos h]
theorem rchg_loop (n : Nat × Nat) {cs : List Int} (hv : Vld cs) (s M L : Nat) (hM : M ≤ 900) (hL : s + L ≤ M) : ∀ (m x : Nat) (pay back : Int), 1 ≤ x → x ≤ L + 1 → L + 1 - x < m → 0 ≤ pay → pay ≤ 1000 → 0 ≤ back → back ≤ 1000 →
    DL40_1 n m (s : Int) (L : Int) pay back (x : Int) (ftab cs M) = some ((chgL cs s (L + 1 - x) x pay back).1, (chgL cs s (L + 1 - x) x pay back).2, 0)
  | 0, x, pay, back, _, _, h, _, _, _, _ => by omega
  | m + 1, x, pay, back, hx1, hx, h, p0, p1, b0, b1 => by
    rw [DL40_1_succ]
    unfold DF40_1
    by_cases hlt : x < L + 1
    · have hxl : x < (ftab cs M).length := by rw [ftab_length]; omega
      have hsl : s + x < (ftab cs M).length := by rw [ftab_length]; omega
      rw [decide_eq_true (show (x : Int) ≤ (L : Int) by omega), cond_true]
      rw [show wr .i64 ((s : Int) + (x : Int)) = ((s + x : Nat) : Int) by rw [wr_ok (by omega) (by omega)]; omega, inB_nat hsl, cond_true, idx_nat hsl, ftab_get]
      simp only [Option.bind_some]
      rw [inB_nat hxl, cond_true, idx_nat hxl, ftab_get]
      simp only [Option.bind_some, DL40_2]
      have o1 := opt_nonneg hv.mnt (s := ((s + x : Nat) : Int)) (by omega)
      have o2 := opt_self hv.mnt (s := ((s + x : Nat) : Int)) (by omega)
      have o3 := opt_nonneg hv.mnt (s := (x : Int)) (by omega)
      have o4 := opt_self hv.mnt (s := (x : Int)) (by omega)
      rw [show L + 1 - x = (L + 1 - (x + 1)) + 1 by omega]
      simp only [chgL]
      rw [show (s : Int) + (x : Int) = ((s + x : Nat) : Int) by omega]
      have ih := rchg_loop n hv s M L hM hL m (x + 1)
      rw [show ((x + 1 : Nat) : Int) = wr .i64 ((x : Int) + 1) by rw [wr_ok (by omega) (by omega)]; omega] at ih
      have hw1 : wr .i64 ((x : Int) + 1) = (x : Int) + 1 := wr_ok (by omega) (by omega)
      generalize opt cs ((s + x : Nat) : Int) = a at *
      generalize opt cs (x : Int) = b at *
      rw [wr_ok (x := a + b) (by omega) (by omega), wr_ok (x := pay + back) (by omega) (by omega)]
      by_cases c1 : a + b < pay + back
      · rw [decide_eq_true c1, if_pos (.inl c1)]
        simp only [show (true == false) = false from rfl, cond_false, Option.bind_some, cond_true]
        rw [ih a b (by omega) (by omega) (by omega) o1 (by omega) o3 (by omega), hw1]
      · rw [decide_eq_false c1]
        simp only [show (false == false) = true from rfl, cond_true]
        by_cases c2 : a + b = pay + back
        · rw [show (a + b == pay + back) = true by simpa using c2]
          simp only [show (true == true) = true from rfl, cond_true, Option.bind_some]
          by_cases c3 : b < back
          · rw [decide_eq_true c3, if_pos (.inr ⟨c2, c3⟩)]
            simp only [cond_true]
            rw [ih a b (by omega) (by omega) (by omega) o1 (by omega) o3 (by omega), hw1]
          · rw [decide_eq_false c3, if_neg (by omega)]
            simp only [cond_false]
            rw [ih pay back (by omega) (by omega) (by omega) p0 p1 b0 b1, hw1]
        · rw [show (a + b == pay + back) = false by simpa using c2, if_neg (by omega)]
          simp only [show (false == true) = false from rfl, cond_false, Option.bind_some]
          rw [ih pay back (by omega) (by omega) (by omega) p0 p1 b0 b1, hw1]
    · rw [decide_eq_false (show ¬ (x : Int) ≤ (L : Int) by omega), cond_false, show L + 1 - x = 0 by omega]
      rfl
theorem rchange_eq {n : Nat × Nat} (hn : 1000 ≤ n.1) (cs : List Int) (s : Int) : D40 n cs s = some (changeS cs s) := by
  unfold D40 changeS
  rw [smdr_eq hn]
  simp only [Option.bind_some]
  by_cases h : smd cs s = 0
  · obtain ⟨hv, h0, h1⟩ := smd_zero h
    have hp := hv.pos
    have hl := hv.len
    have hd := lastC_rng hv
    rw [show (smd cs s != 0) = false by simp [h], cond_false, if_neg (by simpa using h), idx_last hp (by omega)]
    simp only [Option.bind_some]
    obtain ⟨s', rfl⟩ := Int.eq_ofNat_of_zero_le h0
    obtain ⟨L, hL⟩ := Int.eq_ofNat_of_zero_le (show 0 ≤ lastC cs by omega)
    rw [hL] at hd ⊢
    rw [show wr .i64 ((s' : Int) + (L : Int)) = ((s' + L : Nat) : Int) by rw [wr_ok (by omega) (by omega)]; omega, rfew_eq hn hv (s' + L) (by omega)]
    simp only [Option.bind_some]
    have hsl : s' < (ftab cs (s' + L)).length := by rw [ftab_length]; omega
    rw [inB_nat hsl, cond_true, idx_nat hsl, ftab_get]
    simp only [Option.bind_some]
    have ho := opt_nonneg hv.mnt (s := (s' : Int)) (by omega)
    have ho2 := opt_self hv.mnt (s := (s' : Int)) (by omega)
    have := rchg_loop n hv s' (s' + L) L (by omega) (Nat.le_refl _) n.1 1 (opt cs s') 0 (Nat.le_refl 1) (by omega) (by omega) ho (by omega) (Int.le_refl 0) (by omega)
    rw [show L + 1 - 1 = L by omega] at this
    rw [Int.toNat_natCast]
    exact this
  · rw [show (smd cs s != 0) = true by simpa using h, cond_true, if_pos h]

/-- f at x, x - c, x - 2c and so on, together. -/
def tsum (c : Int) (f : Int → Int) (x : Int) : Int := cws c f (x.toNat + 1) x
theorem cws_neg {c : Int} {f : Int → Int} {x : Int} (h : x < 0) (k : Nat) : cws c f k x = 0 := by
  cases k with
  | zero => rfl
  | succ k => simp only [cws, decide_eq_true h, cond_true]
theorem cws_fuel {c : Int} {f : Int → Int} (hc : 1 ≤ c) : ∀ (k m : Nat) (x : Int), x < k → x < m → cws c f k x = cws c f m x
  | 0, m, x, h1, h2 => by rw [cws_neg (by omega), cws_neg (by omega)]
  | k + 1, 0, x, h1, h2 => by rw [cws_neg (by omega), cws_neg (by omega)]
  | k + 1, m + 1, x, h1, h2 => by
    simp only [cws]
    by_cases h : x < 0
    · rw [decide_eq_true h, cond_true, cond_true]
    · rw [decide_eq_false h, cond_false, cond_false, cws_fuel hc k m (x - c) (by omega) (by omega)]
theorem tsum_neg {c : Int} {f : Int → Int} {x : Int} (h : x < 0) : tsum c f x = 0 := cws_neg h _
theorem tsum_eq {c : Int} {f : Int → Int} (hc : 1 ≤ c) (hf : ∀ x, x < 0 → f x = 0) (x : Int) : tsum c f x = f x + tsum c f (x - c) := by
  by_cases h : x < 0
  · rw [tsum_neg h, tsum_neg (by omega), hf x h]
    omega
  · have e : cws c f (x.toNat + 1) x = f x + cws c f x.toNat (x - c) := by
      simp only [cws, decide_eq_false h, cond_false]
    unfold tsum
    rw [e, cws_fuel hc x.toNat ((x - c).toNat + 1) (x - c) (by omega) (by omega)]
theorem tsum_comm {c d : Int} {f : Int → Int} (hc : 1 ≤ c) (hd : 1 ≤ d) (hf : ∀ x, x < 0 → f x = 0) (x : Int) : tsum c (tsum d f) x = tsum d (tsum c f) x := by
  have key : ∀ k : Nat, ∀ x : Int, x < k → tsum c (tsum d f) x = tsum d (tsum c f) x := by
    intro k
    induction k with
    | zero => intro x hx; rw [tsum_neg (by omega), tsum_neg (by omega)]
    | succ k ih =>
      intro x hx
      have nd : ∀ x, x < 0 → tsum d f x = 0 := fun x h => tsum_neg h
      have nc : ∀ x, x < 0 → tsum c f x = 0 := fun x h => tsum_neg h
      have e1 := tsum_eq hc nd x
      have e2 := tsum_eq hd nc x
      have e3 := tsum_eq hd hf x
      have e4 := tsum_eq hc hf x
      have e5 := tsum_eq hd nc (x - c)
      have e6 := tsum_eq hc nd (x - d)
      have i1 := ih (x - c) (by omega)
      have i2 := ih (x - d) (by omega)
      have i3 := ih (x - c - d) (by omega)
      rw [show x - d - c = x - c - d by omega] at e6
      omega
  exact key (x.toNat + 1) x (by omega)
theorem cw_cons (c : Int) (l : List Int) (x : Int) : cw (c :: l) x = tsum c (cw l) x := rfl
theorem cw_neg : ∀ (l : List Int) {x : Int}, x < 0 → cw l x = 0
  | [], x, h => by
    unfold cw
    rw [show (x == 0) = false by simpa using (show x ≠ 0 by omega)]
    rfl
  | c :: l, x, h => tsum_neg h
theorem tsum_congr {c : Int} {f g : Int → Int} (h : ∀ x, f x = g x) (x : Int) : tsum c f x = tsum c g x := by
  have : f = g := funext h
  rw [this]
theorem cw_snoc : ∀ {l : List Int} (hp : ∀ c ∈ l, 1 ≤ c) {d : Int}, 1 ≤ d → ∀ x, cw (l ++ [d]) x = tsum d (cw l) x
  | [], _, d, hd, x => rfl
  | c :: l, hp, d, hd, x => by
    have hc := hp c (by simp)
    rw [List.cons_append, cw_cons, tsum_congr (fun x => cw_snoc (l := l) (fun c h => hp c (by simp [h])) hd x), tsum_comm hc hd (fun x h => cw_neg l h)]
    rfl
theorem tsum_nn {c : Int} {f : Int → Int} (hc : 1 ≤ c) (hf : ∀ x, x < 0 → f x = 0) (h0 : ∀ x, 0 ≤ f x) : ∀ x, 0 ≤ tsum c f x := by
  have key : ∀ k : Nat, ∀ x : Int, x < k → 0 ≤ tsum c f x := by
    intro k
    induction k with
    | zero => intro x hx; rw [tsum_neg (by omega)]; omega
    | succ k ih => intro x hx; rw [tsum_eq hc hf]; have := ih (x - c) (by omega); have := h0 x; omega
  intro x
  exact key (x.toNat + 1) x (by omega)
theorem cw_nn : ∀ {l : List Int} (hp : ∀ c ∈ l, 1 ≤ c) (x : Int), 0 ≤ cw l x
  | [], _, x => by unfold cw; cases (x == 0) <;> simp
  | c :: l, hp, x => tsum_nn (hp c (by simp)) (fun x h => cw_neg l h) (fun x => cw_nn (fun c h => hp c (by simp [h])) x) x
theorem tsum_le {c B : Int} {f : Int → Int} (hc : 1 ≤ c) (hf : ∀ x, x < 0 → f x = 0) (hB : 0 ≤ B) {S : Int} (h0 : ∀ x, x ≤ S → f x ≤ B) : ∀ x, x ≤ S → 0 ≤ S → tsum c f x ≤ B * (S + 1) := by
  have key : ∀ k : Nat, ∀ x : Int, x < k → x ≤ S → tsum c f x ≤ B * k := by
    intro k
    induction k with
    | zero => intro x hx _; rw [tsum_neg (by omega)]; simp
    | succ k ih =>
      intro x hx hS
      rw [tsum_eq hc hf]
      have a := ih (x - c) (by omega) (by omega)
      have b := h0 x hS
      rw [Int.natCast_add, Int.mul_add]
      omega
  intro x hx hS
  have := key (S.toNat + 1) x (by omega) hx
  rwa [show ((S.toNat + 1 : Nat) : Int) = S + 1 by omega] at this
/-- So many coins, sums up to 240: no more than 241 to their number. -/
theorem cw_le : ∀ {l : List Int} (hp : ∀ c ∈ l, 1 ≤ c) (x : Int), x ≤ 240 → cw l x ≤ 241 ^ l.length
  | [], _, x, _ => by unfold cw; cases (x == 0) <;> simp
  | c :: l, hp, x, hx => by
    have := tsum_le (hp c (by simp)) (fun x h => cw_neg l h) (B := 241 ^ l.length) (Int.pow_nonneg (by omega)) (S := 240) (fun x hx => cw_le (fun c h => hp c (by simp [h])) x hx) x hx (by omega)
    rw [cw_cons, List.length_cons, Int.pow_succ]
    exact this
theorem cw_lim {l : List Int} (hp : ∀ c ∈ l, 1 ≤ c) (hl : l.length ≤ 6) {x : Int} (hx : x ≤ 240) : cw l x ≤ 195930594145441 := by
  have h := cw_le hp x hx
  have : (241 : Int) ^ l.length ≤ 241 ^ 6 := by
    have h9 : l.length = 0 ∨ l.length = 1 ∨ l.length = 2 ∨ l.length = 3 ∨ l.length = 4 ∨ l.length = 5 ∨ l.length = 6 := by omega
    rcases h9 with h | h | h | h | h | h | h <;> rw [h] <;> decide
  have e : (241 : Int) ^ 6 = 195930594145441 := by decide
  omega

noncomputable def waysS (cs : List Int) (s : Int) : Int × Int := if smd cs s ≠ 0 then (0, smd cs s) else (cw cs s, 0)
theorem ways_eq {n : Nat × Nat} (hn : 1000 ≤ n.1) (cs : List Int) (s : Int) : D37 n cs s = some (waysS cs s) := by
  unfold D37 HF37 waysS
  rw [smd_eq hn]
  simp only [Option.bind_some]
  by_cases h : smd cs s = 0
  · obtain ⟨hv, h0, h1⟩ := smd_zero h
    rw [show (smd cs s != 0) = false by simp [h], cond_false, if_neg (by simpa using h)]
    have hb : ((cs.all fun c => decide (1 ≤ c) && decide (c ≤ 40)) && (decide (0 < cs.length) && decide (cs.length ≤ 6)) && (decide (0 ≤ s) && decide (s ≤ 200))) = true := by
      simp only [Bool.and_eq_true, decide_eq_true_eq, List.all_eq_true]
      exact ⟨⟨fun c hc => hv.rng c hc, hv.pos, hv.len⟩, h0, h1⟩
    rw [hb, cond_true]
  · rw [show (smd cs s != 0) = true by simpa using h, cond_true, if_pos h]

theorem cw_one : ∀ (x : Int), 0 ≤ x → cw [1] x = 1 := by
  have key : ∀ k : Nat, cw [1] (k : Int) = 1 := by
    intro k
    induction k with
    | zero => rw [cw_cons, tsum_eq (by omega) (fun x h => cw_neg [] h), tsum_neg (by omega)]; rfl
    | succ k ih =>
      rw [cw_cons, tsum_eq (by omega) (fun x h => cw_neg [] h)]
      rw [cw_cons] at ih
      rw [show ((k + 1 : Nat) : Int) - 1 = (k : Int) by omega, ih]
      have : cw [] ((k + 1 : Nat) : Int) = 0 := by
        unfold cw
        rw [show (((k + 1 : Nat) : Int) == 0) = false by simpa using (show ((k + 1 : Nat) : Int) ≠ 0 by omega)]
        rfl
      rw [this]
      rfl
  intro x hx
  have := key x.toNat
  rwa [Int.toNat_of_nonneg hx] at this
theorem rways_loop (n : Nat × Nat) {l : List Int} {d : Int} (hp : ∀ c ∈ l, 1 ≤ c) (hd : 1 ≤ d) (hd2 : d ≤ 40) (hl : l.length ≤ 5) (SS : List Int → Int → Option R73) (hSS : ∀ x, 0 ≤ x → x ≤ 200 → SS l x = some (cw l x)) :
    ∀ (m : Nat) (s v : Int), s ≤ 200 → -100 ≤ s → s + 1 < m → 0 < m → 0 ≤ v → v + tsum d (cw l) s ≤ 1000000000000000 → DL73_1 n SS m (l ++ [d]) s (l.length : Int) v = some (v + tsum d (cw l) s)
  | 0, s, v, h0, _, _, h, _, _ => by omega
  | m + 1, s, v, h0, h9, h, _, v0, v1 => by
    rw [DL73_1_succ]
    unfold DF73_1
    by_cases hs : s ≥ 0
    · rw [decide_eq_true hs, cond_true]
      have hb : bounds none (some (l.length : Int)) none (l ++ [d]).length = true := by simp [bounds]; omega
      rw [hb, cond_true, Int.toNat_natCast, List.take_left, hSS s hs h0]
      simp only [Option.bind_some]
      have hlt : l.length < (l ++ [d]).length := by simp
      rw [idx_nat hlt]
      simp only [Option.bind_some]
      have hg : (l ++ [d])[l.length] = d := by simp
      rw [hg]
      have he := tsum_eq (f := cw l) hd (fun x h => cw_neg l h) s
      have hn1 := tsum_nn (f := cw l) hd (fun x h => cw_neg l h) (fun x => cw_nn hp x) (s - d)
      have hn2 := cw_nn hp s
      rw [wr_ok (x := s - d) (by omega) (by omega), wr_ok (x := v + cw l s) (by omega) (by omega)]
      rw [rways_loop n hp hd hd2 hl SS hSS m (s - d) (v + cw l s) (by omega) (by omega) (by omega) (by omega) (by omega) (by omega), he]
      congr 1
      omega
    · rw [decide_eq_false hs, cond_false, tsum_neg (by omega)]
      simp
theorem rways_eq {n : Nat × Nat} (hn : 1000 ≤ n.1) : ∀ (d : Nat) {cs : List Int}, (∀ c ∈ cs, 1 ≤ c ∧ c ≤ 40) → cs.headD 0 = 1 → 0 < cs.length → cs.length ≤ d → cs.length ≤ 6 → ∀ {s : Int}, 0 ≤ s → s ≤ 200 → DT73 n d cs s = some (cw cs s)
  | 0, cs, _, _, h0, hd, _, s, _, _ => by omega
  | d + 1, cs, hr, h1, h0, hd, h6, s, s0, s1 => by
    rw [DT73_succ]
    unfold DB73
    by_cases hl : cs.length = 1
    · rw [show ((cs.length : Int) == 1) = true by simp [hl], cond_true]
      match cs, hl, h1 with
      | [x], _, h1 =>
        have : x = 1 := h1
        rw [this, cw_one s s0]
    · rw [show ((cs.length : Int) == 1) = false by simpa using (show ¬ (cs.length : Int) = 1 by omega), cond_false]
      obtain ⟨l, x, rfl⟩ : ∃ l x, cs = l ++ [x] := ⟨cs.dropLast, cs.getLast (by intro e; rw [e] at h0; simp at h0), (List.dropLast_concat_getLast _).symm⟩
      simp only [List.length_append, List.length_singleton] at hl hd h0 h6
      have hx := hr x (by simp)
      have hp : ∀ c ∈ l, 1 ≤ c := fun c hc => (hr c (by simp [hc])).1
      have hSS : ∀ x, 0 ≤ x → x ≤ 200 → DT73 n d l x = some (cw l x) := fun y y0 y1 => rways_eq hn d (fun c hc => hr c (by simp [hc])) (by
        cases l with
        | nil => simp at hl
        | cons a l => exact h1) (by omega) (by omega) (by omega) y0 y1
      have hlim := cw_lim (l := l ++ [x]) (fun c hc => (hr c hc).1) (by simp; omega) (x := s) (by omega)
      rw [cw_snoc hp hx.1] at hlim ⊢
      have := rways_loop n hp hx.1 hx.2 (by omega) (DT73 n d) hSS n.1 s 0 s1 (by omega) (by omega) (by omega) (Int.le_refl 0) (by omega)
      rw [Int.zero_add] at this
      rw [show wr .i64 (((l ++ [x]).length : Int) - 1) = (l.length : Int) by rw [wr_ok (by simp only [List.length_append, List.length_singleton]; omega) (by simp only [List.length_append, List.length_singleton]; omega)]; simp]
      exact this
theorem rwaysS_eq {n : Nat × Nat} (hn : 1000 ≤ n.1) (cs : List Int) (s : Int) : D38 n cs s = some (waysS cs s) := by
  unfold D38 waysS
  rw [smdr_eq hn]
  simp only [Option.bind_some]
  by_cases h : smd cs s = 0
  · obtain ⟨hv, h0, h1⟩ := smd_zero h
    have hl := hv.len
    rw [show (smd cs s != 0) = false by simp [h], cond_false, if_neg (by simpa using h)]
    unfold D73
    rw [rways_eq hn n.1 hv.rng hv.one hv.pos (by omega) hv.len h0 h1]
    rfl
  · rw [show (smd cs s != 0) = true by simpa using h, cond_true, if_pos h]

abbrev ShM : Sh := .pair (.int .u8) (.pair (.int .u8) (.pair (.int .u8) (.pair (.int .u8) (.pair (.int .u8) (.int .u8)))))
theorem tmod_u8 {x k : Int} (h : 0 ≤ x ∧ x ≤ 255) (hk : 0 < k) : Int.tmod (wr .i64 x) k = x % k ∧ 0 ≤ x % k ∧ x % k < k := by
  rw [wr_ok (by omega) (by omega), Int.tmod_eq_emod_of_nonneg h.1]
  exact ⟨rfl, Int.emod_nonneg x (by omega), Int.emod_lt_of_pos x hk⟩
theorem inB_last {cs : List Int} (h : 0 < cs.length) (hl : cs.length ≤ 100) : inB (wr .i64 ((cs.length : Int) - 1)) cs.length = true := by
  rw [show wr .i64 ((cs.length : Int) - 1) = ((cs.length - 1 : Nat) : Int) by rw [wr_ok (by omega) (by omega)]; omega]
  exact inB_nat (by omega)
theorem clone_eq {n : Nat × Nat} {cs : List Int} (h : 0 < cs.length) (hl : cs.length ≤ 100) : D46 n cs = some cs := by
  unfold D46
  cases cs with
  | nil => simp at h
  | cons a l =>
    rw [decide_eq_true (show ([] : List Int).length + (a :: l).length ≤ lim by simp [lim]; simp at hl; omega)]
    rfl
theorem chgL_bd {cs : List Int} {s P : Int} : ∀ (k : Nat) (x pay back : Int), pay + back ≤ P → (pay + back < P ∨ back = 0) → (∀ y, 0 ≤ opt cs y ∨ True) → (chgL cs s k x pay back).1 + (chgL cs s k x pay back).2 ≤ P ∧ ((chgL cs s k x pay back).1 + (chgL cs s k x pay back).2 < P ∨ (chgL cs s k x pay back).2 = 0) ∨ ∃ y, opt cs y < 0
  | 0, x, pay, back, h1, h2, _ => .inl ⟨h1, h2⟩
  | k + 1, x, pay, back, h1, h2, h3 => by
    simp only [chgL]
    split
    · rename_i hc
      by_cases hx : opt cs x < 0
      · exact .inr ⟨x, hx⟩
      · exact chgL_bd k (x + 1) _ _ (by omega) (by omega) h3
    · exact chgL_bd k (x + 1) _ _ h1 h2 h3

/-! ### How far -/
theorem upTo_spec (f : Int → Bool) : ∀ (K : Nat) (s : Int), s ≤ upTo f K s ∧ upTo f K s ≤ s + K ∧ (∀ x, s < x → x ≤ upTo f K s → f x = true) ∧ (upTo f K s < s + K → f (upTo f K s + 1) = false)
  | 0, s => by simp only [upTo]; exact ⟨Int.le_refl s, by omega, fun x h1 h2 => by omega, fun h => by omega⟩
  | K + 1, s => by
    simp only [upTo]
    cases h : f (s + 1) with
    | true =>
      rw [cond_true]
      obtain ⟨a, b, c, d⟩ := upTo_spec f K (s + 1)
      refine ⟨by omega, by omega, fun x h1 h2 => ?_, fun h => d (by omega)⟩
      by_cases e : x = s + 1
      · subst e; exact h
      · exact c x (by omega) h2
    | false =>
      rw [cond_false]
      exact ⟨Int.le_refl s, by omega, fun x h1 h2 => by omega, fun _ => h⟩
theorem upTo_ge (f : Int → Bool) {K : Nat} {v : Int} (h : ∀ x, 0 < x → x ≤ v → f x = true) (hK : v ≤ K) (hv : 0 ≤ v) : v ≤ upTo f K 0 := by
  obtain ⟨a, b, c, d⟩ := upTo_spec f K 0
  refine Int.not_lt.1 fun hlt => ?_
  have := d (by omega)
  rw [h _ (by omega) (by omega)] at this
  cases this
/-- Whether greatest coins are best up to a sum that is far enough. -/
theorem well_loop {cs : List Int} (hv : Vld cs) (M : Nat) (hM : M ≤ 249) (hb : fbad cs ≤ M) : ∀ (m k : Nat), k ≤ M + 1 → M + 1 - k < m → (∀ s : Int, 0 ≤ s → s < k → ¬ Bad cs s) → DL47_1 N m cs ((M + 1 : Nat) : Int) (k : Int) (ftab cs M) = some (decide (fbad cs = 0))
  | 0, k, _, hm, _ => by omega
  | m + 1, k, hk, hm, hno => by
    rw [DL47_1_succ]
    unfold DF47_1
    by_cases hlt : k < M + 1
    · have hkl : k < (ftab cs M).length := by rw [ftab_length]; omega
      rw [decide_eq_true (show (k : Int) < ((M + 1 : Nat) : Int) by omega), cond_true, inB_nat hkl, cond_true, idx_nat hkl, ftab_get]
      simp only [Option.bind_some]
      rw [ogreat_eq hN1 hv (by omega) (by show (k : Int) < 10000; omega) (by omega)]
      simp only [Option.bind_some]
      by_cases hbad : Bad cs k
      · have hb2 : (gr cs (k : Int)).2.1 > opt cs (k : Int) := hbad
        have hf := fbad_is hv.mnt (by omega) hbad hno
        have hk0 : 0 < (k : Int) := by
          by_cases e : k = 0
          · subst e; exact absurd hbad (not_bad_zero hv.mnt)
          · omega
        rw [decide_eq_true hb2, cond_true, decide_eq_false (show ¬ fbad cs = 0 by omega)]
      · have hb2 : ¬ (gr cs (k : Int)).2.1 > opt cs (k : Int) := hbad
        rw [decide_eq_false hb2, cond_false]
        have ih := well_loop hv M hM hb m (k + 1) (by omega) (by omega) (fun s hs hlt => by
          by_cases e : s = k
          · subst e; exact hbad
          · exact hno s hs (by omega))
        rw [show ((k + 1 : Nat) : Int) = wr .i64 ((k : Int) + 1) by rw [wr_ok (by omega) (by omega)]; omega] at ih
        exact ih
    · rw [decide_eq_false (show ¬ (k : Int) < ((M + 1 : Nat) : Int) by omega), cond_false]
      have hf : fbad cs = 0 := by
        rcases fbad_spec hv.mnt with ⟨e, _⟩ | ⟨h1, h2, _⟩
        · exact e
        · exact absurd h2 (hno _ (by omega) (by omega))
      rw [hf]
      rfl
theorem well_eq {cs : List Int} (hv : Vld cs) {c : Int} (h0 : lastC cs ≤ c) (h40 : c ≤ 40) : D47 N cs c = some (decide (fbad cs = 0)) := by
  have hl := lastC_rng hv
  have ht : fbad cs ≤ 2 * lastC cs := fbad_top hv
  obtain ⟨C, hC⟩ := Int.eq_ofNat_of_zero_le (show 0 ≤ c by omega)
  subst hC
  unfold D47
  rw [show wr .i64 (5 * (C : Int)) = ((5 * C : Nat) : Int) by rw [wr_ok (by omega) (by omega)]; omega, ofew_eq hv (5 * C) (by omega)]
  simp only [Option.bind_some]
  rw [ftab_length]
  exact well_loop hv (5 * C) (by omega) (by omega) N.1 0 (by omega) (by show 5 * C + 1 - 0 < 10000; omega) (fun s h1 h2 => by omega)
theorem one_ok (xs : pksDen (pks [ShM, .int .u8])) (h : WfL [ShM, .int .u8] xs) : ∃ n, S8 n xs.1 xs.2.1 = some true := by
  refine ⟨N, ?_⟩
  rw [S8_D N rfl]
  unfold D8
  obtain ⟨cs, g1, hv, g3, g4⟩ := made_eq hN1 (m0 := xs.1) h.1 (many := 5) (most := 30) (by omega) (by omega) (by omega) (by omega)
  have hu : 0 ≤ xs.2.1 ∧ xs.2.1 ≤ 255 := u8_rng h.2.1
  obtain ⟨t1, t2, t3⟩ := tmod_u8 hu (show (0 : Int) < 10 by omega)
  have hl := hv.len
  have hp := hv.pos
  have hd := lastC_rng hv
  have hd30 : lastC cs ≤ 30 := by rw [lastC_get hp]; exact g4 _ (List.getElem_mem _)
  rw [g1]
  simp only [Option.bind_some]
  rw [idx_last hp (by omega)]
  simp only [Option.bind_some]
  rw [show (10 == 0) = false from rfl, cond_false, clone_eq hp (by omega), t1]
  simp only [Option.bind_some]
  generalize hr : xs.2.1 % 10 = r at t2 t3
  rw [wr_ok (x := lastC cs + 1) (by omega) (by omega), wr_ok (x := lastC cs + 1 + r) (by omega) (by omega)]
  generalize hc : lastC cs + 1 + r = c
  have hv' : Vld (cs ++ [c]) := hv.snoc (by omega) (by unfold lastC at hc; omega) (by omega)
  have hlc : lastC (cs ++ [c]) = c := by unfold lastC; simp
  have hw1 : withS cs (lastC cs) = (false, 7) := by
    unfold withS
    rw [if_neg (by simpa using vld_chk hv), if_neg (show ¬ cs.length = 6 by omega), if_neg (show ¬ 40 < lastC cs by omega), if_pos (Int.le_refl _)]
  have hw2 : withS cs 41 = (false, 1) := by
    unfold withS
    rw [if_neg (by simpa using vld_chk hv), if_neg (show ¬ cs.length = 6 by omega), if_pos (by omega)]
  have hw3 : withS cs c = if 0 < fbad cs then (false, 13) else (decide (fbad (cs ++ [c]) = 0), 0) := by
    unfold withS
    rw [if_neg (by simpa using vld_chk hv), if_neg (show ¬ cs.length = 6 by omega), if_neg (show ¬ 40 < c by omega), if_neg (show ¬ c ≤ lastC cs by omega)]
  have hgood : goodS (cs ++ [c]) = (decide (fbad (cs ++ [c]) = 0), 0) := by unfold goodS; rw [if_pos (vld_chk hv')]
  rw [decide_eq_true (show cs.length + [c].length ≤ lim by simp [lim]; omega), cond_true]
  rw [with_eq hN1, with_eq hN1, with_eq hN1, good_eq hN1, hw1, hw2, hw3, hgood, well_eq hv' (by omega) (by omega), well_eq hv (by omega) (by omega)]
  simp only [Option.bind_some, bne_self_eq_false, beq_self_eq_true, cond_true, cond_false]
  have hnn := fbad_nn hv
  by_cases hf : fbad cs = 0
  · rw [decide_eq_true hf]
    simp only [Bool.not_true, cond_false]
    rw [if_neg (show ¬ 0 < fbad cs by omega)]
    generalize hT : lastC cs = T at *
    rw [show (T == 0) = false from beq_false_of_ne (by omega), cond_false, wr_ok (x := c + T) (by omega) (by omega), wr_ok (x := c + T - 1) (by omega) (by omega)]
    have hq : Int.tdiv (c + T - 1) T = (c + T - 1) / T := Int.tdiv_eq_ediv_of_nonneg (by omega)
    have q0 : 0 ≤ (c + T - 1) / T := Int.ediv_nonneg (by omega) (by omega)
    have q1 : T * ((c + T - 1) / T) ≤ c + T - 1 := Int.mul_ediv_self_le (by omega)
    have q2 : c + T - 1 < T * ((c + T - 1) / T) + T := Int.lt_mul_ediv_self_add (by omega)
    rw [hq]
    generalize (c + T - 1) / T = k at *
    have q3 : T * k = k * T := Int.mul_comm _ _
    have q4 : k ≤ k * T := by
      have : k * 1 ≤ k * T := Int.mul_le_mul_of_nonneg_left (by omega) q0
      omega
    rw [wr_ok (x := k) (by omega) (by omega), wr_ok (x := k * T) (by omega) (by omega), ogreat_eq hN1 hv' (by omega) (by show k * T < 10000; omega) (by omega)]
    have hi := one_iff hv hv' (d := T) (m := k) (by unfold lastC at hT; exact hT) (by omega) hf (by omega) (by omega)
    simp only [Option.bind_some, beq_self_eq_true, cond_true]
    rw [show decide ((gr (cs ++ [c]) (k * T)).2.1 ≤ k) = decide (fbad (cs ++ [c]) = 0) from decide_eq_decide.2 hi, works_eq]
    simp
  · rw [decide_eq_false hf]
    simp only [Bool.not_false, cond_true]
    rw [if_pos (show 0 < fbad cs by omega), works_eq]
    rfl
end Go.Proofs.Ytjgmfdgpgdaclaa
