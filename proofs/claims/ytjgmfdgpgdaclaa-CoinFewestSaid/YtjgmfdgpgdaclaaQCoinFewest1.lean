/- Texts of this claim, joined: G43 to Co9. -/
import Derived.KernelRfl
import Derived.Test.YtjgmfdgpgdaclaaProg
import Derived.WalkKit
import Derived.Test.YtjgmfdgpgdaclaaP6
set_option linter.unusedVariables false
set_option linter.unusedSimpArgs false
set_option maxRecDepth 100000
namespace Go.Proofs.Ytjgmfdgpgdaclaa
open Go.Vi
/- (headword/headwordlaw12.Mint).made -/
abbrev R43 := List Int
noncomputable def c43 : Code := bodyOf Try.f43
noncomputable def an43 : Ann := (.s .l (.s .l (.s (.s .l (.j [7] (.j [2, 7, 19, 20, 21] (.s .l (.s (.j [2, 7, 19, 20, 21] .l .l) (.j [] (.j [2, 7, 19, 20, 21] (.s .l (.s .l (.s .l (.j [2, 7, 19, 20, 21] .l .l)))) .l) .l))) .l) .l)) .l)))
def pk43 : List PK := [.c (.pair (.int .u8) (.pair (.int .u8) (.pair (.int .u8) (.pair (.int .u8) (.pair (.int .u8) (.int .u8)))))), .c (.int .i64), .c (.int .i64)]
def rk43 : List RK := [.sl (.int .i64) 6]
noncomputable def rt43 (st : St) : Option R43 := rtG rk43 st
noncomputable def E43 (n : Nat × Nat) : Env := { T := tab, phi := noPhi, eff := fun _ => false, fuel := n.1, hold := n.2 }
noncomputable def kq43_1 (n : Nat × Nat) : St → Option R43 := run (E43 n) (cB (cB (cB c43))) (Ann.snd (Ann.snd (Ann.snd an43))) rt43 (fun _ _ => none) rt43
noncomputable def xb43_3 (n : Nat × Nat) : Nat → St → Option R43 := fun j s => bif Nat.beq j 0 then normC [7] s (kq43_1 n) else (fun _ _ => none) j s
noncomputable def F43_4 (n : Nat × Nat) : (St → Option R43) → St → Option R43 := fun K s => run (E43 n) (cA (cA (cB (cA (cB (cB c43)))))) (Ann.fst (Ann.fst (Ann.snd (Ann.fst (Ann.snd (Ann.snd an43)))))) (fun s => normC [2, 7, 19, 20, 21] s K) (xb43_3 n) rt43 s
noncomputable def kq43_7 (n : Nat × Nat) (m1 : Nat) : St → Option R43 := run (E43 n) (cB (cB (cB (cA (cA (cB (cA (cB (cB c43))))))))) (Ann.snd (Ann.snd (Ann.snd (Ann.fst (Ann.fst (Ann.snd (Ann.fst (Ann.snd (Ann.snd an43))))))))) (fun s => normC [2, 7, 19, 20, 21] s (loopN (F43_4 n) m1)) (xb43_3 n) rt43
noncomputable def L43_1 (n : Nat × Nat) (m : Nat) (most2 : Int) (v19 : List Int) (v20 : Int) (v21 : Int) (out7 : List Int) : Option R43 := loopN (F43_4 n) m { tm := [uu, uu, .c (.int .i64 most2), uu, uu, uu, uu, .own 7 none false, uu, uu, uu, uu, uu, uu, uu, uu, uu, uu, uu, .c (.sl (.int .u8) v19 false), .c (.int .i64 v20), .c (.int .i64 v21), uu, uu, uu, uu, uu, uu, uu, uu, uu, uu, uu, uu, uu, uu, uu, uu, uu, uu, uu, uu, uu, uu, uu, uu, uu], hp := (upd emp 7 (.arr (.int .i64) out7 false)) }
noncomputable def L43_2 (n : Nat × Nat) (m1 : Nat) (most2 : Int) (v19 : List Int) (v20 : Int) (v21 : Int) (out7 : List Int) : Option R43 := loopN (fun _ => (kq43_7 n m1)) n.2 { tm := [uu, uu, .c (.int .i64 most2), uu, uu, uu, uu, .own 7 none false, uu, uu, uu, uu, uu, uu, uu, uu, uu, uu, uu, .c (.sl (.int .u8) v19 false), .c (.int .i64 v20), .c (.int .i64 v21), uu, uu, uu, uu, uu, uu, uu, uu, uu, uu, uu, uu, uu, uu, uu, uu, uu, uu, uu, uu, uu, uu, uu, uu, uu], hp := (upd emp 7 (.arr (.int .i64) out7 false)) }
theorem L43_1_eq (n : Nat × Nat) (m1 : Nat) (most2 : Int) (v19 : List Int) (v20 : Int) (v21 : Int) (out7 : List Int) : L43_1 n (m1 + 1) most2 v19 v20 v21 out7 =
 (bif decide (v21 < v20) then (idx v19 v21).bind fun x1' =>
 (bif inB (wr .i64 ((out7.length : Int) - 1)) out7.length then (idx out7 (wr .i64 ((out7.length : Int) - 1))).bind fun x2' =>
 (bif 2 == 0 then none
 else (bif (wr .i64 (Int.tdiv most2 2)) == 0 then none
 else (bif decide (wr .i64 ((wr .i64 (x2' + 1)) + (Int.tmod (wr .i64 x1') (wr .i64 (Int.tdiv most2 2)))) ≤ most2) then (bif decide (out7.length + [wr .i64 ((wr .i64 (x2' + 1)) + (Int.tmod (wr .i64 x1') (wr .i64 (Int.tdiv most2 2))))].length ≤ lim) then L43_2 n m1 most2 v19 v20 v21 (out7 ++ [wr .i64 ((wr .i64 (x2' + 1)) + (Int.tmod (wr .i64 x1') (wr .i64 (Int.tdiv most2 2))))])
 else none)
 else L43_2 n m1 most2 v19 v20 v21 out7)))
 else none)
 else some out7) := by kernel_rfl
theorem L43_2_raw (n : Nat × Nat) (m1 : Nat) (most2 : Int) (v19 : List Int) (v20 : Int) (v21 : Int) (out7 : List Int) : (kq43_7 n m1) { tm := [uu, uu, .c (.int .i64 most2), uu, uu, uu, uu, .own 7 none false, uu, uu, uu, uu, uu, uu, uu, uu, uu, uu, uu, .c (.sl (.int .u8) v19 false), .c (.int .i64 v20), .c (.int .i64 v21), uu, uu, uu, uu, uu, uu, uu, uu, uu, uu, uu, uu, uu, uu, uu, uu, uu, uu, uu, uu, uu, uu, uu, uu, uu], hp := (upd emp 7 (.arr (.int .i64) out7 false)) } =
    L43_1 n m1 most2 v19 v20 (wr .i64 (v21 + 1)) out7 := by kernel_rfl
noncomputable def S43 (n : Nat × Nat) (m0 : Int × Int × Int × Int × Int × Int) (many1 : Int) (most2 : Int) : Option R43 := run (E43 n) c43 an43 rt43 (fun _ _ => none) rt43 { tm := [.agg [.int .u8 m0.1, .int .u8 m0.2.1, .int .u8 m0.2.2.1, .int .u8 m0.2.2.2.1, .int .u8 m0.2.2.2.2.1, .int .u8 m0.2.2.2.2.2], .c (.int .i64 many1), .c (.int .i64 most2), uu, uu, uu, uu, uu, uu, uu, uu, uu, uu, uu, uu, uu, uu, uu, uu, uu, uu, uu, uu, uu, uu, uu, uu, uu, uu, uu, uu, uu, uu, uu, uu, uu, uu, uu, uu, uu, uu, uu, uu, uu, uu, uu, uu], hp := emp }
theorem S43_eq (n : Nat × Nat) (m0 : Int × Int × Int × Int × Int × Int) (many1 : Int) (most2 : Int) : S43 n m0 many1 most2 =
 (bif many1 == 0 then none
 else (bif bounds none (some (Int.tmod (wr .i64 m0.1) many1)) none 5 then L43_1 n n.1 most2 ([m0.2.1, m0.2.2.1, m0.2.2.2.1, m0.2.2.2.2.1, m0.2.2.2.2.2].take (Int.toNat (Int.tmod (wr .i64 m0.1) many1))) (([m0.2.1, m0.2.2.1, m0.2.2.2.1, m0.2.2.2.2.1, m0.2.2.2.2.2].take (Int.toNat (Int.tmod (wr .i64 m0.1) many1))).length : Int) 0 [1]
 else none)) := by kernel_rfl
theorem S43_run (n : Nat × Nat) (xs : pksDen pk43) : S43 n xs.1 xs.2.1 xs.2.2.1 = runG (E43 n) noScope c43 an43 (rtG rk43) (fun _ _ => none) (rtG rk43) (st0 pk43 xs Try.f43.ntmps) := by kernel_rfl
noncomputable def P43 (n : Nat × Nat) := phiOf pk43 rk43 (fun xs => S43 n xs.1 xs.2.1 xs.2.2.1)
theorem call43 : CallOK Try.prog 43 := callOK_of Try.func43 (by kernel_rfl) (by kernel_rfl)
theorem env43 (n : Nat × Nat) : EnvOK Try.prog (E43 n) := envOK0 noPhi_ok rfl rfl
theorem par43 (n : Nat × Nat) : EnvPar (E43 n) := envPar0 noPhi_par rfl
theorem FC43 (n : Nat × Nat) : FCs Try.prog 43 (P43 n) := phiOf_FCs fun xs r h vs hv => FC.of_runG tabOK eqsOK (env43 n) (par43 n) mixed (fun _ => noScope_ok) Try.func43 (c := c43) (an := an43) (pks := pk43) (rks := rk43) (by kernel_rfl) (by kernel_rfl) hv ((S43_run n xs).symm.trans h)
abbrev R48io0001110 := (Unit) × (List Int) × Int × (List Int) × Unit
noncomputable def c48io0001110 : Code := bodyOf Try.f48
noncomputable def an48io0001110 : Ann := (.s (.s .l (.j [0, 1, 2, 3, 6, 1000000000, 1000000001, 1000000002] (.s (.s .l (.j [1000000000, 1000000001, 1000000002] .l .l)) .l) .l)) (.s .l (.j [1000000000, 1000000001, 1000000002] (.j [0, 1, 2, 3, 6, 10, 1000000000, 1000000001, 1000000002] (.s (.s .l (.j [0, 1, 2, 3, 6, 10, 1000000000, 1000000001, 1000000002] .l .l)) (.s (.j [0, 1, 2, 3, 6, 10, 1000000000, 1000000001, 1000000002] .l .l) .l)) .l) .l)))
def pk48io0001110 : List QK := [.pl (.c (.sl (.int .i64))), .pl (.c (.int .i64)), .pl (.c (.int .i64)), .ob (.sl (.int .i64)), .ob (.int .i64), .ob (.sl (.int .i64)), .sf 48 [.b 1000000000, .b 1000000001, .b 1000000002, .s]]
def rk48io0001110 : List RK := []
noncomputable def rt48io0001110 (st : St) : Option R48io0001110 := rtIO rk48io0001110 (pk48io0001110.flatMap QK.ods) st
noncomputable def io48io0001110 (n : Nat × Nat) (SS : List Int → Int → Int → List Int → Int → List Int → Option R48io0001110) : List IoE := [⟨48, (fun _ => true), pk48io0001110.map QK.flag, (phioOf pk48io0001110 rk48io0001110 (pk48io0001110.flatMap QK.ods) (fun xs => SS xs.1 xs.2.1 xs.2.2.1 xs.2.2.2.1 xs.2.2.2.2.1 xs.2.2.2.2.2.1))⟩]
noncomputable def E48io0001110 (n : Nat × Nat) (SS : List Int → Int → Int → List Int → Int → List Int → Option R48io0001110) : Env := { T := tab, phi := noPhi, eff := fun _ => false, fuel := n.1, hold := n.2, phio := phioL (io48io0001110 n SS), iop := iopL (io48io0001110 n SS) }
noncomputable def xb48io0001110_6 (n : Nat × Nat) (SS : List Int → Int → Int → List Int → Int → List Int → Option R48io0001110) : Nat → St → Option R48io0001110 := fun j s => bif Nat.beq j 0 then normC [1000000000, 1000000001, 1000000002] s rt48io0001110 else (fun _ _ => none) j s
noncomputable def F48io0001110_7 (n : Nat × Nat) (SS : List Int → Int → Int → List Int → Int → List Int → Option R48io0001110) : (St → Option R48io0001110) → St → Option R48io0001110 := fun K s => run (E48io0001110 n SS) (cA (cA (cB (cB c48io0001110)))) (Ann.fst (Ann.fst (Ann.snd (Ann.snd an48io0001110)))) (fun s => normC [0, 1, 2, 3, 6, 10, 1000000000, 1000000001, 1000000002] s K) (xb48io0001110_6 n SS) rt48io0001110 s
noncomputable def L48io0001110_1 (n : Nat × Nat) (SS : List Int → Int → Int → List Int → Int → List Int → Option R48io0001110) (m : Nat) (l0 : List Int) (left1 : Int) (v2 : Int) (k10 : Int) (u0 : List Int) (u1 : Int) (u2 : List Int) : Option R48io0001110 := loopN (F48io0001110_7 n SS) m { tm := [.c (.sl (.int .i64) l0 false), .c (.int .i64 left1), .c (.int .i64 v2), .ptr 1000000000 0, uu, uu, .fptr 48 [.b 1000000000, .b 1000000001, .b 1000000002, .s], uu, uu, uu, .c (.int .i64 k10), uu, uu, uu, uu, uu, uu, uu, uu, uu, uu, uu, uu, uu, uu, uu, uu, uu, uu, uu, uu, uu, uu, uu, uu, uu, uu, uu, uu, uu, uu, uu, uu, uu, uu, uu, uu, uu, uu, uu, uu, uu, uu, uu, uu, uu, uu, uu, uu], hp := (upd (upd (upd emp 1000000002 (.box [.sl (.int .i64) u2 false])) 1000000001 (.box [.int .i64 u1])) 1000000000 (.box [.sl (.int .i64) u0 false])) }
theorem L48io0001110_1_eq (n : Nat × Nat) (SS : List Int → Int → Int → List Int → Int → List Int → Option R48io0001110) (m1 : Nat) (l0 : List Int) (left1 : Int) (v2 : Int) (k10 : Int) (u0 : List Int) (u1 : Int) (u2 : List Int) : L48io0001110_1 n SS (m1 + 1) l0 left1 v2 k10 u0 u1 u2 =
 (idx u0 (l0.length : Int)).bind fun x2' =>
 (bif decide (wr .i64 (k10 * x2') ≤ left1) then (bif ((l0.length : Int) == (l0.length : Int)) && bounds none (some (l0.length : Int)) (some (l0.length : Int)) l0.length then (bif decide ((l0.take (Int.toNat (l0.length : Int))).length + [k10].length ≤ lim) && ((l0.take (Int.toNat (l0.length : Int))).isEmpty || ![k10].isEmpty) then (idx u0 (l0.length : Int)).bind fun x3' =>
 (SS ((l0.take (Int.toNat (l0.length : Int))) ++ [k10]) (wr .i64 (left1 - (wr .i64 (k10 * x3')))) (wr .i64 (v2 + k10)) u0 u1 u2).bind fun r4' =>
          L48io0001110_1 n SS m1 l0 left1 v2 (wr .i64 (k10 + 1)) r4'.2.1 r4'.2.2.1 r4'.2.2.2.1
 else none)
 else none)
 else some ((), u0, u1, u2, ())) := by kernel_rfl
noncomputable def B48io0001110 (n : Nat × Nat) (SS : List Int → Int → Int → List Int → Int → List Int → Option R48io0001110) (l0 : List Int) (left1 : Int) (v2 : Int) (v3 : List Int) (v4 : Int) (v5 : List Int) : Option R48io0001110 := run (E48io0001110 n SS) c48io0001110 an48io0001110 rt48io0001110 (fun _ _ => none) rt48io0001110 { tm := [.c (.sl (.int .i64) l0 false), .c (.int .i64 left1), .c (.int .i64 v2), .ptr 1000000000 0, .ptr 1000000001 0, .ptr 1000000002 0, .fptr 48 [.b 1000000000, .b 1000000001, .b 1000000002, .s], uu, uu, uu, uu, uu, uu, uu, uu, uu, uu, uu, uu, uu, uu, uu, uu, uu, uu, uu, uu, uu, uu, uu, uu, uu, uu, uu, uu, uu, uu, uu, uu, uu, uu, uu, uu, uu, uu, uu, uu, uu, uu, uu, uu, uu, uu, uu, uu, uu, uu, uu, uu], hp := (upd (upd (upd emp 1000000002 (.box [.sl (.int .i64) v5 false])) 1000000001 (.box [.int .i64 v4])) 1000000000 (.box [.sl (.int .i64) v3 false])) }
theorem B48io0001110_eq (n : Nat × Nat) (SS : List Int → Int → Int → List Int → Int → List Int → Option R48io0001110) (l0 : List Int) (left1 : Int) (v2 : Int) (v3 : List Int) (v4 : Int) (v5 : List Int) : B48io0001110 n SS l0 left1 v2 v3 v4 v5 =
 (bif ((l0.length : Int) == (v3.length : Int)) then ((bif ((left1 == 0) == true) then some (decide (v2 < v4))
 else some false)).bind fun b1' =>
 (bif b1' then some ((), v3, v2, l0, ())
 else some ((), v3, v4, v5, ()))
 else L48io0001110_1 n SS n.1 l0 left1 v2 0 v3 v4 v5) := by kernel_rfl
noncomputable def T48io0001110 (n : Nat × Nat) : Nat → List Int → Int → Int → List Int → Int → List Int → Option R48io0001110
  | 0 => fun _ _ _ _ _ _ => none
  | d + 1 => B48io0001110 n (T48io0001110 n d)
theorem T48io0001110_eq (n : Nat × Nat) (d : Nat) (l0 : List Int) (left1 : Int) (v2 : Int) (v3 : List Int) (v4 : Int) (v5 : List Int) : T48io0001110 n (d + 1) l0 left1 v2 v3 v4 v5 = B48io0001110 n (T48io0001110 n d) l0 left1 v2 v3 v4 v5 := rfl
noncomputable def S48io0001110 (n : Nat × Nat) (l0 : List Int) (left1 : Int) (v2 : Int) (v3 : List Int) (v4 : Int) (v5 : List Int) : Option R48io0001110 := T48io0001110 n n.1 l0 left1 v2 v3 v4 v5
theorem B48io0001110_run (n : Nat × Nat) (SS : List Int → Int → Int → List Int → Int → List Int → Option R48io0001110) (xs : qksDen pk48io0001110) : B48io0001110 n SS xs.1 xs.2.1 xs.2.2.1 xs.2.2.2.1 xs.2.2.2.2.1 xs.2.2.2.2.2.1 = runG (E48io0001110 n SS) noScope c48io0001110 an48io0001110 (rtIO rk48io0001110 (pk48io0001110.flatMap QK.ods)) (fun _ _ => none) (rtIO rk48io0001110 (pk48io0001110.flatMap QK.ods)) (st1 pk48io0001110 xs Try.f48.ntmps) := by kernel_rfl
noncomputable def P48io0001110 (n : Nat × Nat) := phioOf pk48io0001110 rk48io0001110 (pk48io0001110.flatMap QK.ods) (fun xs => S48io0001110 n xs.1 xs.2.1 xs.2.2.1 xs.2.2.2.1 xs.2.2.2.2.1 xs.2.2.2.2.2.1)
theorem call48 : CallOK Try.prog 48 := callOK_of Try.func48 (by kernel_rfl) (by kernel_rfl)
theorem env48io0001110 (n : Nat × Nat) (SS : List Int → Int → Int → List Int → Int → List Int → Option R48io0001110) (hSS : FCios Try.prog 48 (pk48io0001110.map QK.flag) (phioOf pk48io0001110 rk48io0001110 (pk48io0001110.flatMap QK.ods) (fun xs => SS xs.1 xs.2.1 xs.2.2.1 xs.2.2.2.1 xs.2.2.2.2.1 xs.2.2.2.2.2.1))) : EnvOK Try.prog (E48io0001110 n SS) := envOK (l := io48io0001110 n SS) noPhi_ok rfl rfl (by kernel_rfl) ⟨hSS, call48, trivial⟩
theorem par48io0001110 (n : Nat × Nat) (SS : List Int → Int → Int → List Int → Int → List Int → Option R48io0001110) : EnvPar (E48io0001110 n SS) := envPar (l := io48io0001110 n SS) noPhi_par rfl ⟨phioOf_Pario1, trivial⟩
theorem FCT48io0001110 (n : Nat × Nat) : ∀ d : Nat, FCios Try.prog 48 (pk48io0001110.map QK.flag) (phioOf pk48io0001110 rk48io0001110 (pk48io0001110.flatMap QK.ods) (fun xs => T48io0001110 n d xs.1 xs.2.1 xs.2.2.1 xs.2.2.2.1 xs.2.2.2.2.1 xs.2.2.2.2.2.1))
  | 0 => phioOf_FCios fun xs r h => by cases h
  | d + 1 => phioOf_FCios fun xs r h vs hv => FCio.of_runG tabOK eqsOK (env48io0001110 n (T48io0001110 n d) (FCT48io0001110 n d)) (par48io0001110 n (T48io0001110 n d)) mixed (fun _ => noScope_ok) Try.func48 (c := c48io0001110) (an := an48io0001110) (qks := pk48io0001110) (rks := rk48io0001110) (by kernel_rfl) (by kernel_rfl) hv ((B48io0001110_run n (T48io0001110 n d) xs).symm.trans h)
theorem FC48io0001110 (n : Nat × Nat) : FCios Try.prog 48 (pk48io0001110.map QK.flag) (P48io0001110 n) := FCT48io0001110 n n.1
abbrev R9 := Bool
noncomputable def c9 : Code := bodyOf Try.f9
noncomputable def an9 : Ann := (.s .l (.s .l (.s .l (.s .l (.s .l (.s .l (.s .l (.s .l (.s .l (.s .l (.s .l (.s .l (.s (.s .l (.j [2, 7, 8, 12, 115, 116, 119, 120, 123, 124, 127, 128, 131, 132, 135, 136, 137, 138, 139, 163, 164, 165, 166, 170, 171, 172, 173, 178] .l .l)) (.s .l (.s .l (.s .l (.s (.s .l (.j [7, 8, 12, 163, 164, 165, 166, 170, 171, 172, 173, 178] .l .l)) (.s .l (.s (.s .l (.j [23, 178] (.j [7, 8, 12, 23, 143, 144, 145, 163, 164, 165, 166, 170, 171, 172, 173, 178] (.s .l (.s (.j [7, 8, 12, 23, 143, 144, 145, 163, 164, 165, 166, 170, 171, 172, 173, 178] .l .l) (.j [] (.j [7, 8, 12, 23, 143, 144, 145, 163, 164, 165, 166, 170, 171, 172, 173, 178] (.s .l (.s (.s .l (.j [7, 8, 12, 23, 25, 143, 144, 145, 163, 164, 165, 166, 170, 171, 172, 173, 178] .l .l)) (.s .l (.s (.s .l (.j [7, 8, 12, 23, 26, 143, 144, 145, 163, 164, 165, 166, 170, 171, 172, 173, 178] .l .l)) .l)))) .l) .l))) .l) .l)) .l)))))))))))))))))))
def pk9 : List PK := [.c (.pair (.int .u8) (.pair (.int .u8) (.pair (.int .u8) (.pair (.int .u8) (.pair (.int .u8) (.int .u8)))))), .c (.int .u8), .c (.int .u8)]
def rk9 : List RK := [.c .bool 6]
noncomputable def rt9 (st : St) : Option R9 := rtG rk9 st
noncomputable def io9 (n : Nat × Nat) : List IoE := [⟨48, (fun _ => true), pk48io0001110.map QK.flag, P48io0001110 n⟩]
noncomputable def E9 (n : Nat × Nat) : Env := { T := tab, phi := (consPhi 17 (fun _ => true) (P17 n) (consPhi 18 (fun _ => true) (P18 n) (consPhi 20 (fun _ => true) (P20 n) (consPhi 22 (fun _ => true) (P22 n) (consPhi 24 (fun _ => true) (P24 n) (consPhi 43 (fun _ => true) (P43 n) (consPhi 45 (fun _ => true) (P45 n) noPhi))))))), eff := fun g => Nat.beq g 43, fuel := n.1, hold := n.2, phio := phioL (io9 n), iop := iopL (io9 n) }
noncomputable def kq9_5 (n : Nat × Nat) : St → Option R9 := run (E9 n) (cB (cB (cB (cB (cB (cB (cB (cB (cB (cB (cB (cB (cB (cB (cB (cB (cB (cB (cB c9))))))))))))))))))) (Ann.snd (Ann.snd (Ann.snd (Ann.snd (Ann.snd (Ann.snd (Ann.snd (Ann.snd (Ann.snd (Ann.snd (Ann.snd (Ann.snd (Ann.snd (Ann.snd (Ann.snd (Ann.snd (Ann.snd (Ann.snd (Ann.snd an9))))))))))))))))))) rt9 (fun _ _ => none) rt9
noncomputable def xb9_7 (n : Nat × Nat) : Nat → St → Option R9 := fun j s => bif Nat.beq j 0 then normC [23, 178] s (kq9_5 n) else (fun _ _ => none) j s
noncomputable def F9_8 (n : Nat × Nat) : (St → Option R9) → St → Option R9 := fun K s => run (E9 n) (cA (cA (cB (cA (cB (cB (cB (cB (cB (cB (cB (cB (cB (cB (cB (cB (cB (cB (cB (cB (cB (cB c9)))))))))))))))))))))) (Ann.fst (Ann.fst (Ann.snd (Ann.fst (Ann.snd (Ann.snd (Ann.snd (Ann.snd (Ann.snd (Ann.snd (Ann.snd (Ann.snd (Ann.snd (Ann.snd (Ann.snd (Ann.snd (Ann.snd (Ann.snd (Ann.snd (Ann.snd (Ann.snd (Ann.snd an9)))))))))))))))))))))) (fun s => normC [7, 8, 12, 23, 143, 144, 145, 163, 164, 165, 166, 170, 171, 172, 173, 178] s K) (xb9_7 n) rt9 s
noncomputable def kq9_11 (n : Nat × Nat) (m1 : Nat) : St → Option R9 := run (E9 n) (cB (cB (cB (cA (cA (cB (cA (cB (cB (cB (cB (cB (cB (cB (cB (cB (cB (cB (cB (cB (cB (cB (cB (cB (cB c9))))))))))))))))))))))))) (Ann.snd (Ann.snd (Ann.snd (Ann.fst (Ann.fst (Ann.snd (Ann.fst (Ann.snd (Ann.snd (Ann.snd (Ann.snd (Ann.snd (Ann.snd (Ann.snd (Ann.snd (Ann.snd (Ann.snd (Ann.snd (Ann.snd (Ann.snd (Ann.snd (Ann.snd (Ann.snd (Ann.snd (Ann.snd an9))))))))))))))))))))))))) (fun s => normC [7, 8, 12, 23, 143, 144, 145, 163, 164, 165, 166, 170, 171, 172, 173, 178] s (loopN (F9_8 n) m1)) (xb9_7 n) rt9
noncomputable def L9_1 (n : Nat × Nat) (m : Nat) (s8 : Int) (v12 : Int) (one23 : Bool) (v143 : List Int) (v144 : Int) (v145 : Int) (coins7 : List Int) : Option R9 := loopN (F9_8 n) m { tm := [uu, uu, uu, uu, uu, uu, uu, .ptr 7 0, .c (.int .i64 s8), uu, uu, uu, .c (.int .i64 v12), uu, uu, uu, uu, uu, uu, uu, uu, uu, uu, .c (.bool one23), uu, uu, uu, uu, uu, uu, uu, uu, uu, uu, uu, uu, uu, uu, uu, uu, uu, uu, uu, uu, uu, uu, uu, uu, uu, uu, uu, uu, uu, uu, uu, uu, uu, uu, uu, uu, uu, uu, uu, uu, uu, uu, uu, uu, uu, uu, uu, uu, uu, uu, uu, uu, uu, uu, uu, uu, uu, uu, uu, uu, uu, uu, uu, uu, uu, uu, uu, uu, uu, uu, uu, uu, uu, uu, uu, uu, uu, uu, uu, uu, uu, uu, uu, uu, uu, uu, uu, uu, uu, uu, uu, uu, uu, uu, uu, uu, uu, uu, uu, uu, uu, uu, uu, uu, uu, uu, uu, uu, uu, uu, uu, uu, uu, uu, uu, uu, uu, uu, uu, .c (.sl (.int .i64) v143 false), .c (.int .i64 v144), .c (.int .i64 v145), uu, uu, uu, uu, uu, uu, uu, uu, uu, uu, uu, uu, uu, uu, uu, uu, uu, uu, uu, uu, uu, uu, uu, uu, uu, uu, uu, uu, uu, uu, uu, uu, uu, uu], hp := (upd emp 7 (.box [.sl (.int .i64) coins7 false])) }
noncomputable def L9_2 (n : Nat × Nat) (m1 : Nat) (s8 : Int) (v12 : Int) (one23 : Bool) (v143 : List Int) (v144 : Int) (v145 : Int) (coins7 : List Int) : Option R9 := loopN (fun _ => (kq9_11 n m1)) n.2 { tm := [uu, uu, uu, uu, uu, uu, uu, .ptr 7 0, .c (.int .i64 s8), uu, uu, uu, .c (.int .i64 v12), uu, uu, uu, uu, uu, uu, uu, uu, uu, uu, .c (.bool one23), uu, uu, uu, uu, uu, uu, uu, uu, uu, uu, uu, uu, uu, uu, uu, uu, uu, uu, uu, uu, uu, uu, uu, uu, uu, uu, uu, uu, uu, uu, uu, uu, uu, uu, uu, uu, uu, uu, uu, uu, uu, uu, uu, uu, uu, uu, uu, uu, uu, uu, uu, uu, uu, uu, uu, uu, uu, uu, uu, uu, uu, uu, uu, uu, uu, uu, uu, uu, uu, uu, uu, uu, uu, uu, uu, uu, uu, uu, uu, uu, uu, uu, uu, uu, uu, uu, uu, uu, uu, uu, uu, uu, uu, uu, uu, uu, uu, uu, uu, uu, uu, uu, uu, uu, uu, uu, uu, uu, uu, uu, uu, uu, uu, uu, uu, uu, uu, uu, uu, .c (.sl (.int .i64) v143 false), .c (.int .i64 v144), .c (.int .i64 v145), uu, uu, uu, uu, uu, uu, uu, uu, uu, uu, uu, uu, uu, uu, uu, uu, uu, uu, uu, uu, uu, uu, uu, uu, uu, uu, uu, uu, uu, uu, uu, uu, uu, uu], hp := (upd emp 7 (.box [.sl (.int .i64) coins7 false])) }
theorem L9_1_eq (n : Nat × Nat) (m1 : Nat) (s8 : Int) (v12 : Int) (one23 : Bool) (v143 : List Int) (v144 : Int) (v145 : Int) (coins7 : List Int) : L9_1 n (m1 + 1) s8 v12 one23 v143 v144 v145 coins7 =
 (bif decide (v145 < v144) then (idx v143 v145).bind fun x23' =>
 (bif decide (x23' > s8) then L9_2 n m1 s8 v12 one23 v143 v144 v145 coins7
 else (S18 n coins7 (wr .i64 (s8 - x23'))).bind fun r24' =>
 ((bif ((r24'.2 != 0) == false) then some (decide (r24'.1 < wr .i64 (v12 - 1)))
 else some true)).bind fun b25' =>
 (bif b25' then some false
 else ((bif (one23 == false) then some (r24'.1 == (wr .i64 (v12 - 1)))
 else some true)).bind fun b26' =>
          L9_2 n m1 s8 v12 b26' v143 v144 v145 coins7))
 else ((bif (one23 == true) then (S17 n).bind fun r27' =>
 some r27'
 else some false)).bind fun b28' =>
 some b28') := by kernel_rfl
theorem L9_2_raw (n : Nat × Nat) (m1 : Nat) (s8 : Int) (v12 : Int) (one23 : Bool) (v143 : List Int) (v144 : Int) (v145 : Int) (coins7 : List Int) : (kq9_11 n m1) { tm := [uu, uu, uu, uu, uu, uu, uu, .ptr 7 0, .c (.int .i64 s8), uu, uu, uu, .c (.int .i64 v12), uu, uu, uu, uu, uu, uu, uu, uu, uu, uu, .c (.bool one23), uu, uu, uu, uu, uu, uu, uu, uu, uu, uu, uu, uu, uu, uu, uu, uu, uu, uu, uu, uu, uu, uu, uu, uu, uu, uu, uu, uu, uu, uu, uu, uu, uu, uu, uu, uu, uu, uu, uu, uu, uu, uu, uu, uu, uu, uu, uu, uu, uu, uu, uu, uu, uu, uu, uu, uu, uu, uu, uu, uu, uu, uu, uu, uu, uu, uu, uu, uu, uu, uu, uu, uu, uu, uu, uu, uu, uu, uu, uu, uu, uu, uu, uu, uu, uu, uu, uu, uu, uu, uu, uu, uu, uu, uu, uu, uu, uu, uu, uu, uu, uu, uu, uu, uu, uu, uu, uu, uu, uu, uu, uu, uu, uu, uu, uu, uu, uu, uu, uu, .c (.sl (.int .i64) v143 false), .c (.int .i64 v144), .c (.int .i64 v145), uu, uu, uu, uu, uu, uu, uu, uu, uu, uu, uu, uu, uu, uu, uu, uu, uu, uu, uu, uu, uu, uu, uu, uu, uu, uu, uu, uu, uu, uu, uu, uu, uu, uu], hp := (upd emp 7 (.box [.sl (.int .i64) coins7 false])) } =
    L9_1 n m1 s8 v12 one23 v143 v144 (wr .i64 (v145 + 1)) coins7 := by kernel_rfl
noncomputable def S9 (n : Nat × Nat) (m0 : Int × Int × Int × Int × Int × Int) (sum1 : Int) (part2 : Int) : Option R9 := run (E9 n) c9 an9 rt9 (fun _ _ => none) rt9 { tm := [.agg [.int .u8 m0.1, .int .u8 m0.2.1, .int .u8 m0.2.2.1, .int .u8 m0.2.2.2.1, .int .u8 m0.2.2.2.2.1, .int .u8 m0.2.2.2.2.2], .c (.int .u8 sum1), .c (.int .u8 part2), uu, uu, uu, uu, uu, uu, uu, uu, uu, uu, uu, uu, uu, uu, uu, uu, uu, uu, uu, uu, uu, uu, uu, uu, uu, uu, uu, uu, uu, uu, uu, uu, uu, uu, uu, uu, uu, uu, uu, uu, uu, uu, uu, uu, uu, uu, uu, uu, uu, uu, uu, uu, uu, uu, uu, uu, uu, uu, uu, uu, uu, uu, uu, uu, uu, uu, uu, uu, uu, uu, uu, uu, uu, uu, uu, uu, uu, uu, uu, uu, uu, uu, uu, uu, uu, uu, uu, uu, uu, uu, uu, uu, uu, uu, uu, uu, uu, uu, uu, uu, uu, uu, uu, uu, uu, uu, uu, uu, uu, uu, uu, uu, uu, uu, uu, uu, uu, uu, uu, uu, uu, uu, uu, uu, uu, uu, uu, uu, uu, uu, uu, uu, uu, uu, uu, uu, uu, uu, uu, uu, uu, uu, uu, uu, uu, uu, uu, uu, uu, uu, uu, uu, uu, uu, uu, uu, uu, uu, uu, uu, uu, uu, uu, uu, uu, uu, uu, uu, uu, uu, uu, uu, uu, uu, uu, uu, uu], hp := emp }
theorem S9_eq (n : Nat × Nat) (m0 : Int × Int × Int × Int × Int × Int) (sum1 : Int) (part2 : Int) : S9 n m0 sum1 part2 =
 (S43 n m0 4 12).bind fun r1' =>
 (bif 41 == 0 then none
 else (S48io0001110 n [] (Int.tmod (wr .i64 sum1) 41) 0 r1' 1000 []).bind fun r2' =>
 (S18 n r2'.2.1 (Int.tmod (wr .i64 sum1) 41)).bind fun r3' =>
 (S20 n r2'.2.1 (Int.tmod (wr .i64 sum1) 41)).bind fun r4' =>
 (S22 n r2'.2.1 (Int.tmod (wr .i64 sum1) 41)).bind fun r5' =>
 (S45 n r2'.2.1 (Int.tmod (wr .i64 sum1) 41)).bind fun r6' =>
 ((bif ((r3'.2 != 0) == false) then some (r4'.2 != 0)
 else some true)).bind fun b7' =>
 ((bif (b7' == false) then some (r5'.2 != 0)
 else some true)).bind fun b8' =>
 ((bif (b8' == false) then some (r3'.1 != r2'.2.2.1)
 else some true)).bind fun b9' =>
 ((bif (b9' == false) then (S24 n r4'.1 r2'.2.2.2.1).bind fun r10' =>
 some (!r10')
 else some true)).bind fun b11' =>
 ((bif (b11' == false) then (S24 n r5'.1 r6'.1).bind fun r12' =>
 some (!r12')
 else some true)).bind fun b13' =>
 ((bif (b13' == false) then some (decide (r6'.2 < r3'.1))
 else some true)).bind fun b14' =>
 (bif b14' then some false
 else (bif (wr .i64 ((Int.tmod (wr .i64 sum1) 41) + 1)) == 0 then none
 else (S18 n r2'.2.1 (Int.tmod (wr .i64 part2) (wr .i64 ((Int.tmod (wr .i64 sum1) 41) + 1)))).bind fun r15' =>
 (S18 n r2'.2.1 (wr .i64 ((Int.tmod (wr .i64 sum1) 41) - (Int.tmod (wr .i64 part2) (wr .i64 ((Int.tmod (wr .i64 sum1) 41) + 1)))))).bind fun r16' =>
 ((bif ((r15'.2 != 0) == false) then some (r16'.2 != 0)
 else some true)).bind fun b17' =>
 ((bif (b17' == false) then some (decide (r15'.1 < 0))
 else some true)).bind fun b18' =>
 ((bif (b18' == false) then some (decide (r16'.1 < 0))
 else some true)).bind fun b19' =>
 ((bif (b19' == false) then some (decide (r15'.1 > 200))
 else some true)).bind fun b20' =>
 ((bif (b20' == false) then some (decide (r16'.1 > 200))
 else some true)).bind fun b21' =>
 ((bif (b21' == false) then some (decide (wr .i64 (r15'.1 + r16'.1) < r3'.1))
 else some true)).bind fun b22' =>
 (bif b22' then some false
 else L9_1 n n.1 (Int.tmod (wr .i64 sum1) 41) r3'.1 ((Int.tmod (wr .i64 sum1) 41) == 0) r2'.2.1 (r2'.2.1.length : Int) 0 r2'.2.1)))) := by kernel_rfl
theorem S9_run (n : Nat × Nat) (xs : pksDen pk9) : S9 n xs.1 xs.2.1 xs.2.2.1 = runG (E9 n) noScope c9 an9 (rtG rk9) (fun _ _ => none) (rtG rk9) (st0 pk9 xs Try.f9.ntmps) := by kernel_rfl
noncomputable def P9 (n : Nat × Nat) := phiOf pk9 rk9 (fun xs => S9 n xs.1 xs.2.1 xs.2.2.1)
theorem env9 (n : Nat × Nat) : EnvOK Try.prog (E9 n) := envOK (l := io9 n) (consPhi_ok (FC17 n) call17 (consPhi_ok (FC18 n) call18 (consPhi_ok (FC20 n) call20 (consPhi_ok (FC22 n) call22 (consPhi_ok (FC24 n) call24 (consPhi_ok (FC43 n) call43 (consPhi_ok (FC45 n) call45 noPhi_ok))))))) rfl rfl (by kernel_rfl) ⟨FC48io0001110 n, call48, trivial⟩
theorem par9 (n : Nat × Nat) : EnvPar (E9 n) := envPar (l := io9 n) (consPhi_par phiOf_Par1 (consPhi_par phiOf_Par1 (consPhi_par phiOf_Par1 (consPhi_par phiOf_Par1 (consPhi_par phiOf_Par1 (consPhi_par phiOf_Par1 (consPhi_par phiOf_Par1 noPhi_par))))))) rfl ⟨phioOf_Pario1, trivial⟩
theorem FC9 (n : Nat × Nat) : FCs Try.prog 9 (P9 n) := phiOf_FCs fun xs r h vs hv => FC.of_runG tabOK eqsOK (env9 n) (par9 n) mixed (fun _ => noScope_ok) Try.func9 (c := c9) (an := an9) (pks := pk9) (rks := rk9) (by kernel_rfl) (by kernel_rfl) hv ((S9_run n xs).symm.trans h)
/-D 43 -/
noncomputable def DL43_2 (n : Nat × Nat) (f1 : Int → List Int → Int → Int → List Int → Option R43) (most2 : Int) (v19 : List Int) (v20 : Int) (v21 : Int) (out7 : List Int) : Option R43 :=
    f1 most2 v19 v20 (wr .i64 (v21 + 1)) out7
theorem DL43_2_eq (n : Nat × Nat) (hn : n.2 = 1) (m1 : Nat) : L43_2 n m1 = DL43_2 n (L43_1 n m1) := by
  funext most2 v19 v20 v21 out7; refine ((held_eq hn _).trans (L43_2_raw n m1 most2 v19 v20 v21 out7)).trans ?_
  unfold DL43_2
  first | with_reducible rfl | rfl
noncomputable def DF43_1 (n : Nat × Nat) (f1 : Int → List Int → Int → Int → List Int → Option R43) (most2 : Int) (v19 : List Int) (v20 : Int) (v21 : Int) (out7 : List Int) : Option R43 :=
 (bif decide (v21 < v20) then (idx v19 v21).bind fun x1' =>
 (bif inB (wr .i64 ((out7.length : Int) - 1)) out7.length then (idx out7 (wr .i64 ((out7.length : Int) - 1))).bind fun x2' =>
 (bif 2 == 0 then none
 else (bif (wr .i64 (Int.tdiv most2 2)) == 0 then none
 else (bif decide (wr .i64 ((wr .i64 (x2' + 1)) + (Int.tmod (wr .i64 x1') (wr .i64 (Int.tdiv most2 2)))) ≤ most2) then (bif decide (out7.length + [wr .i64 ((wr .i64 (x2' + 1)) + (Int.tmod (wr .i64 x1') (wr .i64 (Int.tdiv most2 2))))].length ≤ lim) then DL43_2 n f1 most2 v19 v20 v21 (out7 ++ [wr .i64 ((wr .i64 (x2' + 1)) + (Int.tmod (wr .i64 x1') (wr .i64 (Int.tdiv most2 2))))])
 else none)
 else DL43_2 n f1 most2 v19 v20 v21 out7)))
 else none)
 else some out7)
noncomputable def DL43_1 (n : Nat × Nat) (m : Nat) : Int → List Int → Int → Int → List Int → Option R43 := Nat.rec (motive := fun _ => Int → List Int → Int → Int → List Int → Option R43) (fun _ _ _ _ _ => none) (fun _ ih => DF43_1 n ih) m
theorem DL43_1_succ (n : Nat × Nat) (m : Nat) : DL43_1 n (m + 1) = DF43_1 n (DL43_1 n m) := rfl
theorem DL43_1_eq (n : Nat × Nat) (hn : n.2 = 1) : ∀ m, L43_1 n m = DL43_1 n m
  | 0 => by funext most2 v19 v20 v21 out7; kernel_rfl
  | m + 1 => by
    have ih := DL43_1_eq n hn m
    funext most2 v19 v20 v21 out7; refine (L43_1_eq n m most2 v19 v20 v21 out7).trans ?_
    rw [DL43_1_succ]
    unfold DF43_1
    (try simp only [ih, DL43_2_eq n hn]) <;> first | with_reducible rfl | rfl
noncomputable def D43 (n : Nat × Nat) (m0 : Int × Int × Int × Int × Int × Int) (many1 : Int) (most2 : Int) : Option R43 :=
 (bif many1 == 0 then none
 else (bif bounds none (some (Int.tmod (wr .i64 m0.1) many1)) none 5 then DL43_1 n n.1 most2 ([m0.2.1, m0.2.2.1, m0.2.2.2.1, m0.2.2.2.2.1, m0.2.2.2.2.2].take (Int.toNat (Int.tmod (wr .i64 m0.1) many1))) (([m0.2.1, m0.2.2.1, m0.2.2.2.1, m0.2.2.2.2.1, m0.2.2.2.2.2].take (Int.toNat (Int.tmod (wr .i64 m0.1) many1))).length : Int) 0 [1]
 else none))
theorem S43_D (n : Nat × Nat) (hn : n.2 = 1) : S43 n = D43 n := by
  funext m0 many1 most2; refine (S43_eq n m0 many1 most2).trans ?_
  unfold D43
  (try simp only [DL43_2_eq n hn, DL43_1_eq n hn]) <;> first | with_reducible rfl | rfl
/-D 48io0001110 -/
noncomputable def DF48io0001110_1 (n : Nat × Nat) (SS : List Int → Int → Int → List Int → Int → List Int → Option R48io0001110) (f1 : List Int → Int → Int → Int → List Int → Int → List Int → Option R48io0001110) (l0 : List Int) (left1 : Int) (v2 : Int) (k10 : Int) (u0 : List Int) (u1 : Int) (u2 : List Int) : Option R48io0001110 :=
 (idx u0 (l0.length : Int)).bind fun x2' =>
 (bif decide (wr .i64 (k10 * x2') ≤ left1) then (bif ((l0.length : Int) == (l0.length : Int)) && bounds none (some (l0.length : Int)) (some (l0.length : Int)) l0.length then (bif decide ((l0.take (Int.toNat (l0.length : Int))).length + [k10].length ≤ lim) && ((l0.take (Int.toNat (l0.length : Int))).isEmpty || ![k10].isEmpty) then (idx u0 (l0.length : Int)).bind fun x3' =>
 (SS ((l0.take (Int.toNat (l0.length : Int))) ++ [k10]) (wr .i64 (left1 - (wr .i64 (k10 * x3')))) (wr .i64 (v2 + k10)) u0 u1 u2).bind fun r4' =>
          f1 l0 left1 v2 (wr .i64 (k10 + 1)) r4'.2.1 r4'.2.2.1 r4'.2.2.2.1
 else none)
 else none)
 else some ((), u0, u1, u2, ()))
noncomputable def DL48io0001110_1 (n : Nat × Nat) (SS : List Int → Int → Int → List Int → Int → List Int → Option R48io0001110) (m : Nat) : List Int → Int → Int → Int → List Int → Int → List Int → Option R48io0001110 := Nat.rec (motive := fun _ => List Int → Int → Int → Int → List Int → Int → List Int → Option R48io0001110) (fun _ _ _ _ _ _ _ => none) (fun _ ih => DF48io0001110_1 n SS ih) m
theorem DL48io0001110_1_succ (n : Nat × Nat) (SS : List Int → Int → Int → List Int → Int → List Int → Option R48io0001110) (m : Nat) : DL48io0001110_1 n SS (m + 1) = DF48io0001110_1 n SS (DL48io0001110_1 n SS m) := rfl
theorem DL48io0001110_1_eq (n : Nat × Nat) (hn : n.2 = 1) (SS : List Int → Int → Int → List Int → Int → List Int → Option R48io0001110) : ∀ m, L48io0001110_1 n SS m = DL48io0001110_1 n SS m
  | 0 => by funext l0 left1 v2 k10 u0 u1 u2; kernel_rfl
  | m + 1 => by
    have ih := DL48io0001110_1_eq n hn SS m
    funext l0 left1 v2 k10 u0 u1 u2; refine (L48io0001110_1_eq n SS m l0 left1 v2 k10 u0 u1 u2).trans ?_
    rw [DL48io0001110_1_succ]
    unfold DF48io0001110_1
    (try simp only [ih]) <;> first | with_reducible rfl | rfl
noncomputable def DB48io0001110 (n : Nat × Nat) (SS : List Int → Int → Int → List Int → Int → List Int → Option R48io0001110) (l0 : List Int) (left1 : Int) (v2 : Int) (v3 : List Int) (v4 : Int) (v5 : List Int) : Option R48io0001110 :=
 (bif ((l0.length : Int) == (v3.length : Int)) then ((bif ((left1 == 0) == true) then some (decide (v2 < v4))
 else some false)).bind fun b1' =>
 (bif b1' then some ((), v3, v2, l0, ())
 else some ((), v3, v4, v5, ()))
 else DL48io0001110_1 n SS n.1 l0 left1 v2 0 v3 v4 v5)
theorem DB48io0001110_eq (n : Nat × Nat) (hn : n.2 = 1) (SS : List Int → Int → Int → List Int → Int → List Int → Option R48io0001110) : B48io0001110 n SS = DB48io0001110 n SS := by
  funext l0 left1 v2 v3 v4 v5; refine (B48io0001110_eq n SS l0 left1 v2 v3 v4 v5).trans ?_
  unfold DB48io0001110
  (try simp only [DL48io0001110_1_eq n hn SS]) <;> first | with_reducible rfl | rfl
noncomputable def DT48io0001110 (n : Nat × Nat) (d : Nat) : List Int → Int → Int → List Int → Int → List Int → Option R48io0001110 := Nat.rec (motive := fun _ => List Int → Int → Int → List Int → Int → List Int → Option R48io0001110) (fun _ _ _ _ _ _ => none) (fun _ ih => DB48io0001110 n ih) d
theorem DT48io0001110_succ (n : Nat × Nat) (d : Nat) : DT48io0001110 n (d + 1) = DB48io0001110 n (DT48io0001110 n d) := rfl
theorem DT48io0001110_eq (n : Nat × Nat) (hn : n.2 = 1) : ∀ d, T48io0001110 n d = DT48io0001110 n d
  | 0 => rfl
  | d + 1 => by
    funext l0 left1 v2 v3 v4 v5
    rw [T48io0001110_eq, DT48io0001110_eq n hn d, DB48io0001110_eq n hn, DT48io0001110_succ]
noncomputable def D48io0001110 (n : Nat × Nat) (l0 : List Int) (left1 : Int) (v2 : Int) (v3 : List Int) (v4 : Int) (v5 : List Int) : Option R48io0001110 := DT48io0001110 n n.1 l0 left1 v2 v3 v4 v5
theorem S48io0001110_D (n : Nat × Nat) (hn : n.2 = 1) : S48io0001110 n = D48io0001110 n := by
  funext l0 left1 v2 v3 v4 v5; unfold S48io0001110 D48io0001110; rw [DT48io0001110_eq n hn]
/-D 9 -/
noncomputable def DL9_2 (n : Nat × Nat) (f1 : Int → Int → Bool → List Int → Int → Int → List Int → Option R9) (s8 : Int) (v12 : Int) (one23 : Bool) (v143 : List Int) (v144 : Int) (v145 : Int) (coins7 : List Int) : Option R9 :=
    f1 s8 v12 one23 v143 v144 (wr .i64 (v145 + 1)) coins7
theorem DL9_2_eq (n : Nat × Nat) (hn : n.2 = 1) (m1 : Nat) : L9_2 n m1 = DL9_2 n (L9_1 n m1) := by
  funext s8 v12 one23 v143 v144 v145 coins7; refine ((held_eq hn _).trans (L9_2_raw n m1 s8 v12 one23 v143 v144 v145 coins7)).trans ?_
  unfold DL9_2
  (try simp only [S17_D n hn, S18_D n hn, S20_D n hn, S22_D n hn, S24_D n hn, S43_D n hn, S45_D n hn, S48io0001110_D n hn]) <;> first | with_reducible rfl | rfl
noncomputable def DF9_1 (n : Nat × Nat) (f1 : Int → Int → Bool → List Int → Int → Int → List Int → Option R9) (s8 : Int) (v12 : Int) (one23 : Bool) (v143 : List Int) (v144 : Int) (v145 : Int) (coins7 : List Int) : Option R9 :=
 (bif decide (v145 < v144) then (idx v143 v145).bind fun x23' =>
 (bif decide (x23' > s8) then DL9_2 n f1 s8 v12 one23 v143 v144 v145 coins7
 else (D18 n coins7 (wr .i64 (s8 - x23'))).bind fun r24' =>
 ((bif ((r24'.2 != 0) == false) then some (decide (r24'.1 < wr .i64 (v12 - 1)))
 else some true)).bind fun b25' =>
 (bif b25' then some false
 else ((bif (one23 == false) then some (r24'.1 == (wr .i64 (v12 - 1)))
 else some true)).bind fun b26' =>
          DL9_2 n f1 s8 v12 b26' v143 v144 v145 coins7))
 else ((bif (one23 == true) then (D17 n).bind fun r27' =>
 some r27'
 else some false)).bind fun b28' =>
 some b28')
noncomputable def DL9_1 (n : Nat × Nat) (m : Nat) : Int → Int → Bool → List Int → Int → Int → List Int → Option R9 := Nat.rec (motive := fun _ => Int → Int → Bool → List Int → Int → Int → List Int → Option R9) (fun _ _ _ _ _ _ _ => none) (fun _ ih => DF9_1 n ih) m
theorem DL9_1_succ (n : Nat × Nat) (m : Nat) : DL9_1 n (m + 1) = DF9_1 n (DL9_1 n m) := rfl
theorem DL9_1_eq (n : Nat × Nat) (hn : n.2 = 1) : ∀ m, L9_1 n m = DL9_1 n m
  | 0 => by funext s8 v12 one23 v143 v144 v145 coins7; kernel_rfl
  | m + 1 => by
    have ih := DL9_1_eq n hn m
    funext s8 v12 one23 v143 v144 v145 coins7; refine (L9_1_eq n m s8 v12 one23 v143 v144 v145 coins7).trans ?_
    rw [DL9_1_succ]
    unfold DF9_1
    (try simp only [ih, DL9_2_eq n hn, S17_D n hn, S18_D n hn, S20_D n hn, S22_D n hn, S24_D n hn, S43_D n hn, S45_D n hn, S48io0001110_D n hn]) <;> first | with_reducible rfl | rfl
noncomputable def D9 (n : Nat × Nat) (m0 : Int × Int × Int × Int × Int × Int) (sum1 : Int) (part2 : Int) : Option R9 :=
 (D43 n m0 4 12).bind fun r1' =>
 (bif 41 == 0 then none
 else (D48io0001110 n [] (Int.tmod (wr .i64 sum1) 41) 0 r1' 1000 []).bind fun r2' =>
 (D18 n r2'.2.1 (Int.tmod (wr .i64 sum1) 41)).bind fun r3' =>
 (D20 n r2'.2.1 (Int.tmod (wr .i64 sum1) 41)).bind fun r4' =>
 (D22 n r2'.2.1 (Int.tmod (wr .i64 sum1) 41)).bind fun r5' =>
 (D45 n r2'.2.1 (Int.tmod (wr .i64 sum1) 41)).bind fun r6' =>
 ((bif ((r3'.2 != 0) == false) then some (r4'.2 != 0)
 else some true)).bind fun b7' =>
 ((bif (b7' == false) then some (r5'.2 != 0)
 else some true)).bind fun b8' =>
 ((bif (b8' == false) then some (r3'.1 != r2'.2.2.1)
 else some true)).bind fun b9' =>
 ((bif (b9' == false) then (D24 n r4'.1 r2'.2.2.2.1).bind fun r10' =>
 some (!r10')
 else some true)).bind fun b11' =>
 ((bif (b11' == false) then (D24 n r5'.1 r6'.1).bind fun r12' =>
 some (!r12')
 else some true)).bind fun b13' =>
 ((bif (b13' == false) then some (decide (r6'.2 < r3'.1))
 else some true)).bind fun b14' =>
 (bif b14' then some false
 else (bif (wr .i64 ((Int.tmod (wr .i64 sum1) 41) + 1)) == 0 then none
 else (D18 n r2'.2.1 (Int.tmod (wr .i64 part2) (wr .i64 ((Int.tmod (wr .i64 sum1) 41) + 1)))).bind fun r15' =>
 (D18 n r2'.2.1 (wr .i64 ((Int.tmod (wr .i64 sum1) 41) - (Int.tmod (wr .i64 part2) (wr .i64 ((Int.tmod (wr .i64 sum1) 41) + 1)))))).bind fun r16' =>
 ((bif ((r15'.2 != 0) == false) then some (r16'.2 != 0)
 else some true)).bind fun b17' =>
 ((bif (b17' == false) then some (decide (r15'.1 < 0))
 else some true)).bind fun b18' =>
 ((bif (b18' == false) then some (decide (r16'.1 < 0))
 else some true)).bind fun b19' =>
 ((bif (b19' == false) then some (decide (r15'.1 > 200))
 else some true)).bind fun b20' =>
 ((bif (b20' == false) then some (decide (r16'.1 > 200))
 else some true)).bind fun b21' =>
 ((bif (b21' == false) then some (decide (wr .i64 (r15'.1 + r16'.1) < r3'.1))
 else some true)).bind fun b22' =>
 (bif b22' then some false
 else DL9_1 n n.1 (Int.tmod (wr .i64 sum1) 41) r3'.1 ((Int.tmod (wr .i64 sum1) 41) == 0) r2'.2.1 (r2'.2.1.length : Int) 0 r2'.2.1))))
theorem S9_D (n : Nat × Nat) (hn : n.2 = 1) : S9 n = D9 n := by
  funext m0 sum1 part2; refine (S9_eq n m0 sum1 part2).trans ?_
  unfold D9
  (try simp only [DL9_2_eq n hn, DL9_1_eq n hn, S17_D n hn, S18_D n hn, S20_D n hn, S22_D n hn, S24_D n hn, S43_D n hn, S45_D n hn, S48io0001110_D n hn]) <;> first | with_reducible rfl | rfl
end Go.Proofs.Ytjgmfdgpgdaclaa
set_option linter.unusedVariables false
set_option linter.unusedSimpArgs false
namespace Go.Proofs.Ytjgmfdgpgdaclaa
open Go.Vi
theorem same_loop (n : Nat × Nat) (a b : List Int) (hab : a.length = b.length) (hl : a.length ≤ 100) : ∀ (m i : Nat), i ≤ a.length → a.length - i < m → DL24_1 n m a b (i : Int) = some (decide (a.drop i = b.drop i))
  | 0, i, _, h => by omega
  | m + 1, i, hi, h => by
    rw [DL24_1_succ]
    unfold DF24_1
    by_cases hlt : i < a.length
    · rw [decide_eq_true (show (i : Int) < (a.length : Int) by omega), cond_true, idx_nat hlt, idx_nat (show i < b.length by omega), drop_cons hlt, drop_cons (show i < b.length by omega)]
      simp only [Option.bind_some]
      have ih := same_loop n a b hab hl m (i + 1) (by omega) (by omega)
      rw [show ((i + 1 : Nat) : Int) = wr .i64 ((i : Int) + 1) by rw [wr_ok (by omega) (by omega)]; omega] at ih
      by_cases e : a[i] = b[i]
      · rw [show (a[i] != b[i]) = false by simp [e], cond_false, ih]
        congr 1
        rw [e]
        by_cases e2 : a.drop (i + 1) = b.drop (i + 1)
        · rw [decide_eq_true e2, decide_eq_true (by rw [e2])]
        · rw [decide_eq_false e2, decide_eq_false (fun h => e2 (List.cons.inj h).2)]
      · rw [show (a[i] != b[i]) = true by simpa using e, cond_true]
        congr 1
        symm
        exact decide_eq_false fun h => e (List.cons.inj h).1
    · rw [decide_eq_false (show ¬ (i : Int) < (a.length : Int) by omega), cond_false, List.drop_of_length_le (by omega), List.drop_of_length_le (by omega)]
      simp
theorem same_eq {n : Nat × Nat} (hn : 1000 ≤ n.1) (a b : List Int) (hl : a.length ≤ 100) : D24 n a b = some (decide (a = b)) := by
  unfold D24
  by_cases h : a.length = b.length
  · rw [show ((a.length : Int) != (b.length : Int)) = false by simp [h], cond_false]
    have := same_loop n a b h hl n.1 0 (by omega) (by omega)
    simpa using this
  · rw [show ((a.length : Int) != (b.length : Int)) = true by simpa using (show ¬ (a.length : Int) = (b.length : Int) by omega), cond_true]
    congr 1
    symm
    exact decide_eq_false fun e => h (by rw [e])
theorem hN1 : 1000 ≤ N.1 := by decide
theorem hN2 : 2000 ≤ N.1 := by decide
end Go.Proofs.Ytjgmfdgpgdaclaa
set_option linter.unusedVariables false
set_option linter.unusedSimpArgs false
set_option maxRecDepth 100000
namespace Go.Proofs.Ytjgmfdgpgdaclaa
open Go.Vi
/-D 23 -/
end Go.Proofs.Ytjgmfdgpgdaclaa
/-
  Coins by numbers; few coins; the first best payment; purses.
-/
set_option linter.unusedVariables false
set_option linter.unusedSimpArgs false
namespace Go.Proofs.Ytjgmfdgpgdaclaa
open Go.Vi
theorem u8_rng {x : Int} (h : (Lit.int .u8 x).wf = true) : 0 ≤ x ∧ x ≤ 255 := by
  simpa [Lit.wf, IntKind.min, IntKind.max, IntKind.signed, IntKind.bits] using h
/-- Coins so far, none above a number. -/
structure Mv (most : Int) (cs : List Int) : Prop where
  pos : 0 < cs.length
  rng : ∀ c ∈ cs, 1 ≤ c ∧ c ≤ most
  inc : cs.Pairwise (· < ·)
  one : cs.headD 0 = 1
theorem Mv.vld {most : Int} {cs : List Int} (h : Mv most cs) (hl : cs.length ≤ 6) (hm : most ≤ 40) : Vld cs := ⟨h.pos, hl, fun c hc => by have := h.rng c hc; omega, h.inc, h.one⟩
theorem made_loop (n : Nat × Nat) (most : Int) (hm2 : 2 ≤ most) (hm : most ≤ 40) (v : List Int) (hv : ∀ x ∈ v, 0 ≤ x ∧ x ≤ 255) (hvl : v.length ≤ 5) : ∀ (m k : Nat) (out : List Int), k ≤ v.length → v.length - k < m → Mv most out → out.length + (v.length - k) ≤ 10 →
    ∃ cs : List Int, DL43_1 n m most v (v.length : Int) (k : Int) out = some cs ∧ Mv most cs ∧ cs.length ≤ out.length + (v.length - k)
  | 0, k, out, _, h, _, _ => by omega
  | m + 1, k, out, hk, h, ho, hol => by
    rw [DL43_1_succ]
    unfold DF43_1
    by_cases hlt : k < v.length
    · have hx := hv v[k] (List.getElem_mem _)
      have hp := ho.pos
      have hll : out.length - 1 < out.length := by omega
      have hlr := ho.rng out[out.length - 1] (List.getElem_mem _)
      rw [decide_eq_true (show (k : Int) < (v.length : Int) by omega), cond_true, idx_nat hlt]
      simp only [Option.bind_some]
      rw [show wr .i64 ((out.length : Int) - 1) = ((out.length - 1 : Nat) : Int) by rw [wr_ok (by omega) (by omega)]; omega, inB_nat hll, cond_true, idx_nat hll]
      simp only [Option.bind_some]
      rw [show ((2 : Nat) == 0) = false from rfl, cond_false, Int.tdiv_eq_ediv_of_nonneg (by omega), wr_ok (x := most / 2) (by omega) (by omega), show (most / 2 == 0) = false by simpa using (show most / 2 ≠ 0 by omega), cond_false]
      rw [wr_ok (x := v[k]) (by omega) (by omega), Int.tmod_eq_emod_of_nonneg hx.1]
      have e1 := Int.emod_nonneg v[k] (show most / 2 ≠ 0 by omega)
      have e2 := Int.emod_lt_of_pos v[k] (show 0 < most / 2 by omega)
      generalize v[k] % (most / 2) = y at *
      generalize hd : out[out.length - 1] = d at *
      rw [wr_ok (x := d + 1) (by omega) (by omega), wr_ok (x := d + 1 + y) (by omega) (by omega)]
      have ih := made_loop n most hm2 hm v hv hvl m (k + 1)
      rw [show ((k + 1 : Nat) : Int) = wr .i64 ((k : Int) + 1) by rw [wr_ok (by omega) (by omega)]; omega] at ih
      by_cases hle : d + 1 + y ≤ most
      · rw [decide_eq_true hle, cond_true, decide_eq_true (show out.length + [d + 1 + y].length ≤ lim by simp [lim]; omega), cond_true]
        simp only [DL43_2]
        have hmv : Mv most (out ++ [d + 1 + y]) := by
          refine ⟨by simp, fun c hc => ?_, ?_, ?_⟩
          · rcases List.mem_append.1 hc with hc | hc
            · exact ho.rng c hc
            · simp at hc; omega
          · rw [List.pairwise_append]
            refine ⟨ho.inc, by simp, fun a ha b hb => ?_⟩
            simp at hb
            obtain ⟨j, hj, rfl⟩ := List.getElem_of_mem ha
            by_cases e : j = out.length - 1
            · subst e; omega
            · have := List.pairwise_iff_getElem.1 ho.inc j (out.length - 1) hj hll (by omega)
              omega
          · have := ho.one
            cases out with
            | nil => simp at hp
            | cons a l => exact this
        obtain ⟨cs, a, b, c⟩ := ih (out ++ [d + 1 + y]) (by omega) (by omega) hmv (by simp; omega)
        exact ⟨cs, a, b, by simp at c; omega⟩
      · rw [decide_eq_false hle, cond_false]
        simp only [DL43_2]
        obtain ⟨cs, a, b, c⟩ := ih out (by omega) (by omega) ho (by omega)
        exact ⟨cs, a, b, by omega⟩
    · rw [decide_eq_false (show ¬ (k : Int) < (v.length : Int) by omega), cond_false]
      exact ⟨out, rfl, ho, by omega⟩
theorem made_eq {n : Nat × Nat} (hn : 1000 ≤ n.1) {m0 : Int × Int × Int × Int × Int × Int} (h : Wf (.pair (.int .u8) (.pair (.int .u8) (.pair (.int .u8) (.pair (.int .u8) (.pair (.int .u8) (.int .u8)))))) m0) {many most : Int} (hy1 : 1 ≤ many) (hy2 : many ≤ 6) (hm1 : 2 ≤ most) (hm2 : most ≤ 40) :
    ∃ cs : List Int, D43 n m0 many most = some cs ∧ Vld cs ∧ (cs.length : Int) ≤ many ∧ ∀ c ∈ cs, c ≤ most := by
  obtain ⟨a, b, c, d, e, f⟩ := m0
  have u8 : ∀ {x : Int}, Wf (.int .u8) x → 0 ≤ x ∧ x ≤ 255 := fun {x} hx => u8_rng hx
  obtain ⟨ha, hb, hc, hd, he, hf⟩ := h
  have ha := u8 ha
  have hb := u8 hb
  have hc := u8 hc
  have hd := u8 hd
  have he := u8 he
  have hf := u8 hf
  unfold D43
  rw [show (many == 0) = false by simpa using (show many ≠ 0 by omega), cond_false, wr_ok (x := a) (by omega) (by omega), Int.tmod_eq_emod_of_nonneg ha.1]
  have e1 := Int.emod_nonneg a (show many ≠ 0 by omega)
  have e2 := Int.emod_lt_of_pos a (show 0 < many by omega)
  generalize a % many = r at *
  obtain ⟨k, rfl⟩ := Int.eq_ofNat_of_zero_le e1
  rw [show bounds none (some (k : Int)) none 5 = true by simp [bounds]; omega, cond_true, Int.toNat_natCast]
  have hl : ([b, c, d, e, f].take k).length ≤ 5 := by simp; omega
  have hll : ([b, c, d, e, f].take k).length ≤ k := by simp; omega
  obtain ⟨cs, g1, g2, g3⟩ := made_loop n most hm1 hm2 ([b, c, d, e, f].take k) (fun x hx => by
    have := List.mem_of_mem_take hx
    simp only [List.mem_cons, List.not_mem_nil, or_false] at this
    simp only at hb hc hd he hf
    omega) hl n.1 0 [1] (by omega) (by omega) ⟨by simp, by simp; omega, by simp, rfl⟩ (by simp; omega)
  simp only [List.length_singleton] at g3
  exact ⟨cs, g1, g2.vld (by omega) hm2, by omega, fun c hc => (g2.rng c hc).2⟩
noncomputable def fewS (cs : List Int) (s : Int) : Int × Int := if smd cs s ≠ 0 then (0, smd cs s) else (opt cs s, 0)
theorem fewS_eq {n : Nat × Nat} (hn : 1000 ≤ n.1) (cs : List Int) (s : Int) : D18 n cs s = some (fewS cs s) := by
  unfold D18 fewS
  rw [smd_eq hn]
  simp only [Option.bind_some]
  by_cases h : smd cs s = 0
  · obtain ⟨hv, h0, h1⟩ := smd_zero h
    rw [show (smd cs s != 0) = false by simp [h], cond_false, if_neg (by simpa using h)]
    obtain ⟨s', rfl⟩ := Int.eq_ofNat_of_zero_le h0
    rw [few_eq hn hv s' (by omega)]
    simp only [Option.bind_some]
    have hsl : s' < (ftab cs s').length := by rw [ftab_length]; omega
    rw [inB_nat hsl, cond_true, idx_nat hsl, ftab_get]
    rfl
  · rw [show (smd cs s != 0) = true by simpa using h, cond_true, if_pos h]
noncomputable def grS (cs : List Int) (s : Int) : List Int × Int := if smd cs s ≠ 0 then ([], smd cs s) else ((gr cs s).1, 0)
theorem grS_eq {n : Nat × Nat} (hn : 1000 ≤ n.1) (cs : List Int) (s : Int) : D22 n cs s = some (grS cs s) := by
  unfold D22 grS
  rw [smd_eq hn]
  simp only [Option.bind_some]
  by_cases h : smd cs s = 0
  · obtain ⟨hv, h0, h1⟩ := smd_zero h
    rw [show (smd cs s != 0) = false by simp [h], cond_false, if_neg (by simpa using h), great_eq hv h0 (by omega)]
    rfl
  · rw [show (smd cs s != 0) = true by simpa using h, cond_true, if_pos h]
/-! ### Payments with so many coins -/
theorem PayU.snoc {d : Int} : ∀ {l : List Int} {s : Int} {p : List Int}, PayU (l ++ [d]) s p ↔ ∃ q n, p = q ++ [n] ∧ 0 ≤ n ∧ PayU l (s - n * d) q
  | [], s, p => by
    constructor
    · rintro ⟨n, p', rfl, h0, h1, rfl⟩
      exact ⟨[], n, rfl, h0, h1, rfl⟩
    · rintro ⟨q, n, rfl, h0, h1, rfl⟩
      exact ⟨n, [], rfl, h0, h1, rfl⟩
  | c :: l, s, p => by
    constructor
    · rintro ⟨n, p', rfl, h0, h1⟩
      obtain ⟨q, m, rfl, h2, h3⟩ := PayU.snoc.1 h1
      exact ⟨n :: q, m, rfl, h2, n, q, rfl, h0, by rwa [show s - m * d - n * c = s - n * c - m * d by omega]⟩
    · rintro ⟨q, m, rfl, h2, n, q', rfl, h0, h3⟩
      exact ⟨n, q' ++ [m], rfl, h0, PayU.snoc.2 ⟨q', m, rfl, h2, by rwa [show s - n * c - m * d = s - m * d - n * c by omega]⟩⟩
theorem tot_snoc (l : List Int) (n : Int) : tot (l ++ [n]) = tot l + n := by
  induction l with
  | nil => simp [tot]
  | cons a l ih => simp only [List.cons_append, tot]; omega
def Ex (l : List Int) (s m : Int) : Prop := ∃ p, PayU l s p ∧ tot p = m
theorem Ex.bd {l : List Int} (hp : ∀ c ∈ l, 1 ≤ c) {s m : Int} (h : Ex l s m) : 0 ≤ m ∧ m ≤ s := by
  obtain ⟨p, h1, h2⟩ := h
  have := PayU.sum hp h1
  omega
theorem Ex.snoc {l : List Int} {d s m : Int} : Ex (l ++ [d]) s m ↔ ∃ n, 0 ≤ n ∧ Ex l (s - n * d) (m - n) := by
  constructor
  · rintro ⟨p, h1, h2⟩
    obtain ⟨q, n, rfl, h3, h4⟩ := PayU.snoc.1 h1
    rw [tot_snoc] at h2
    exact ⟨n, h3, q, h4, by omega⟩
  · rintro ⟨n, h3, q, h4, h5⟩
    exact ⟨q ++ [n], PayU.snoc.2 ⟨q, n, rfl, h3, h4⟩, by rw [tot_snoc]; omega⟩
theorem Ex.cons {l : List Int} {d s m : Int} : Ex (d :: l) s m ↔ ∃ n, 0 ≤ n ∧ Ex l (s - n * d) (m - n) := by
  constructor
  · rintro ⟨p, ⟨n, q, rfl, h3, h4⟩, h2⟩
    simp only [tot] at h2
    exact ⟨n, h3, q, h4, by omega⟩
  · rintro ⟨n, h3, q, h4, h5⟩
    exact ⟨n :: q, ⟨n, q, rfl, h3, h4⟩, by simp only [tot]; omega⟩
open Classical in
theorem paid_loop (n : Nat × Nat) {l : List Int} {d : Int} (hp : ∀ c ∈ l, 1 ≤ c) (hd : 1 ≤ d) (hd2 : d ≤ 40) (hl : l.length ≤ 6) (SS : List Int → Int → Int → Option R60) (s m : Int) (hs : s ≤ 1000) (hs0 : -100000 ≤ s) (hm : m ≤ 1000) (hm0 : 0 ≤ m) (hSS : ∀ x y, -100000 ≤ x → x ≤ 1000 → 0 ≤ y → y ≤ 1000 → SS l x y = some (decide (Ex l x y))) :
    ∀ (f : Nat) (k : Nat), (k : Int) ≤ m + 1 → m + 1 - k < f → (∀ j : Int, 0 ≤ j → j < k → ¬ Ex l (s - j * d) (m - j)) → DL60_1 n SS f (l ++ [d]) s m (l.length : Int) (k : Int) = some (decide (Ex (l ++ [d]) s m))
  | 0, k, _, h, _ => by omega
  | f + 1, k, hk, h, hno => by
    rw [DL60_1_succ]
    unfold DF60_1
    have none_of : (∀ j : Int, 0 ≤ j → ¬ Ex l (s - j * d) (m - j)) → decide (Ex (l ++ [d]) s m) = false := fun hh => decide_eq_false fun e => by
      obtain ⟨j, h1, h2⟩ := Ex.snoc.1 e
      exact hh j h1 h2
    have hlt : l.length < (l ++ [d]).length := by simp
    have hg : (l ++ [d])[l.length] = d := by simp
    by_cases hkm : (k : Int) ≤ m
    · rw [decide_eq_true hkm, show (true == true) = true from rfl, cond_true, idx_nat hlt, hg]
      simp only [Option.bind_some]
      have hkd : (k : Int) * 1 ≤ (k : Int) * d := Int.mul_le_mul_of_nonneg_left hd (by omega)
      have hkd2 : (k : Int) * d ≤ 1000 * 40 := Int.mul_le_mul (by omega) hd2 (by omega) (by omega)
      rw [wr_ok (x := (k : Int) * d) (by omega) (by omega)]
      by_cases hks : (k : Int) * d ≤ s
      · rw [decide_eq_true hks, cond_true, show bounds none (some (l.length : Int)) none (l ++ [d]).length = true by simp [bounds]; omega, cond_true]
        rw [wr_ok (x := s - (k : Int) * d) (by omega) (by omega), wr_ok (x := m - (k : Int)) (by omega) (by omega), Int.toNat_natCast, List.take_left, hSS _ _ (by omega) (by omega) (by omega) (by omega)]
        simp only [Option.bind_some]
        by_cases he : Ex l (s - (k : Int) * d) (m - (k : Int))
        · rw [decide_eq_true he, cond_true]
          congr 1
          symm
          exact decide_eq_true (Ex.snoc.2 ⟨k, by omega, he⟩)
        · rw [decide_eq_false he, cond_false]
          have ih := paid_loop n hp hd hd2 hl SS s m hs hs0 hm hm0 hSS f (k + 1) (by omega) (by omega) (fun j h1 h2 => by
            by_cases e : j = k
            · subst e; exact he
            · exact hno j h1 (by omega))
          rw [show ((k + 1 : Nat) : Int) = wr .i64 ((k : Int) + 1) by rw [wr_ok (by omega) (by omega)]; omega] at ih
          exact ih
      · rw [decide_eq_false hks, cond_false]
        congr 1
        symm
        refine none_of fun j h1 h2 => ?_
        by_cases hj : j < k
        · exact hno j h1 hj h2
        · have := h2.bd hp
          have : (k : Int) * d ≤ j * d := Int.mul_le_mul_of_nonneg_right (by omega) (by omega)
          omega
    · rw [decide_eq_false hkm, show (false == true) = false from rfl, cond_false]
      simp only [Option.bind_some, cond_false]
      congr 1
      symm
      refine none_of fun j h1 h2 => ?_
      by_cases hj : j < k
      · exact hno j h1 hj h2
      · have := h2.bd hp
        omega
open Classical in
theorem paid_eq (n : Nat × Nat) (hn : 2000 ≤ n.1) : ∀ (D : Nat) {cs : List Int}, (∀ c ∈ cs, 1 ≤ c ∧ c ≤ 40) → cs.length < D → cs.length ≤ 6 → ∀ {s m : Int}, -100000 ≤ s → s ≤ 1000 → 0 ≤ m → m ≤ 1000 → DT60 n D cs s m = some (decide (Ex cs s m))
  | 0, cs, _, h, _, s, m, _, _, _, _ => by omega
  | D + 1, cs, hr, hD, h6, s, m, s0, s1, m0, m1 => by
    rw [DT60_succ]
    unfold DB60
    by_cases h0 : cs.length = 0
    · have : cs = [] := List.eq_nil_of_length_eq_zero h0
      subst this
      rw [show ((([] : List Int).length : Int) == 0) = true from rfl, cond_true]
      have he : Ex [] s m ↔ s = 0 ∧ m = 0 := by
        constructor
        · rintro ⟨p, ⟨h1, rfl⟩, h2⟩
          exact ⟨h1, h2.symm⟩
        · rintro ⟨h1, h2⟩
          exact ⟨[], ⟨h1, rfl⟩, h2.symm⟩
      by_cases hs : s = 0
      · by_cases hm : m = 0
        · rw [decide_eq_true (he.2 ⟨hs, hm⟩)]; simp [hs, hm]
        · rw [decide_eq_false (fun h => hm (he.1 h).2), show (m == 0) = false by simpa using hm, show (s == 0) = true by simpa using hs]; rfl
      · rw [decide_eq_false (fun h => hs (he.1 h).1), show (s == 0) = false by simpa using hs]; rfl
    · rw [show ((cs.length : Int) == 0) = false by simpa using h0, cond_false]
      obtain ⟨l, x, rfl⟩ : ∃ l x, cs = l ++ [x] := ⟨cs.dropLast, cs.getLast (by intro e; rw [e] at h0; simp at h0), (List.dropLast_concat_getLast _).symm⟩
      simp only [List.length_append, List.length_singleton] at hD h6
      have hx := hr x (by simp)
      have := paid_loop n (l := l) (d := x) (fun c hc => (hr c (by simp [hc])).1) hx.1 hx.2 (by omega) (DT60 n D) s m s1 s0 m1 m0 (fun y z y0 y1 z0 z1 => paid_eq n hn D (fun c hc => hr c (by simp [hc])) (by omega) (by omega) y0 y1 z0 z1) n.1 0 (by omega) (by omega) (fun j h1 h2 => by omega)
      rw [show wr .i64 (((l ++ [x]).length : Int) - 1) = (l.length : Int) by rw [wr_ok (by simp only [List.length_append, List.length_singleton]; omega) (by simp only [List.length_append, List.length_singleton]; omega)]; simp]
      exact this
/-- The first payment with so many coins. -/
def Lf (l : List Int) (s m : Int) (p : List Int) : Prop := PayU l s p ∧ tot p = m ∧ ∀ p', PayU l s p' → tot p' = m → Lx p p'
open Classical in
theorem first_in (n : Nat × Nat) (hn : 2000 ≤ n.1) {cs : List Int} (hv : Vld cs) (f1 : List Int → Int → Int → List Int → Int → Int → List Int → Option R20) (i : Nat) (hi : i < cs.length) (s m : Int) (hs0 : 0 ≤ s) (hs1 : s ≤ 200) (hm0 : 0 ≤ m) (hm1 : m ≤ 200) (he : Ex (cs.drop i) s m) (v25 : List Int) (v26 v27 : Int) (out : List Int) (hol : out.length ≤ 10) :
    ∀ (f k : Nat), (k : Int) ≤ m → m - k < f → (∀ j : Int, 0 ≤ j → j < k → ¬ Ex (cs.drop (i + 1)) (s - j * cs[i]) (m - j)) →
    ∃ k' : Int, 0 ≤ k' ∧ k' ≤ m ∧ Ex (cs.drop (i + 1)) (s - k' * cs[i]) (m - k') ∧ (∀ j : Int, 0 ≤ j → j < k' → ¬ Ex (cs.drop (i + 1)) (s - j * cs[i]) (m - j)) ∧
      DL20_2 n f1 f cs s m cs[i] (cs.drop (i + 1)) (k : Int) v25 v26 v27 out = f1 cs (s - k' * cs[i]) (m - k') v25 v26 (wr .i64 (v27 + 1)) (out ++ [k'])
  | 0, k, _, h, _ => by omega
  | f + 1, k, hk, h, hno => by
    have hl := hv.len
    rw [DL20_2_succ]
    unfold DF20_2
    have hc := hv.rng cs[i] (List.getElem_mem _)
    have hkd : (k : Int) * 1 ≤ (k : Int) * cs[i] := Int.mul_le_mul_of_nonneg_left hc.1 (by omega)
    have hkd2 : (k : Int) * cs[i] ≤ 200 * 40 := Int.mul_le_mul (by omega) hc.2 (by omega) (by omega)
    have hfin : (¬ ((k : Int) < m ∧ ¬ Ex (cs.drop (i + 1)) (s - (k : Int) * cs[i]) (m - (k : Int)))) → ∃ k' : Int, 0 ≤ k' ∧ k' ≤ m ∧ Ex (cs.drop (i + 1)) (s - k' * cs[i]) (m - k') ∧ (∀ j : Int, 0 ≤ j → j < k' → ¬ Ex (cs.drop (i + 1)) (s - j * cs[i]) (m - j)) ∧
        (bif decide (out.length + [(k : Int)].length ≤ lim) then f1 cs (wr .i64 (s - (wr .i64 ((k : Int) * cs[i])))) (wr .i64 (m - (k : Int))) v25 v26 (wr .i64 (v27 + 1)) (out ++ [(k : Int)]) else none) = f1 cs (s - k' * cs[i]) (m - k') v25 v26 (wr .i64 (v27 + 1)) (out ++ [k']) := fun hh => by
      have hex : Ex (cs.drop (i + 1)) (s - (k : Int) * cs[i]) (m - (k : Int)) := by
        rw [drop_cons hi] at he
        obtain ⟨j, j0, j1⟩ := Ex.cons.1 he
        have hb := j1.bd (fun c hc => (hv.rng c (List.mem_of_mem_drop hc)).1)
        by_cases h1 : (k : Int) < m
        · exact Classical.byContradiction fun h2 => hh ⟨h1, h2⟩
        · by_cases h3 : j < k
          · exact absurd j1 (hno j j0 h3)
          · have : j = k := by omega
            subst this
            exact j1
      refine ⟨k, by omega, hk, hex, hno, ?_⟩
      rw [decide_eq_true (by simp [lim]; omega), cond_true, wr_ok (x := (k : Int) * cs[i]) (by omega) (by omega), wr_ok (x := s - (k : Int) * cs[i]) (by omega) (by omega), wr_ok (x := m - (k : Int)) (by omega) (by omega)]
    by_cases hkm : (k : Int) < m
    · rw [decide_eq_true hkm, show (true == true) = true from rfl, cond_true]
      have hpd := paid_eq n hn n.1 (cs := cs.drop (i + 1)) (fun c hc => hv.rng c (List.mem_of_mem_drop hc)) (by simp; omega) (by simp; omega) (s := s - (k : Int) * cs[i]) (m := m - (k : Int)) (by omega) (by omega) (by omega) (by omega)
      have hpd2 : D60 n (cs.drop (i + 1)) (wr .i64 (s - (wr .i64 ((k : Int) * cs[i])))) (wr .i64 (m - (k : Int))) = some (decide (Ex (cs.drop (i + 1)) (s - (k : Int) * cs[i]) (m - (k : Int)))) := by
        rw [wr_ok (x := (k : Int) * cs[i]) (by omega) (by omega), wr_ok (x := s - (k : Int) * cs[i]) (by omega) (by omega), wr_ok (x := m - (k : Int)) (by omega) (by omega)]
        exact hpd
      rw [hpd2]
      simp only [Option.bind_some]
      by_cases hex : Ex (cs.drop (i + 1)) (s - (k : Int) * cs[i]) (m - (k : Int))
      · simp only [decide_eq_true hex, Bool.not_true, cond_false]
        exact hfin (fun h => h.2 hex)
      · simp only [decide_eq_false hex, Bool.not_false, cond_true]
        have ih := first_in n hn hv f1 i hi s m hs0 hs1 hm0 hm1 he v25 v26 v27 out hol f (k + 1) (by omega) (by omega) (fun j h1 h2 => by
          by_cases e : j = k
          · subst e; exact hex
          · exact hno j h1 (by omega))
        rw [show ((k + 1 : Nat) : Int) = wr .i64 ((k : Int) + 1) by rw [wr_ok (by omega) (by omega)]; omega] at ih
        exact ih
    · rw [decide_eq_false hkm, show (false == true) = false from rfl, cond_false]
      simp only [Option.bind_some, cond_false]
      exact hfin (fun h => hkm h.1)
theorem first_out (n : Nat × Nat) (hn : 2000 ≤ n.1) {cs : List Int} (hv : Vld cs) : ∀ (f i : Nat) (s m : Int) (out : List Int), i ≤ cs.length → cs.length - i < f → 0 ≤ s → s ≤ 200 → 0 ≤ m → m ≤ 200 → Ex (cs.drop i) s m → out.length = i →
    ∃ p, Lf (cs.drop i) s m p ∧ DL20_1 n f cs s m cs (cs.length : Int) (i : Int) out = some (out ++ p, 0)
  | 0, i, s, m, out, _, h, _, _, _, _, _, _ => by omega
  | f + 1, i, s, m, out, hi, h, s0, s1, m0, m1, he, hol => by
    have hl := hv.len
    rw [DL20_1_succ]
    unfold DF20_1
    by_cases hlt : i < cs.length
    · rw [decide_eq_true (show (i : Int) < (cs.length : Int) by omega), cond_true, idx_nat hlt]
      simp only [Option.bind_some]
      have hw : wr .i64 ((i : Int) + 1) = ((i + 1 : Nat) : Int) := by rw [wr_ok (by omega) (by omega)]; omega
      rw [hw, show bounds (some ((i + 1 : Nat) : Int)) none none cs.length = true by simp [bounds]; omega, cond_true, Int.toNat_natCast]
      obtain ⟨k, k0, k1, k2, k3, k4⟩ := first_in n hn hv (DL20_1 n f) i hlt s m s0 s1 m0 m1 he cs (cs.length : Int) (i : Int) out (by omega) n.1 0 (by omega) (by omega) (fun j h1 h2 => by omega)
      rw [show ((0 : Nat) : Int) = 0 from rfl] at k4
      have hb := k2.bd (fun c hc => (hv.rng c (List.mem_of_mem_drop hc)).1)
      have hc := hv.rng cs[i] (List.getElem_mem _)
      have hkc := Int.mul_nonneg k0 (show 0 ≤ cs[i] by omega)
      obtain ⟨p, p1, p2⟩ := first_out n hn hv f (i + 1) (s - k * cs[i]) (m - k) (out ++ [k]) (by omega) (by omega) (by omega) (by omega) (by omega) (by omega) k2 (by simp [hol])
      refine ⟨k :: p, ?_, ?_⟩
      · rw [drop_cons hlt]
        refine ⟨⟨k, p, rfl, k0, p1.1⟩, by have := p1.2.1; simp only [tot]; omega, ?_⟩
        rintro p' ⟨k', q, rfl, h1, h2⟩ h3
        simp only [tot] at h3
        by_cases e : k' < k
        · exact absurd ⟨q, h2, by omega⟩ (k3 k' h1 e)
        · by_cases e2 : k' = k
          · subst e2
            exact .inr ⟨rfl, p1.2.2 q h2 (by omega)⟩
          · exact .inl (by omega)
      · rw [k4, hw, p2]
        simp
    · obtain rfl : i = cs.length := by omega
      rw [decide_eq_false (show ¬ (cs.length : Int) < (cs.length : Int) by omega), cond_false]
      rw [List.drop_of_length_le (Nat.le_refl _)] at he ⊢
      obtain ⟨p, ⟨h1, rfl⟩, h2⟩ := he
      exact ⟨[], ⟨⟨h1, rfl⟩, h2, fun p' h3 _ => by rw [h3.2]; exact Lx.refl _⟩, by simp⟩
theorem first_eq {n : Nat × Nat} (hn : 2000 ≤ n.1) (cs : List Int) (s : Int) : (smd cs s ≠ 0 ∧ D20 n cs s = some ([], smd cs s)) ∨ (smd cs s = 0 ∧ ∃ p, D20 n cs s = some (p, 0) ∧ IsBst (PayU cs s) p) := by
  unfold D20
  rw [smd_eq (by omega)]
  simp only [Option.bind_some]
  by_cases h : smd cs s = 0
  · obtain ⟨hv, h0, h1⟩ := smd_zero h
    right
    refine ⟨h, ?_⟩
    rw [show (smd cs s != 0) = false by simp [h], cond_false]
    obtain ⟨s', rfl⟩ := Int.eq_ofNat_of_zero_le h0
    rw [few_eq (by omega) hv s' (by omega)]
    simp only [Option.bind_some]
    have hsl : s' < (ftab cs s').length := by rw [ftab_length]; omega
    rw [inB_nat hsl, cond_true, idx_nat hsl, ftab_get]
    simp only [Option.bind_some]
    have hl := hv.len
    have o1 := opt_nonneg hv.mnt h0
    have o2 := opt_self hv.mnt h0
    obtain ⟨p, p1, p2⟩ := first_out n hn hv n.1 0 s' (opt cs s') [] (by omega) (by omega) h0 h1 o1 (by omega) (opt_pay hv.mnt h0) rfl
    refine ⟨p, by simpa using p2, p1.1, fun p' h' => ?_⟩
    have h4 := opt_pay_le hv.mnt h'
    have h5 := p1.2.1
    by_cases e : tot p' = opt cs s'
    · exact .inr ⟨by omega, p1.2.2 p' h' e⟩
    · exact .inl (by omega)
  · left
    exact ⟨h, by rw [show (smd cs s != 0) = true by simpa using h, cond_true]⟩
end Go.Proofs.Ytjgmfdgpgdaclaa
set_option linter.unusedVariables false
set_option linter.unusedSimpArgs false
namespace Go.Proofs.Ytjgmfdgpgdaclaa
open Go.Vi
/-! ### One coin more -/
/-! ### How far -/
/-! ### Change -/
abbrev ShM : Sh := .pair (.int .u8) (.pair (.int .u8) (.pair (.int .u8) (.pair (.int .u8) (.pair (.int .u8) (.int .u8)))))
theorem tmod_u8 {x k : Int} (h : 0 ≤ x ∧ x ≤ 255) (hk : 0 < k) : Int.tmod (wr .i64 x) k = x % k ∧ 0 ≤ x % k ∧ x % k < k := by
  rw [wr_ok (by omega) (by omega), Int.tmod_eq_emod_of_nonneg h.1]
  exact ⟨rfl, Int.emod_nonneg x (by omega), Int.emod_lt_of_pos x hk⟩
/-! ### How far -/
/-- What a search over some payments makes of the fewest coins so far. -/
def Sr (A : List Int → Prop) (l : List Int) (n v0 : Int) (b0 : List Int) (v : Int) (b : List Int) : Prop :=
  (v = v0 ∧ b = b0 ∧ ∀ p, A p → v0 ≤ n + tot p) ∨ (v < v0 ∧ ∃ p, IsBst A p ∧ n + tot p = v ∧ b = l ++ p)
def Upto (r : List Int) (c left k : Int) (p : List Int) : Prop := ∃ j p', p = j :: p' ∧ 0 ≤ j ∧ j < k ∧ PayU r (left - j * c) p'
theorem Sr.step {r : List Int} {c left k n v0 v v2 : Int} {l b0 b b2 : List Int} (hk : 0 ≤ k) (h : Sr (Upto r c left k) l n v0 b0 v b) (h2 : Sr (PayU r (left - k * c)) (l ++ [k]) (n + k) v b v2 b2) : Sr (Upto r c left (k + 1)) l n v0 b0 v2 b2 := by
  have split : ∀ p, Upto r c left (k + 1) p → Upto r c left k p ∨ ∃ q, p = k :: q ∧ PayU r (left - k * c) q := by
    rintro p ⟨j, p', e, j0, j1, hp⟩
    by_cases c : j < k
    · exact .inl ⟨j, p', e, j0, c, hp⟩
    · rw [show j = k by omega] at e hp
      exact .inr ⟨p', e, hp⟩
  have up : ∀ p, Upto r c left k p → Upto r c left (k + 1) p := fun p ⟨j, p', e, j0, j1, hp⟩ => ⟨j, p', e, j0, by omega, hp⟩
  rcases h2 with ⟨e1, e2, h3⟩ | ⟨h3, q, hq, e1, e2⟩
  · subst e1 e2
    rcases h with ⟨e1, e2, h4⟩ | ⟨h4, p, hp, e1, e2⟩
    · subst e1 e2
      refine .inl ⟨rfl, rfl, fun p hp => ?_⟩
      rcases split p hp with hp | ⟨q, e, hq⟩
      · exact h4 p hp
      · have := h3 q hq
        subst e
        simp only [tot]
        omega
    · refine .inr ⟨h4, p, ⟨up p hp.1, fun p' hp' => ?_⟩, e1, e2⟩
      rcases split p' hp' with hp' | ⟨q, e, hq⟩
      · exact hp.2 p' hp'
      · have := h3 q hq
        subst e
        obtain ⟨j, p'', e, j0, j1, _⟩ := hp.1
        subst e
        simp only [tot, Lx] at *
        by_cases c : j + tot p'' < k + tot q
        · exact .inl c
        · exact .inr ⟨by omega, .inl j1⟩
  · have hv : v ≤ v0 := by
      rcases h with ⟨e, _, _⟩ | ⟨h4, _⟩ <;> omega
    refine .inr ⟨by omega, k :: q, ⟨⟨k, q, rfl, hk, by omega, hq.1⟩, fun p' hp' => ?_⟩, by simp only [tot]; omega, by rw [e2]; simp⟩
    rcases split p' hp' with hp' | ⟨q', e, hq'⟩
    · left
      simp only [tot]
      rcases h with ⟨e3, _, h4⟩ | ⟨_, p, hp, e3, _⟩
      · have := h4 p' hp'
        omega
      · rcases hp.2 p' hp' with h5 | ⟨h5, _⟩ <;> omega
    · subst e
      simp only [tot, Lx]
      rcases hq.2 q' hq' with h5 | ⟨h5, h6⟩
      · exact .inl (by omega)
      · exact .inr ⟨by omega, .inr ⟨trivial, h6⟩⟩
theorem put_loop (n : Nat × Nat) {cs pre r : List Int} {c : Int} (hcs : cs = pre ++ c :: r) (hp : ∀ x ∈ cs, 1 ≤ x ∧ x ≤ 40) (h6 : cs.length ≤ 6) {l : List Int} (hl : l.length = pre.length) {left m : Int} (hl0 : 0 ≤ left) (hl1 : left ≤ 40) (m0 : 0 ≤ m) (m1 : m ≤ 100 * l.length) (SS : List Int → Int → Int → List Int → Int → List Int → Option R48io0001110)
    (hS : ∀ (k v : Int) (b : List Int), 0 ≤ k → k ≤ 40 → k * c ≤ left → ∃ v2 b2, SS (l ++ [k]) (left - k * c) (m + k) cs v b = some ((), cs, v2, b2, ()) ∧ Sr (PayU r (left - k * c)) (l ++ [k]) (m + k) v b v2 b2) (v0 : Int) (b0 : List Int) :
    ∀ (f : Nat) (k : Int) (v : Int) (b : List Int), 0 ≤ k → k ≤ 41 → 41 - k < f → Sr (Upto r c left k) l m v0 b0 v b → ∃ v2 b2, DL48io0001110_1 n SS f l left m k cs v b = some ((), cs, v2, b2, ()) ∧ Sr (PayU (c :: r) left) l m v0 b0 v2 b2
  | 0, k, v, b, h0, h1, h, _ => by omega
  | f + 1, k, v, b, h0, h1, h, hs => by
    have hc := hp c (by rw [hcs]; simp)
    have hlen : l.length < cs.length := by rw [hcs, hl]; simp
    have hidx : idx cs (l.length : Int) = some c := by
      rw [idx_nat hlen]
      subst hcs
      simp [hl]
    have k0 : 0 ≤ k * c := Int.mul_nonneg h0 (by omega)
    have k1 : k * c ≤ 41 * c := Int.mul_le_mul_of_nonneg_right h1 (by omega)
    have k2 : k * 1 ≤ k * c := Int.mul_le_mul_of_nonneg_left hc.1 h0
    rw [DL48io0001110_1_succ]
    unfold DF48io0001110_1
    rw [hidx]
    simp only [Option.bind_some]
    rw [wr_ok (x := k * c) (by omega) (by omega)]
    by_cases hle : k * c ≤ left
    · obtain ⟨v2, b2, e, hs2⟩ := hS k v b h0 (by omega) hle
      rw [decide_eq_true hle, cond_true, beq_self_eq_true, show (true && bounds none (some (l.length : Int)) (some (l.length : Int)) l.length) = true by simp [bounds], cond_true, Int.toNat_natCast, List.take_length, decide_eq_true (show l.length + [k].length ≤ lim by simp [lim]; omega), show (true && (l.isEmpty || ![k].isEmpty)) = true by simp, cond_true, wr_ok (x := left - k * c) (by omega) (by omega), wr_ok (x := m + k) (by omega) (by omega), e, wr_ok (x := k + 1) (by omega) (by omega)]
      simp only [Option.bind_some]
      exact put_loop n hcs hp h6 hl hl0 hl1 m0 m1 SS hS v0 b0 f (k + 1) v2 b2 (by omega) (by omega) (by omega) (hs.step h0 hs2)
    · rw [decide_eq_false hle, cond_false]
      refine ⟨v, b, rfl, ?_⟩
      have hpos : ∀ x ∈ r, 1 ≤ x := fun x hx => (hp x (by rw [hcs]; simp [hx])).1
      have iff : ∀ p, Upto r c left k p ↔ PayU (c :: r) left p := by
        intro p
        constructor
        · rintro ⟨j, p', e, j0, _, hp⟩
          exact ⟨j, p', e, j0, hp⟩
        · rintro ⟨j, p', e, j0, hp⟩
          refine ⟨j, p', e, j0, ?_, hp⟩
          have := PayU.sum hpos hp
          refine Int.not_le.1 fun hkj => ?_
          have : k * c ≤ j * c := Int.mul_le_mul_of_nonneg_right hkj (by omega)
          omega
      rcases hs with ⟨e1, e2, h3⟩ | ⟨h3, p, hp, e1, e2⟩
      · exact .inl ⟨e1, e2, fun p hp => h3 p ((iff p).2 hp)⟩
      · exact .inr ⟨h3, p, hp.congr iff, e1, e2⟩
theorem put_rec (n : Nat × Nat) (hn : 1000 ≤ n.1) {cs : List Int} (hp : ∀ x ∈ cs, 1 ≤ x ∧ x ≤ 40) (h6 : cs.length ≤ 6) : ∀ (r pre l : List Int) (t : Nat) (left m v : Int) (b : List Int), cs = pre ++ r → l.length = pre.length → r.length < t → 0 ≤ left → left ≤ 40 → 0 ≤ m → m ≤ 100 * l.length →
    ∃ v2 b2, DT48io0001110 n t l left m cs v b = some ((), cs, v2, b2, ()) ∧ Sr (PayU r left) l m v b v2 b2
  | _, _, _, 0, _, _, _, _, _, _, h, _, _, _, _ => by omega
  | [], pre, l, t + 1, left, m, v, b, hcs, hl, h, l0, l1, m0, m1 => by
    rw [List.append_nil] at hcs
    rw [DT48io0001110_succ]
    unfold DB48io0001110
    rw [show ((l.length : Int) == (cs.length : Int)) = true by rw [hcs, hl]; simp, cond_true]
    by_cases e : left = 0
    · subst e
      rw [show ((0 : Int) == 0) = true from rfl]
      simp only [beq_self_eq_true, cond_true, Option.bind_some]
      by_cases c : m < v
      · rw [decide_eq_true c, cond_true]
        refine ⟨m, l, rfl, .inr ⟨c, [], ⟨⟨rfl, rfl⟩, fun p' hp' => ?_⟩, by simp [tot], by simp⟩⟩
        rw [hp'.2]
        exact .inr ⟨rfl, Lx.refl _⟩
      · rw [decide_eq_false c, cond_false]
        refine ⟨v, b, rfl, .inl ⟨rfl, rfl, fun p hp => ?_⟩⟩
        rw [hp.2]
        simp only [tot]
        omega
    · rw [show (left == 0) = false from beq_false_of_ne e]
      refine ⟨v, b, rfl, .inl ⟨rfl, rfl, fun p hp => absurd hp.1 e⟩⟩
  | c :: r, pre, l, t + 1, left, m, v, b, hcs, hl, h, l0, l1, m0, m1 => by
    rw [List.length_cons] at h
    rw [DT48io0001110_succ]
    unfold DB48io0001110
    rw [show ((l.length : Int) == (cs.length : Int)) = false from beq_false_of_ne (by rw [hcs, hl]; simp; omega), cond_false]
    have hc := hp c (by rw [hcs]; simp)
    refine put_loop n hcs hp h6 hl l0 l1 m0 m1 (DT48io0001110 n t) (fun k v b k0 k40 hk => ?_) v b n.1 0 v b (by omega) (by omega) (by omega) (.inl ⟨rfl, rfl, fun p ⟨j, _, _, j0, j1, _⟩ => by omega⟩)
    have : 0 ≤ k * c := Int.mul_nonneg k0 (by omega)
    exact put_rec n hn hp h6 r (pre ++ [c]) (l ++ [k]) t (left - k * c) (m + k) v b (by rw [hcs]; simp) (by simp [hl]) (by omega) (by omega) (by omega) (by omega) (by rw [List.length_append, List.length_singleton]; omega)
theorem less_loop {cs : List Int} (hv : Vld cs) {s : Int} (h0 : 0 ≤ s) (h1 : s ≤ 40) : ∀ (m k : Nat) (one : Bool), k ≤ cs.length → cs.length - k < m → (one = true ↔ s = 0 ∨ ∃ j, ∃ (h : j < cs.length), j < k ∧ cs[j] ≤ s ∧ opt cs (s - cs[j]) = opt cs s - 1) →
    DL9_1 N m s (opt cs s) one cs (cs.length : Int) (k : Int) cs = some true
  | 0, k, one, _, h, _ => by omega
  | m + 1, k, one, hk, h, ho => by
    have hl := hv.len
    have o1 := opt_self hv.mnt h0
    have o0 := opt_nonneg hv.mnt h0
    rw [DL9_1_succ]
    unfold DF9_1
    by_cases hlt : k < cs.length
    · have hj2 : ∀ one : Bool, DL9_2 N (DL9_1 N m) s (opt cs s) one cs (cs.length : Int) (k : Int) cs = DL9_1 N m s (opt cs s) one cs (cs.length : Int) (wr .i64 ((k : Int) + 1)) cs := fun one => rfl
      have ih := fun one => less_loop hv h0 h1 m (k + 1) one (by omega) (by omega)
      have hc := hv.rng _ (List.getElem_mem hlt)
      rw [decide_eq_true (show (k : Int) < (cs.length : Int) by omega), cond_true, idx_nat hlt, Option.bind_some]
      rw [show ((k + 1 : Nat) : Int) = wr .i64 ((k : Int) + 1) by rw [wr_ok (by omega) (by omega)]; omega] at ih
      by_cases c : cs[k] > s
      · rw [decide_eq_true c, cond_true, hj2]
        refine ih one ?_
        rw [ho]
        constructor
        · rintro (e | ⟨j, hj, hjk, h2⟩)
          · exact .inl e
          · exact .inr ⟨j, hj, by omega, h2⟩
        · rintro (e | ⟨j, hj, hjk, h2, h3⟩)
          · exact .inl e
          · by_cases e : j = k
            · subst e; omega
            · exact .inr ⟨j, hj, by omega, h2, h3⟩
      · have hf : fewS cs (s - cs[k]) = (opt cs (s - cs[k]), 0) := by
          unfold fewS
          rw [if_neg (by simpa using smd_ok hv (s := s - cs[k]) (by omega) (by omega))]
        have hle := opt_less hv.mnt (List.getElem_mem hlt) (show cs[k] ≤ s by omega)
        rw [decide_eq_false c, cond_false, wr_ok (x := s - cs[k]) (by omega) (by omega), fewS_eq hN1, hf, wr_ok (x := opt cs s - 1) (by omega) (by omega)]
        simp only [Option.bind_some, bne_self_eq_false, beq_self_eq_true, cond_true]
        rw [decide_eq_false (show ¬ opt cs (s - cs[k]) < opt cs s - 1 by omega), cond_false]
        cases one with
        | true =>
          simp only [show (true == false) = false from rfl, cond_false, Option.bind_some]
          rw [hj2]
          refine ih true ⟨fun _ => ?_, fun _ => rfl⟩
          rcases ho.1 rfl with e | ⟨j, hj, hjk, h2⟩
          · exact .inl e
          · exact .inr ⟨j, hj, by omega, h2⟩
        | false =>
          simp only [show (false == false) = true from rfl, cond_true, Option.bind_some]
          rw [hj2]
          refine ih _ ?_
          rw [beq_iff_eq]
          constructor
          · intro e
            exact .inr ⟨k, hlt, by omega, by omega, e⟩
          · rintro (e | ⟨j, hj, hjk, h2, h3⟩)
            · exact absurd (ho.2 (.inl e)) (by simp)
            · by_cases e : j = k
              · subst e; exact h3
              · exact absurd (ho.2 (.inr ⟨j, hj, by omega, h2, h3⟩)) (by simp)
    · have : one = true := by
        rw [ho]
        by_cases e : s = 0
        · exact .inl e
        · obtain ⟨c, hc, h2, h3⟩ := opt_step hv.mnt (show 0 < s by omega)
          obtain ⟨j, hj, e⟩ := List.getElem_of_mem hc
          subst e
          exact .inr ⟨j, hj, by omega, h2, by omega⟩
      rw [decide_eq_false (show ¬ (k : Int) < (cs.length : Int) by omega), cond_false, this, works_eq]
      rfl
theorem fewest_ok (xs : pksDen (pks [ShM, .int .u8, .int .u8])) (h : WfL [ShM, .int .u8, .int .u8] xs) : ∃ n, S9 n xs.1 xs.2.1 xs.2.2.1 = some true := by
  refine ⟨N, ?_⟩
  rw [S9_D N rfl]
  unfold D9
  obtain ⟨cs, g1, hv, g3, g4⟩ := made_eq hN1 (m0 := xs.1) h.1 (many := 4) (most := 12) (by omega) (by omega) (by omega) (by omega)
  obtain ⟨t1, t2, t3⟩ := tmod_u8 (u8_rng h.2.1) (show (0 : Int) < 41 by omega)
  have hl := hv.len
  have hp := hv.pos
  rw [g1]
  simp only [Option.bind_some]
  rw [show (41 == 0) = false from rfl, cond_false, t1]
  obtain ⟨s, hss⟩ : ∃ s : Int, s = xs.2.1 % 41 := ⟨_, rfl⟩
  rw [← hss] at t2 t3 ⊢
  obtain ⟨u1, u2, u3⟩ := tmod_u8 (u8_rng h.2.2.1) (show (0 : Int) < s + 1 by omega)
  unfold D48io0001110
  obtain ⟨v, b, e1, hs⟩ := put_rec N hN1 hv.rng hl cs [] [] N.1 s 0 1000 [] (by simp) rfl (by show cs.length < 10000; omega) t2 (by omega) (by omega) (by simp)
  have hsm := smd_ok hv (s := s) t2 (by omega)
  have o0 := opt_nonneg hv.mnt t2
  have o1 := opt_self hv.mnt t2
  obtain ⟨p, hb, e2, e3⟩ : ∃ p, IsBst (PayU cs s) p ∧ tot p = v ∧ b = p := by
    rcases hs with ⟨_, _, h3⟩ | ⟨_, p, hp, e2, e3⟩
    · obtain ⟨p, hp, ep⟩ := opt_pay hv.mnt t2
      have := h3 p hp
      omega
    · exact ⟨p, hp, by omega, by simpa using e3⟩
  subst e2 e3
  have hto := hb.opt hv.mnt t2
  obtain ⟨q, e4, hq⟩ : ∃ q, D20 N cs s = some (q, 0) ∧ IsBst (PayU cs s) q := by
    rcases first_eq hN2 cs s with ⟨h9, _⟩ | ⟨_, q, h9⟩
    · exact absurd hsm h9
    · exact ⟨q, h9⟩
  have e5 := IsBst.uniq (hq.1.length.trans hb.1.length.symm) hq hb
  subst e5
  have hF : ∀ x : Int, 0 ≤ x → x ≤ s → fewS cs x = (opt cs x, 0) := fun x x0 x1 => by
    unfold fewS
    rw [if_neg (by simpa using smd_ok hv (s := x) x0 (by omega))]
  have hG : grS cs s = ((gr cs s).1, 0) := by
    unfold grS
    rw [if_neg (by simpa using hsm)]
  have hgo : opt cs s ≤ (gr cs s).2.1 := by
    rw [← gr_tot]
    exact opt_pay_le hv.mnt (gr_payU hv t2)
  have hgl := gr_length cs s
  have hql := hq.1.length
  rw [e1]
  simp only [Option.bind_some]
  rw [wr_ok (x := s + 1) (by omega) (by omega), u1]
  obtain ⟨x, hxx⟩ : ∃ x : Int, x = xs.2.2.1 % (s + 1) := ⟨_, rfl⟩
  rw [← hxx] at u2 u3 ⊢
  rw [wr_ok (x := s - x) (by omega) (by omega), fewS_eq hN1, fewS_eq hN1, fewS_eq hN1, e4, grS_eq hN1, hG, hF s t2 (Int.le_refl _), hF x u2 (by omega), hF (s - x) (by omega) (by omega), ogreat_eq hN1 hv t2 (by show s < 10000; omega) (by omega)]
  have a0 := opt_nonneg hv.mnt u2
  have a1 := opt_self hv.mnt u2
  have b0 := opt_nonneg hv.mnt (show 0 ≤ s - x by omega)
  have b1 := opt_self hv.mnt (show 0 ≤ s - x by omega)
  have ab := opt_add hv.mnt u2 (show 0 ≤ s - x by omega)
  rw [show x + (s - x) = s by omega] at ab
  simp only [Option.bind_some, bne_self_eq_false, beq_self_eq_true, cond_true, same_eq hN1 q q (by omega), same_eq hN1 (gr cs s).1 (gr cs s).1 (by omega), hto, decide_true, Bool.not_true, decide_eq_false (show ¬ (gr cs s).2.1 < opt cs s by omega), cond_false]
  rw [show (s + 1 == 0) = false from beq_false_of_ne (by omega), cond_false, wr_ok (x := opt cs x + opt cs (s - x)) (by omega) (by omega)]
  simp only [Option.bind_some, bne_self_eq_false, beq_self_eq_true, cond_true, cond_false, decide_eq_false (show ¬ opt cs x < 0 by omega), decide_eq_false (show ¬ opt cs (s - x) < 0 by omega), decide_eq_false (show ¬ opt cs x > 200 by omega), decide_eq_false (show ¬ opt cs (s - x) > 200 by omega), decide_eq_false (show ¬ opt cs x + opt cs (s - x) < opt cs s by omega)]
  exact less_loop hv t2 (by omega) N.1 0 _ (by omega) (by show cs.length - 0 < 10000; omega) (by
    rw [beq_iff_eq]
    exact ⟨fun e => .inl e, fun h => h.elim id (fun ⟨j, _, hj, _⟩ => by omega)⟩)
end Go.Proofs.Ytjgmfdgpgdaclaa
