/- Texts of this claim, joined: G43 to Co13. -/
import Derived.KernelRfl
import Derived.Test.YtjgmfdgpgdaclaaProg
import Derived.WalkKit
import Derived.Test.YtjgmfdgpgdaclaaP7
set_option linter.unusedVariables false
set_option linter.unusedSimpArgs false
set_option maxRecDepth 100000
namespace Go.Proofs.Ytjgmfdgpgdaclaa
open Go.Vi
/- (headword/headwordlaw12.Mint).made -/
abbrev R43 := List Int
noncomputable def c43 : Code := bodyOf Try.f43
noncomputable def an43 : Ann := (.s .l (.s .l (.s (.s .l (.j [7] (.j [2, 7, 19, 20, 21] (.s .l (.s (.j [2, 7, 19, 20, 21] .l .l) (.j [] (.j [2, 7, 19, 20, 21] (.s .l (.s .l (.s .l (.j [2, 7, 19, 20, 21] .l .l)))) .l) .l))) .l) .l)) .l)))
def pk43 : List PK := [.c (.pair (.int .u8) (.pair (.int .u8) (.pair (.int .u8) (.pair (.int .u8) (.pair (.int .u8) (.int .u8)))))), .c (.int .i64), .c (.int .i64)]
def rk43 : List RK := [.sl (.int .i64) 6]
noncomputable def rt43 (st : St) : Option R43 := rtG rk43 st
noncomputable def E43 (n : Nat × Nat) : Env := { T := tab, phi := noPhi, eff := fun _ => false, fuel := n.1, hold := n.2 }
noncomputable def kq43_1 (n : Nat × Nat) : St → Option R43 := run (E43 n) (cB (cB (cB c43))) (Ann.snd (Ann.snd (Ann.snd an43))) rt43 (fun _ _ => none) rt43
noncomputable def xb43_3 (n : Nat × Nat) : Nat → St → Option R43 := fun j s => bif Nat.beq j 0 then normC [7] s (kq43_1 n) else (fun _ _ => none) j s
noncomputable def F43_4 (n : Nat × Nat) : (St → Option R43) → St → Option R43 := fun K s => run (E43 n) (cA (cA (cB (cA (cB (cB c43)))))) (Ann.fst (Ann.fst (Ann.snd (Ann.fst (Ann.snd (Ann.snd an43)))))) (fun s => normC [2, 7, 19, 20, 21] s K) (xb43_3 n) rt43 s
noncomputable def kq43_7 (n : Nat × Nat) (m1 : Nat) : St → Option R43 := run (E43 n) (cB (cB (cB (cA (cA (cB (cA (cB (cB c43))))))))) (Ann.snd (Ann.snd (Ann.snd (Ann.fst (Ann.fst (Ann.snd (Ann.fst (Ann.snd (Ann.snd an43))))))))) (fun s => normC [2, 7, 19, 20, 21] s (loopN (F43_4 n) m1)) (xb43_3 n) rt43
noncomputable def L43_1 (n : Nat × Nat) (m : Nat) (most2 : Int) (v19 : List Int) (v20 : Int) (v21 : Int) (out7 : List Int) : Option R43 := loopN (F43_4 n) m { tm := [uu, uu, .c (.int .i64 most2), uu, uu, uu, uu, .own 7 none false, uu, uu, uu, uu, uu, uu, uu, uu, uu, uu, uu, .c (.sl (.int .u8) v19 false), .c (.int .i64 v20), .c (.int .i64 v21), uu, uu, uu, uu, uu, uu, uu, uu, uu, uu, uu, uu, uu, uu, uu, uu, uu, uu, uu, uu, uu, uu, uu, uu, uu], hp := (upd emp 7 (.arr (.int .i64) out7 false)) }
noncomputable def L43_2 (n : Nat × Nat) (m1 : Nat) (most2 : Int) (v19 : List Int) (v20 : Int) (v21 : Int) (out7 : List Int) : Option R43 := loopN (fun _ => (kq43_7 n m1)) n.2 { tm := [uu, uu, .c (.int .i64 most2), uu, uu, uu, uu, .own 7 none false, uu, uu, uu, uu, uu, uu, uu, uu, uu, uu, uu, .c (.sl (.int .u8) v19 false), .c (.int .i64 v20), .c (.int .i64 v21), uu, uu, uu, uu, uu, uu, uu, uu, uu, uu, uu, uu, uu, uu, uu, uu, uu, uu, uu, uu, uu, uu, uu, uu, uu], hp := (upd emp 7 (.arr (.int .i64) out7 false)) }
theorem L43_1_eq (n : Nat × Nat) (m1 : Nat) (most2 : Int) (v19 : List Int) (v20 : Int) (v21 : Int) (out7 : List Int) : L43_1 n (m1 + 1) most2 v19 v20 v21 out7 =
 (bif decide (v21 < v20) then (idx v19 v21).bind fun x1' =>
 (bif inB (wr .i64 ((out7.length : Int) - 1)) out7.length then (idx out7 (wr .i64 ((out7.length : Int) - 1))).bind fun x2' =>
 (bif 2 == 0 then none
 else (bif (wr .i64 (Int.tdiv most2 2)) == 0 then none
 else (bif decide (wr .i64 ((wr .i64 (x2' + 1)) + (Int.tmod (wr .i64 x1') (wr .i64 (Int.tdiv most2 2)))) ≤ most2) then (bif decide (out7.length + [wr .i64 ((wr .i64 (x2' + 1)) + (Int.tmod (wr .i64 x1') (wr .i64 (Int.tdiv most2 2))))].length ≤ lim) then L43_2 n m1 most2 v19 v20 v21 (out7 ++ [wr .i64 ((wr .i64 (x2' + 1)) + (Int.tmod (wr .i64 x1') (wr .i64 (Int.tdiv most2 2))))])
 else none)
 else L43_2 n m1 most2 v19 v20 v21 out7)))
 else none)
 else some out7) := by kernel_rfl
theorem L43_2_raw (n : Nat × Nat) (m1 : Nat) (most2 : Int) (v19 : List Int) (v20 : Int) (v21 : Int) (out7 : List Int) : (kq43_7 n m1) { tm := [uu, uu, .c (.int .i64 most2), uu, uu, uu, uu, .own 7 none false, uu, uu, uu, uu, uu, uu, uu, uu, uu, uu, uu, .c (.sl (.int .u8) v19 false), .c (.int .i64 v20), .c (.int .i64 v21), uu, uu, uu, uu, uu, uu, uu, uu, uu, uu, uu, uu, uu, uu, uu, uu, uu, uu, uu, uu, uu, uu, uu, uu, uu], hp := (upd emp 7 (.arr (.int .i64) out7 false)) } =
    L43_1 n m1 most2 v19 v20 (wr .i64 (v21 + 1)) out7 := by kernel_rfl
noncomputable def S43 (n : Nat × Nat) (m0 : Int × Int × Int × Int × Int × Int) (many1 : Int) (most2 : Int) : Option R43 := run (E43 n) c43 an43 rt43 (fun _ _ => none) rt43 { tm := [.agg [.int .u8 m0.1, .int .u8 m0.2.1, .int .u8 m0.2.2.1, .int .u8 m0.2.2.2.1, .int .u8 m0.2.2.2.2.1, .int .u8 m0.2.2.2.2.2], .c (.int .i64 many1), .c (.int .i64 most2), uu, uu, uu, uu, uu, uu, uu, uu, uu, uu, uu, uu, uu, uu, uu, uu, uu, uu, uu, uu, uu, uu, uu, uu, uu, uu, uu, uu, uu, uu, uu, uu, uu, uu, uu, uu, uu, uu, uu, uu, uu, uu, uu, uu], hp := emp }
theorem S43_eq (n : Nat × Nat) (m0 : Int × Int × Int × Int × Int × Int) (many1 : Int) (most2 : Int) : S43 n m0 many1 most2 =
 (bif many1 == 0 then none
 else (bif bounds none (some (Int.tmod (wr .i64 m0.1) many1)) none 5 then L43_1 n n.1 most2 ([m0.2.1, m0.2.2.1, m0.2.2.2.1, m0.2.2.2.2.1, m0.2.2.2.2.2].take (Int.toNat (Int.tmod (wr .i64 m0.1) many1))) (([m0.2.1, m0.2.2.1, m0.2.2.2.1, m0.2.2.2.2.1, m0.2.2.2.2.2].take (Int.toNat (Int.tmod (wr .i64 m0.1) many1))).length : Int) 0 [1]
 else none)) := by kernel_rfl
theorem S43_run (n : Nat × Nat) (xs : pksDen pk43) : S43 n xs.1 xs.2.1 xs.2.2.1 = runG (E43 n) noScope c43 an43 (rtG rk43) (fun _ _ => none) (rtG rk43) (st0 pk43 xs Try.f43.ntmps) := by kernel_rfl
noncomputable def P43 (n : Nat × Nat) := phiOf pk43 rk43 (fun xs => S43 n xs.1 xs.2.1 xs.2.2.1)
theorem call43 : CallOK Try.prog 43 := callOK_of Try.func43 (by kernel_rfl) (by kernel_rfl)
theorem env43 (n : Nat × Nat) : EnvOK Try.prog (E43 n) := envOK0 noPhi_ok rfl rfl
theorem par43 (n : Nat × Nat) : EnvPar (E43 n) := envPar0 noPhi_par rfl
theorem FC43 (n : Nat × Nat) : FCs Try.prog 43 (P43 n) := phiOf_FCs fun xs r h vs hv => FC.of_runG tabOK eqsOK (env43 n) (par43 n) mixed (fun _ p _ => noScope_ok p.1 p.2) Try.func43 (c := c43) (an := an43) (pks := pk43) (rks := rk43) (by kernel_rfl) (by kernel_rfl) hv ((S43_run n xs).symm.trans h)
abbrev R50io00011110 := (Unit) × (List Int) × Int × (List Int) × (List Int) × Unit
noncomputable def c50io00011110 : Code := bodyOf Try.f50
noncomputable def an50io00011110 : Ann := (.s .l (.s (.s .l (.j [0, 1, 2, 3, 6, 7, 11, 35, 36, 37, 38, 39, 40, 41, 42, 1000000000000, 1000000000001, 1000000000002, 1000000000003] (.s (.s .l (.j [1000000000000, 1000000000001, 1000000000002, 1000000000003] .l .l)) .l) .l)) (.s .l (.j [1000000000000, 1000000000001, 1000000000002, 1000000000003] (.j [0, 1, 2, 3, 6, 7, 11, 12, 35, 36, 37, 38, 39, 40, 41, 42, 1000000000000, 1000000000001, 1000000000002, 1000000000003] (.s (.s .l (.j [0, 1, 2, 3, 6, 7, 11, 12, 35, 36, 37, 38, 39, 40, 41, 42, 1000000000000, 1000000000001, 1000000000002, 1000000000003] .l .l)) (.s (.j [0, 1, 2, 3, 6, 7, 11, 12, 35, 36, 37, 38, 39, 40, 41, 42, 1000000000000, 1000000000001, 1000000000002, 1000000000003] .l .l) .l)) .l) .l))))
def pk50io00011110 : List QK := [.pl (.c (.sl (.int .i64))), .pl (.c (.int .i64)), .pl (.c (.int .i64)), .ob (.sl (.int .i64)), .ob (.int .i64), .ob (.sl (.int .i64)), .ob (.sl (.int .i64)), .sf 50 [.b 1000000000000, .b 1000000000001, .b 1000000000002, .b 1000000000003, .s]]
def rk50io00011110 : List RK := []
noncomputable def rt50io00011110 (st : St) : Option R50io00011110 := rtIO rk50io00011110 (pk50io00011110.flatMap QK.ods) st
noncomputable def io50io00011110 (n : Nat × Nat) (SS : List Int → Int → Int → List Int → Int → List Int → List Int → Option R50io00011110) : List IoE := [⟨50, (fun _ => true), pk50io00011110.map QK.flag, (phioOf pk50io00011110 rk50io00011110 (pk50io00011110.flatMap QK.ods) (fun xs => SS xs.1 xs.2.1 xs.2.2.1 xs.2.2.2.1 xs.2.2.2.2.1 xs.2.2.2.2.2.1 xs.2.2.2.2.2.2.1))⟩]
noncomputable def E50io00011110 (n : Nat × Nat) (SS : List Int → Int → Int → List Int → Int → List Int → List Int → Option R50io00011110) : Env := { T := tab, phi := noPhi, eff := fun _ => false, fuel := n.1, hold := n.2, phio := phioL (io50io00011110 n SS), iop := iopL (io50io00011110 n SS) }
noncomputable def xb50io00011110_6 (n : Nat × Nat) (SS : List Int → Int → Int → List Int → Int → List Int → List Int → Option R50io00011110) : Nat → St → Option R50io00011110 := fun j s => bif Nat.beq j 0 then normC [1000000000000, 1000000000001, 1000000000002, 1000000000003] s rt50io00011110 else (fun _ _ => none) j s
noncomputable def F50io00011110_7 (n : Nat × Nat) (SS : List Int → Int → Int → List Int → Int → List Int → List Int → Option R50io00011110) : (St → Option R50io00011110) → St → Option R50io00011110 := fun K s => run (E50io00011110 n SS) (cA (cA (cB (cB (cB c50io00011110))))) (Ann.fst (Ann.fst (Ann.snd (Ann.snd (Ann.snd an50io00011110))))) (fun s => normC [0, 1, 2, 3, 6, 7, 11, 12, 35, 36, 37, 38, 39, 40, 41, 42, 1000000000000, 1000000000001, 1000000000002, 1000000000003] s K) (xb50io00011110_6 n SS) rt50io00011110 s
noncomputable def L50io00011110_1 (n : Nat × Nat) (SS : List Int → Int → Int → List Int → Int → List Int → List Int → Option R50io00011110) (m : Nat) (l0 : List Int) (left1 : Int) (v2 : Int) (i11 : Int) (k12 : Int) (v1000000000000 : List Int) (v1000000000003 : List Int) (v1000000000001 : Int) (v1000000000002 : List Int) : Option R50io00011110 := loopN (F50io00011110_7 n SS) m { tm := [.c (.sl (.int .i64) l0 false), .c (.int .i64 left1), .c (.int .i64 v2), .ptr 1000000000000 0, uu, uu, .ptr 1000000000003 0, .fptr 50 [.b 1000000000000, .b 1000000000001, .b 1000000000002, .b 1000000000003, .s], uu, uu, uu, .c (.int .i64 i11), .c (.int .i64 k12), uu, uu, uu, uu, uu, uu, uu, uu, uu, uu, uu, uu, uu, uu, uu, uu, uu, uu, uu, uu, uu, uu, uu, uu, uu, uu, uu, uu, uu, uu, uu, uu, uu, uu, uu, uu, uu, uu, uu, uu, uu, uu, uu, uu, uu, uu, uu, uu, uu, uu, uu, uu, uu], hp := (upd (upd (upd (upd emp 1000000000002 (.box [.sl (.int .i64) v1000000000002 false])) 1000000000001 (.box [.int .i64 v1000000000001])) 1000000000003 (.box [.sl (.int .i64) v1000000000003 false])) 1000000000000 (.box [.sl (.int .i64) v1000000000000 false])) }
theorem L50io00011110_1_eq (n : Nat × Nat) (SS : List Int → Int → Int → List Int → Int → List Int → List Int → Option R50io00011110) (m1 : Nat) (l0 : List Int) (left1 : Int) (v2 : Int) (i11 : Int) (k12 : Int) (v1000000000000 : List Int) (v1000000000003 : List Int) (v1000000000001 : Int) (v1000000000002 : List Int) : L50io00011110_1 n SS (m1 + 1) l0 left1 v2 i11 k12 v1000000000000 v1000000000003 v1000000000001 v1000000000002 =
 (idx v1000000000003 i11).bind fun x2' =>
 ((bif (decide (k12 ≤ x2') == true) then (idx v1000000000000 i11).bind fun x3' =>
 some (decide (wr .i64 (k12 * x3') ≤ left1))
 else some false)).bind fun b4' =>
 (bif b4' then (bif (i11 == i11) && bounds none (some i11) (some i11) l0.length then (bif decide ((l0.take (Int.toNat i11)).length + [k12].length ≤ lim) && ((l0.take (Int.toNat i11)).isEmpty || ![k12].isEmpty) then (idx v1000000000000 i11).bind fun x5' =>
 (SS ((l0.take (Int.toNat i11)) ++ [k12]) (wr .i64 (left1 - (wr .i64 (k12 * x5')))) (wr .i64 (v2 + k12)) v1000000000000 v1000000000001 v1000000000002 v1000000000003).bind fun r6' =>
          L50io00011110_1 n SS m1 l0 left1 v2 i11 (wr .i64 (k12 + 1)) r6'.2.1 r6'.2.2.2.2.1 r6'.2.2.1 r6'.2.2.2.1
 else none)
 else none)
 else some ((), v1000000000000, v1000000000001, v1000000000002, v1000000000003, ())) := by kernel_rfl
noncomputable def B50io00011110 (n : Nat × Nat) (SS : List Int → Int → Int → List Int → Int → List Int → List Int → Option R50io00011110) (l0 : List Int) (left1 : Int) (v2 : Int) (v3 : List Int) (v4 : Int) (v5 : List Int) (v6 : List Int) : Option R50io00011110 := run (E50io00011110 n SS) c50io00011110 an50io00011110 rt50io00011110 (fun _ _ => none) rt50io00011110 { tm := [.c (.sl (.int .i64) l0 false), .c (.int .i64 left1), .c (.int .i64 v2), .ptr 1000000000000 0, .ptr 1000000000001 0, .ptr 1000000000002 0, .ptr 1000000000003 0, .fptr 50 [.b 1000000000000, .b 1000000000001, .b 1000000000002, .b 1000000000003, .s], uu, uu, uu, uu, uu, uu, uu, uu, uu, uu, uu, uu, uu, uu, uu, uu, uu, uu, uu, uu, uu, uu, uu, uu, uu, uu, uu, uu, uu, uu, uu, uu, uu, uu, uu, uu, uu, uu, uu, uu, uu, uu, uu, uu, uu, uu, uu, uu, uu, uu, uu, uu, uu, uu, uu, uu, uu, uu], hp := (upd (upd (upd (upd emp 1000000000003 (.box [.sl (.int .i64) v6 false])) 1000000000002 (.box [.sl (.int .i64) v5 false])) 1000000000001 (.box [.int .i64 v4])) 1000000000000 (.box [.sl (.int .i64) v3 false])) }
theorem B50io00011110_eq (n : Nat × Nat) (SS : List Int → Int → Int → List Int → Int → List Int → List Int → Option R50io00011110) (l0 : List Int) (left1 : Int) (v2 : Int) (v3 : List Int) (v4 : Int) (v5 : List Int) (v6 : List Int) : B50io00011110 n SS l0 left1 v2 v3 v4 v5 v6 =
 (bif ((l0.length : Int) == (v3.length : Int)) then ((bif ((left1 == 0) == true) then some (decide (v2 < v4))
 else some false)).bind fun b1' =>
 (bif b1' then some ((), v3, v2, l0, v6, ())
 else some ((), v3, v4, v5, v6, ()))
 else L50io00011110_1 n SS n.1 l0 left1 v2 (l0.length : Int) 0 v3 v6 v4 v5) := by kernel_rfl
noncomputable def T50io00011110 (n : Nat × Nat) : Nat → List Int → Int → Int → List Int → Int → List Int → List Int → Option R50io00011110
  | 0 => fun _ _ _ _ _ _ _ => none
  | d + 1 => B50io00011110 n (T50io00011110 n d)
theorem T50io00011110_eq (n : Nat × Nat) (d : Nat) (l0 : List Int) (left1 : Int) (v2 : Int) (v3 : List Int) (v4 : Int) (v5 : List Int) (v6 : List Int) : T50io00011110 n (d + 1) l0 left1 v2 v3 v4 v5 v6 = B50io00011110 n (T50io00011110 n d) l0 left1 v2 v3 v4 v5 v6 := rfl
noncomputable def S50io00011110 (n : Nat × Nat) (l0 : List Int) (left1 : Int) (v2 : Int) (v3 : List Int) (v4 : Int) (v5 : List Int) (v6 : List Int) : Option R50io00011110 := T50io00011110 n n.1 l0 left1 v2 v3 v4 v5 v6
theorem B50io00011110_run (n : Nat × Nat) (SS : List Int → Int → Int → List Int → Int → List Int → List Int → Option R50io00011110) (xs : qksDen pk50io00011110) : B50io00011110 n SS xs.1 xs.2.1 xs.2.2.1 xs.2.2.2.1 xs.2.2.2.2.1 xs.2.2.2.2.2.1 xs.2.2.2.2.2.2.1 = runG (E50io00011110 n SS) noScope c50io00011110 an50io00011110 (rtIO rk50io00011110 (pk50io00011110.flatMap QK.ods)) (fun _ _ => none) (rtIO rk50io00011110 (pk50io00011110.flatMap QK.ods)) (st1 pk50io00011110 xs Try.f50.ntmps) := by kernel_rfl
noncomputable def P50io00011110 (n : Nat × Nat) := phioOf pk50io00011110 rk50io00011110 (pk50io00011110.flatMap QK.ods) (fun xs => S50io00011110 n xs.1 xs.2.1 xs.2.2.1 xs.2.2.2.1 xs.2.2.2.2.1 xs.2.2.2.2.2.1 xs.2.2.2.2.2.2.1)
theorem call50 : CallOK Try.prog 50 := callOK_of Try.func50 (by kernel_rfl) (by kernel_rfl)
theorem env50io00011110 (n : Nat × Nat) (SS : List Int → Int → Int → List Int → Int → List Int → List Int → Option R50io00011110) (hSS : FCios Try.prog 50 (pk50io00011110.map QK.flag) (phioOf pk50io00011110 rk50io00011110 (pk50io00011110.flatMap QK.ods) (fun xs => SS xs.1 xs.2.1 xs.2.2.1 xs.2.2.2.1 xs.2.2.2.2.1 xs.2.2.2.2.2.1 xs.2.2.2.2.2.2.1))) : EnvOK Try.prog (E50io00011110 n SS) := envOK (l := io50io00011110 n SS) noPhi_ok rfl rfl (by kernel_rfl) ⟨hSS, call50, trivial⟩
theorem par50io00011110 (n : Nat × Nat) (SS : List Int → Int → Int → List Int → Int → List Int → List Int → Option R50io00011110) : EnvPar (E50io00011110 n SS) := envPar (l := io50io00011110 n SS) noPhi_par rfl ⟨phioOf_Pario1, trivial⟩
theorem FCT50io00011110 (n : Nat × Nat) : ∀ d : Nat, FCios Try.prog 50 (pk50io00011110.map QK.flag) (phioOf pk50io00011110 rk50io00011110 (pk50io00011110.flatMap QK.ods) (fun xs => T50io00011110 n d xs.1 xs.2.1 xs.2.2.1 xs.2.2.2.1 xs.2.2.2.2.1 xs.2.2.2.2.2.1 xs.2.2.2.2.2.2.1))
  | 0 => phioOf_FCios fun xs r h => by cases h
  | d + 1 => phioOf_FCios fun xs r h vs hv => FCio.of_runG tabOK eqsOK (env50io00011110 n (T50io00011110 n d) (FCT50io00011110 n d)) (par50io00011110 n (T50io00011110 n d)) mixed (fun _ p _ => noScope_ok p.1 p.2) Try.func50 (c := c50io00011110) (an := an50io00011110) (qks := pk50io00011110) (rks := rk50io00011110) (by kernel_rfl) (by kernel_rfl) hv ((B50io00011110_run n (T50io00011110 n d) xs).symm.trans h)
theorem FC50io00011110 (n : Nat × Nat) : FCios Try.prog 50 (pk50io00011110.map QK.flag) (P50io00011110 n) := FCT50io00011110 n n.1
abbrev R13 := Bool
noncomputable def c13 : Code := bodyOf Try.f13
noncomputable def an13 : Ann := (.s .l (.s .l (.s .l (.s .l (.q [(9, 0, true)] (.s (.s .l (.j [7, 8, 9, 10, 51, 52, 53, 56, 61, 62, 63, 66, 500819999] (.j [4, 7, 8, 9, 10, 22, 23, 51, 52, 53, 56, 61, 62, 63, 66, 500819999] (.s .l (.s (.j [4, 7, 8, 9, 10, 22, 23, 51, 52, 53, 56, 61, 62, 63, 66, 500819999] .l .l) (.s (.j [4, 7, 8, 9, 10, 22, 23, 51, 52, 53, 56, 61, 62, 63, 66, 500819999] .l .l) .l))) .l) .l)) (.s .l (.q [(9, 0, false)] (.s .l (.s .l (.s .l (.s .l (.s (.s .l (.j [10, 14, 15, 61, 62, 63, 66] .l .l)) .l)))))))))))))
def pk13 : List PK := [.c (.pair (.int .u8) (.pair (.int .u8) (.pair (.int .u8) (.pair (.int .u8) (.pair (.int .u8) (.int .u8)))))), .c (.pair (.int .u8) (.pair (.int .u8) (.pair (.int .u8) (.pair (.int .u8) (.pair (.int .u8) (.int .u8)))))), .c (.int .u8)]
def rk13 : List RK := [.c .bool 6]
noncomputable def rt13 (st : St) : Option R13 := rtG rk13 st
noncomputable def io13 (n : Nat × Nat) : List IoE := [⟨50, (fun _ => true), pk50io00011110.map QK.flag, P50io00011110 n⟩]
noncomputable def E13 (n : Nat × Nat) : Env := { T := tab, phi := (consPhi 17 (fun _ => true) (P17 n) (consPhi 24 (fun _ => true) (P24 n) (consPhi 41 (fun _ => true) (P41 n) (consPhi 43 (fun _ => true) (P43 n) noPhi)))), eff := fun g => Nat.beq g 43, fuel := n.1, hold := n.2, phio := phioL (io13 n), iop := iopL (io13 n) }
noncomputable def kq13_1 (n : Nat × Nat) : St → Option R13 := run (E13 n) (cB (cB (cB (cB (cB c13))))) (Ann.snd (Ann.unq (Ann.snd (Ann.snd (Ann.snd (Ann.snd an13)))))) rt13 (fun _ _ => none) rt13
noncomputable def xb13_3 (n : Nat × Nat) : Nat → St → Option R13 := fun j s => bif Nat.beq j 0 then normC [7, 8, 9, 10, 51, 52, 53, 56, 61, 62, 63, 66, 500819999] s (kq13_1 n) else (fun _ _ => none) j s
noncomputable def F13_4 (n : Nat × Nat) : (St → Option R13) → St → Option R13 := fun K s => run (E13 n) (cA (cA (cB (cA (cB (cB (cB (cB c13)))))))) (Ann.fst (Ann.fst (Ann.snd (Ann.fst (Ann.unq (Ann.snd (Ann.snd (Ann.snd (Ann.snd an13))))))))) (fun s => normC [4, 7, 8, 9, 10, 22, 23, 51, 52, 53, 56, 61, 62, 63, 66, 500819999] s K) (xb13_3 n) rt13 s
noncomputable def L13_1 (n : Nat × Nat) (m : Nat) (s8 : Int) (v22 : Int) (v23 : Int) (purse4_0 : Int) (purse4_1 : Int) (purse4_2 : Int) (purse4_3 : Int) (purse4_4 : Int) (purse4_5 : Int) (coins7 : List Int) (best10 : List Int) (v500819999 : List Int) : Option R13 := loopN (F13_4 n) m { tm := [uu, uu, uu, uu, .ptr 4 0, uu, uu, .ptr 7 0, .c (.int .i64 s8), .ptr 9 0, .ptr 10 0, uu, uu, uu, uu, uu, uu, uu, uu, uu, uu, uu, .c (.int .i64 v22), .c (.int .i64 v23), uu, uu, uu, uu, uu, uu, uu, uu, uu, uu, uu, uu, uu, uu, uu, uu, uu, uu, uu, uu, uu, uu, uu, uu, uu, uu, uu, uu, uu, uu, uu, uu, uu, uu, uu, uu, uu, uu, uu, uu, uu, uu, uu, uu], hp := (upd (upd (upd (upd (upd emp 500819999 (.arr (.int .i64) v500819999 false)) 10 (.box [.sl (.int .i64) best10 false])) 9 (.box [.osl])) 7 (.box [.sl (.int .i64) coins7 false])) 4 (.box [.int .u8 purse4_0, .int .u8 purse4_1, .int .u8 purse4_2, .int .u8 purse4_3, .int .u8 purse4_4, .int .u8 purse4_5])) }
theorem L13_1_eq (n : Nat × Nat) (m1 : Nat) (s8 : Int) (v22 : Int) (v23 : Int) (purse4_0 : Int) (purse4_1 : Int) (purse4_2 : Int) (purse4_3 : Int) (purse4_4 : Int) (purse4_5 : Int) (coins7 : List Int) (best10 : List Int) (v500819999 : List Int) : L13_1 n (m1 + 1) s8 v22 v23 purse4_0 purse4_1 purse4_2 purse4_3 purse4_4 purse4_5 coins7 best10 v500819999 =
 (bif decide (v23 < v22) then (bif inB v23 6 then (idx [purse4_0, purse4_1, purse4_2, purse4_3, purse4_4, purse4_5] v23).bind fun x2' =>
 (bif 7 == 0 then none
 else (bif decide (v500819999.length + [Int.tmod (wr .i64 x2') 7].length ≤ lim) then L13_1 n m1 s8 v22 (wr .i64 (v23 + 1)) purse4_0 purse4_1 purse4_2 purse4_3 purse4_4 purse4_5 coins7 best10 (v500819999 ++ [Int.tmod (wr .i64 x2') 7])
 else none))
 else none)
 else (S50io00011110 n [] s8 0 coins7 1000 best10 v500819999).bind fun r3' =>
 (S41 n r3'.2.1 r3'.2.2.2.2.1 s8).bind fun r4' =>
 (bif (r3'.2.2.1 == 1000) then ((bif ((r4'.2 == 12) == true) then some ((r4'.1.length : Int) == 0)
 else some false)).bind fun b5' =>
 ((bif (b5' == true) then (S17 n).bind fun r6' =>
 some r6'
 else some false)).bind fun b7' =>
 some b7'
 else ((bif ((r4'.2 == 0) == true) then (S24 n r4'.1 r3'.2.2.2.1).bind fun r8' =>
 some r8'
 else some false)).bind fun b9' =>
 ((bif (b9' == true) then (S17 n).bind fun r10' =>
 some r10'
 else some false)).bind fun b11' =>
 some b11')) := by kernel_rfl
noncomputable def S13 (n : Nat × Nat) (m0 : Int × Int × Int × Int × Int × Int) (purse1 : Int × Int × Int × Int × Int × Int) (sum2 : Int) : Option R13 := run (E13 n) c13 an13 rt13 (fun _ _ => none) rt13 { tm := [.agg [.int .u8 m0.1, .int .u8 m0.2.1, .int .u8 m0.2.2.1, .int .u8 m0.2.2.2.1, .int .u8 m0.2.2.2.2.1, .int .u8 m0.2.2.2.2.2], .agg [.int .u8 purse1.1, .int .u8 purse1.2.1, .int .u8 purse1.2.2.1, .int .u8 purse1.2.2.2.1, .int .u8 purse1.2.2.2.2.1, .int .u8 purse1.2.2.2.2.2], .c (.int .u8 sum2), uu, uu, uu, uu, uu, uu, uu, uu, uu, uu, uu, uu, uu, uu, uu, uu, uu, uu, uu, uu, uu, uu, uu, uu, uu, uu, uu, uu, uu, uu, uu, uu, uu, uu, uu, uu, uu, uu, uu, uu, uu, uu, uu, uu, uu, uu, uu, uu, uu, uu, uu, uu, uu, uu, uu, uu, uu, uu, uu, uu, uu, uu, uu, uu, uu], hp := emp }
theorem S13_eq (n : Nat × Nat) (m0 : Int × Int × Int × Int × Int × Int) (purse1 : Int × Int × Int × Int × Int × Int) (sum2 : Int) : S13 n m0 purse1 sum2 =
 (S43 n m0 4 15).bind fun r1' =>
 (bif 90 == 0 then none
 else L13_1 n n.1 (Int.tmod (wr .i64 sum2) 90) (r1'.length : Int) 0 purse1.1 purse1.2.1 purse1.2.2.1 purse1.2.2.2.1 purse1.2.2.2.2.1 purse1.2.2.2.2.2 r1' [] []) := by kernel_rfl
theorem S13_run (n : Nat × Nat) (xs : pksDen pk13) : S13 n xs.1 xs.2.1 xs.2.2.1 = runG (E13 n) noScope c13 an13 (rtG rk13) (fun _ _ => none) (rtG rk13) (st0 pk13 xs Try.f13.ntmps) := by kernel_rfl
noncomputable def P13 (n : Nat × Nat) := phiOf pk13 rk13 (fun xs => S13 n xs.1 xs.2.1 xs.2.2.1)
theorem env13 (n : Nat × Nat) : EnvOK Try.prog (E13 n) := envOK (l := io13 n) (consPhi_ok (FC17 n) call17 (consPhi_ok (FC24 n) call24 (consPhi_ok (FC41 n) call41 (consPhi_ok (FC43 n) call43 noPhi_ok)))) rfl rfl (by kernel_rfl) ⟨FC50io00011110 n, call50, trivial⟩
theorem par13 (n : Nat × Nat) : EnvPar (E13 n) := envPar (l := io13 n) (consPhi_par phiOf_Par1 (consPhi_par phiOf_Par1 (consPhi_par phiOf_Par1 (consPhi_par phiOf_Par1 noPhi_par)))) rfl ⟨phioOf_Pario1, trivial⟩
theorem FC13 (n : Nat × Nat) : FCs Try.prog 13 (P13 n) := phiOf_FCs fun xs r h vs hv => FC.of_runG tabOK eqsOK (env13 n) (par13 n) mixed (fun _ p _ => noScope_ok p.1 p.2) Try.func13 (c := c13) (an := an13) (pks := pk13) (rks := rk13) (by kernel_rfl) (by kernel_rfl) hv ((S13_run n xs).symm.trans h)
/-D 43 -/
noncomputable def DL43_2 (n : Nat × Nat) (f1 : Int → List Int → Int → Int → List Int → Option R43) (most2 : Int) (v19 : List Int) (v20 : Int) (v21 : Int) (out7 : List Int) : Option R43 :=
    f1 most2 v19 v20 (wr .i64 (v21 + 1)) out7
theorem DL43_2_eq (n : Nat × Nat) (hn : n.2 = 1) (m1 : Nat) : L43_2 n m1 = DL43_2 n (L43_1 n m1) := by
  funext most2 v19 v20 v21 out7; refine ((held_eq hn _).trans (L43_2_raw n m1 most2 v19 v20 v21 out7)).trans ?_
  unfold DL43_2
  first | with_reducible rfl | rfl
noncomputable def DF43_1 (n : Nat × Nat) (f1 : Int → List Int → Int → Int → List Int → Option R43) (most2 : Int) (v19 : List Int) (v20 : Int) (v21 : Int) (out7 : List Int) : Option R43 :=
 (bif decide (v21 < v20) then (idx v19 v21).bind fun x1' =>
 (bif inB (wr .i64 ((out7.length : Int) - 1)) out7.length then (idx out7 (wr .i64 ((out7.length : Int) - 1))).bind fun x2' =>
 (bif 2 == 0 then none
 else (bif (wr .i64 (Int.tdiv most2 2)) == 0 then none
 else (bif decide (wr .i64 ((wr .i64 (x2' + 1)) + (Int.tmod (wr .i64 x1') (wr .i64 (Int.tdiv most2 2)))) ≤ most2) then (bif decide (out7.length + [wr .i64 ((wr .i64 (x2' + 1)) + (Int.tmod (wr .i64 x1') (wr .i64 (Int.tdiv most2 2))))].length ≤ lim) then DL43_2 n f1 most2 v19 v20 v21 (out7 ++ [wr .i64 ((wr .i64 (x2' + 1)) + (Int.tmod (wr .i64 x1') (wr .i64 (Int.tdiv most2 2))))])
 else none)
 else DL43_2 n f1 most2 v19 v20 v21 out7)))
 else none)
 else some out7)
noncomputable def DL43_1 (n : Nat × Nat) (m : Nat) : Int → List Int → Int → Int → List Int → Option R43 := Nat.rec (motive := fun _ => Int → List Int → Int → Int → List Int → Option R43) (fun _ _ _ _ _ => none) (fun _ ih => DF43_1 n ih) m
theorem DL43_1_succ (n : Nat × Nat) (m : Nat) : DL43_1 n (m + 1) = DF43_1 n (DL43_1 n m) := rfl
theorem DL43_1_eq (n : Nat × Nat) (hn : n.2 = 1) : ∀ m, L43_1 n m = DL43_1 n m
  | 0 => by funext most2 v19 v20 v21 out7; kernel_rfl
  | m + 1 => by
    have ih := DL43_1_eq n hn m
    funext most2 v19 v20 v21 out7; refine (L43_1_eq n m most2 v19 v20 v21 out7).trans ?_
    rw [DL43_1_succ]
    unfold DF43_1
    (try simp only [ih, DL43_2_eq n hn]) <;> first | with_reducible rfl | rfl
noncomputable def D43 (n : Nat × Nat) (m0 : Int × Int × Int × Int × Int × Int) (many1 : Int) (most2 : Int) : Option R43 :=
 (bif many1 == 0 then none
 else (bif bounds none (some (Int.tmod (wr .i64 m0.1) many1)) none 5 then DL43_1 n n.1 most2 ([m0.2.1, m0.2.2.1, m0.2.2.2.1, m0.2.2.2.2.1, m0.2.2.2.2.2].take (Int.toNat (Int.tmod (wr .i64 m0.1) many1))) (([m0.2.1, m0.2.2.1, m0.2.2.2.1, m0.2.2.2.2.1, m0.2.2.2.2.2].take (Int.toNat (Int.tmod (wr .i64 m0.1) many1))).length : Int) 0 [1]
 else none))
theorem S43_D (n : Nat × Nat) (hn : n.2 = 1) : S43 n = D43 n := by
  funext m0 many1 most2; refine (S43_eq n m0 many1 most2).trans ?_
  unfold D43
  (try simp only [DL43_2_eq n hn, DL43_1_eq n hn]) <;> first | with_reducible rfl | rfl
/-D 50io00011110 -/
noncomputable def DF50io00011110_1 (n : Nat × Nat) (SS : List Int → Int → Int → List Int → Int → List Int → List Int → Option R50io00011110) (f1 : List Int → Int → Int → Int → Int → List Int → List Int → Int → List Int → Option R50io00011110) (l0 : List Int) (left1 : Int) (v2 : Int) (i11 : Int) (k12 : Int) (v1000000000000 : List Int) (v1000000000003 : List Int) (v1000000000001 : Int) (v1000000000002 : List Int) : Option R50io00011110 :=
 (idx v1000000000003 i11).bind fun x2' =>
 ((bif (decide (k12 ≤ x2') == true) then (idx v1000000000000 i11).bind fun x3' =>
 some (decide (wr .i64 (k12 * x3') ≤ left1))
 else some false)).bind fun b4' =>
 (bif b4' then (bif (i11 == i11) && bounds none (some i11) (some i11) l0.length then (bif decide ((l0.take (Int.toNat i11)).length + [k12].length ≤ lim) && ((l0.take (Int.toNat i11)).isEmpty || ![k12].isEmpty) then (idx v1000000000000 i11).bind fun x5' =>
 (SS ((l0.take (Int.toNat i11)) ++ [k12]) (wr .i64 (left1 - (wr .i64 (k12 * x5')))) (wr .i64 (v2 + k12)) v1000000000000 v1000000000001 v1000000000002 v1000000000003).bind fun r6' =>
          f1 l0 left1 v2 i11 (wr .i64 (k12 + 1)) r6'.2.1 r6'.2.2.2.2.1 r6'.2.2.1 r6'.2.2.2.1
 else none)
 else none)
 else some ((), v1000000000000, v1000000000001, v1000000000002, v1000000000003, ()))
noncomputable def DL50io00011110_1 (n : Nat × Nat) (SS : List Int → Int → Int → List Int → Int → List Int → List Int → Option R50io00011110) (m : Nat) : List Int → Int → Int → Int → Int → List Int → List Int → Int → List Int → Option R50io00011110 := Nat.rec (motive := fun _ => List Int → Int → Int → Int → Int → List Int → List Int → Int → List Int → Option R50io00011110) (fun _ _ _ _ _ _ _ _ _ => none) (fun _ ih => DF50io00011110_1 n SS ih) m
theorem DL50io00011110_1_succ (n : Nat × Nat) (SS : List Int → Int → Int → List Int → Int → List Int → List Int → Option R50io00011110) (m : Nat) : DL50io00011110_1 n SS (m + 1) = DF50io00011110_1 n SS (DL50io00011110_1 n SS m) := rfl
theorem DL50io00011110_1_eq (n : Nat × Nat) (hn : n.2 = 1) (SS : List Int → Int → Int → List Int → Int → List Int → List Int → Option R50io00011110) : ∀ m, L50io00011110_1 n SS m = DL50io00011110_1 n SS m
  | 0 => by funext l0 left1 v2 i11 k12 v1000000000000 v1000000000003 v1000000000001 v1000000000002; kernel_rfl
  | m + 1 => by
    have ih := DL50io00011110_1_eq n hn SS m
    funext l0 left1 v2 i11 k12 v1000000000000 v1000000000003 v1000000000001 v1000000000002; refine (L50io00011110_1_eq n SS m l0 left1 v2 i11 k12 v1000000000000 v1000000000003 v1000000000001 v1000000000002).trans ?_
    rw [DL50io00011110_1_succ]
    unfold DF50io00011110_1
    (try simp only [ih]) <;> first | with_reducible rfl | rfl
noncomputable def DB50io00011110 (n : Nat × Nat) (SS : List Int → Int → Int → List Int → Int → List Int → List Int → Option R50io00011110) (l0 : List Int) (left1 : Int) (v2 : Int) (v3 : List Int) (v4 : Int) (v5 : List Int) (v6 : List Int) : Option R50io00011110 :=
 (bif ((l0.length : Int) == (v3.length : Int)) then ((bif ((left1 == 0) == true) then some (decide (v2 < v4))
 else some false)).bind fun b1' =>
 (bif b1' then some ((), v3, v2, l0, v6, ())
 else some ((), v3, v4, v5, v6, ()))
 else DL50io00011110_1 n SS n.1 l0 left1 v2 (l0.length : Int) 0 v3 v6 v4 v5)
theorem DB50io00011110_eq (n : Nat × Nat) (hn : n.2 = 1) (SS : List Int → Int → Int → List Int → Int → List Int → List Int → Option R50io00011110) : B50io00011110 n SS = DB50io00011110 n SS := by
  funext l0 left1 v2 v3 v4 v5 v6; refine (B50io00011110_eq n SS l0 left1 v2 v3 v4 v5 v6).trans ?_
  unfold DB50io00011110
  (try simp only [DL50io00011110_1_eq n hn SS]) <;> first | with_reducible rfl | rfl
noncomputable def DT50io00011110 (n : Nat × Nat) (d : Nat) : List Int → Int → Int → List Int → Int → List Int → List Int → Option R50io00011110 := Nat.rec (motive := fun _ => List Int → Int → Int → List Int → Int → List Int → List Int → Option R50io00011110) (fun _ _ _ _ _ _ _ => none) (fun _ ih => DB50io00011110 n ih) d
theorem DT50io00011110_succ (n : Nat × Nat) (d : Nat) : DT50io00011110 n (d + 1) = DB50io00011110 n (DT50io00011110 n d) := rfl
theorem DT50io00011110_eq (n : Nat × Nat) (hn : n.2 = 1) : ∀ d, T50io00011110 n d = DT50io00011110 n d
  | 0 => rfl
  | d + 1 => by
    funext l0 left1 v2 v3 v4 v5 v6
    rw [T50io00011110_eq, DT50io00011110_eq n hn d, DB50io00011110_eq n hn, DT50io00011110_succ]
noncomputable def D50io00011110 (n : Nat × Nat) (l0 : List Int) (left1 : Int) (v2 : Int) (v3 : List Int) (v4 : Int) (v5 : List Int) (v6 : List Int) : Option R50io00011110 := DT50io00011110 n n.1 l0 left1 v2 v3 v4 v5 v6
theorem S50io00011110_D (n : Nat × Nat) (hn : n.2 = 1) : S50io00011110 n = D50io00011110 n := by
  funext l0 left1 v2 v3 v4 v5 v6; unfold S50io00011110 D50io00011110; rw [DT50io00011110_eq n hn]
/-D 13 -/
noncomputable def DF13_1 (n : Nat × Nat) (f1 : Int → Int → Int → Int → Int → Int → Int → Int → Int → List Int → List Int → List Int → Option R13) (s8 : Int) (v22 : Int) (v23 : Int) (purse4_0 : Int) (purse4_1 : Int) (purse4_2 : Int) (purse4_3 : Int) (purse4_4 : Int) (purse4_5 : Int) (coins7 : List Int) (best10 : List Int) (v500819999 : List Int) : Option R13 :=
 (bif decide (v23 < v22) then (bif inB v23 6 then (idx [purse4_0, purse4_1, purse4_2, purse4_3, purse4_4, purse4_5] v23).bind fun x2' =>
 (bif 7 == 0 then none
 else (bif decide (v500819999.length + [Int.tmod (wr .i64 x2') 7].length ≤ lim) then f1 s8 v22 (wr .i64 (v23 + 1)) purse4_0 purse4_1 purse4_2 purse4_3 purse4_4 purse4_5 coins7 best10 (v500819999 ++ [Int.tmod (wr .i64 x2') 7])
 else none))
 else none)
 else (D50io00011110 n [] s8 0 coins7 1000 best10 v500819999).bind fun r3' =>
 (D41 n r3'.2.1 r3'.2.2.2.2.1 s8).bind fun r4' =>
 (bif (r3'.2.2.1 == 1000) then ((bif ((r4'.2 == 12) == true) then some ((r4'.1.length : Int) == 0)
 else some false)).bind fun b5' =>
 ((bif (b5' == true) then (D17 n).bind fun r6' =>
 some r6'
 else some false)).bind fun b7' =>
 some b7'
 else ((bif ((r4'.2 == 0) == true) then (D24 n r4'.1 r3'.2.2.2.1).bind fun r8' =>
 some r8'
 else some false)).bind fun b9' =>
 ((bif (b9' == true) then (D17 n).bind fun r10' =>
 some r10'
 else some false)).bind fun b11' =>
 some b11'))
noncomputable def DL13_1 (n : Nat × Nat) (m : Nat) : Int → Int → Int → Int → Int → Int → Int → Int → Int → List Int → List Int → List Int → Option R13 := Nat.rec (motive := fun _ => Int → Int → Int → Int → Int → Int → Int → Int → Int → List Int → List Int → List Int → Option R13) (fun _ _ _ _ _ _ _ _ _ _ _ _ => none) (fun _ ih => DF13_1 n ih) m
theorem DL13_1_succ (n : Nat × Nat) (m : Nat) : DL13_1 n (m + 1) = DF13_1 n (DL13_1 n m) := rfl
theorem DL13_1_eq (n : Nat × Nat) (hn : n.2 = 1) : ∀ m, L13_1 n m = DL13_1 n m
  | 0 => by funext s8 v22 v23 purse4_0 purse4_1 purse4_2 purse4_3 purse4_4 purse4_5 coins7 best10 v500819999; kernel_rfl
  | m + 1 => by
    have ih := DL13_1_eq n hn m
    funext s8 v22 v23 purse4_0 purse4_1 purse4_2 purse4_3 purse4_4 purse4_5 coins7 best10 v500819999; refine (L13_1_eq n m s8 v22 v23 purse4_0 purse4_1 purse4_2 purse4_3 purse4_4 purse4_5 coins7 best10 v500819999).trans ?_
    rw [DL13_1_succ]
    unfold DF13_1
    (try simp only [ih, S17_D n hn, S24_D n hn, S41_D n hn, S43_D n hn, S50io00011110_D n hn]) <;> first | with_reducible rfl | rfl
noncomputable def D13 (n : Nat × Nat) (m0 : Int × Int × Int × Int × Int × Int) (purse1 : Int × Int × Int × Int × Int × Int) (sum2 : Int) : Option R13 :=
 (D43 n m0 4 15).bind fun r1' =>
 (bif 90 == 0 then none
 else DL13_1 n n.1 (Int.tmod (wr .i64 sum2) 90) (r1'.length : Int) 0 purse1.1 purse1.2.1 purse1.2.2.1 purse1.2.2.2.1 purse1.2.2.2.2.1 purse1.2.2.2.2.2 r1' [] [])
theorem S13_D (n : Nat × Nat) (hn : n.2 = 1) : S13 n = D13 n := by
  funext m0 purse1 sum2; refine (S13_eq n m0 purse1 sum2).trans ?_
  unfold D13
  (try simp only [DL13_1_eq n hn, S17_D n hn, S24_D n hn, S41_D n hn, S43_D n hn, S50io00011110_D n hn]) <;> first | with_reducible rfl | rfl
end Go.Proofs.Ytjgmfdgpgdaclaa
set_option linter.unusedVariables false
set_option linter.unusedSimpArgs false
namespace Go.Proofs.Ytjgmfdgpgdaclaa
open Go.Vi
theorem same_loop (n : Nat × Nat) (a b : List Int) (hab : a.length = b.length) (hl : a.length ≤ 100) : ∀ (m i : Nat), i ≤ a.length → a.length - i < m → DL24_1 n m a b (i : Int) = some (decide (a.drop i = b.drop i))
  | 0, i, _, h => by omega
  | m + 1, i, hi, h => by
    rw [DL24_1_succ]
    unfold DF24_1
    by_cases hlt : i < a.length
    · rw [decide_eq_true (show (i : Int) < (a.length : Int) by omega), cond_true, idx_nat hlt, idx_nat (show i < b.length by omega), drop_cons hlt, drop_cons (show i < b.length by omega)]
      simp only [Option.bind_some]
      have ih := same_loop n a b hab hl m (i + 1) (by omega) (by omega)
      rw [show ((i + 1 : Nat) : Int) = wr .i64 ((i : Int) + 1) by rw [wr_ok (by omega) (by omega)]; omega] at ih
      by_cases e : a[i] = b[i]
      · rw [show (a[i] != b[i]) = false by simp [e], cond_false, ih]
        congr 1
        rw [e]
        by_cases e2 : a.drop (i + 1) = b.drop (i + 1)
        · rw [decide_eq_true e2, decide_eq_true (by rw [e2])]
        · rw [decide_eq_false e2, decide_eq_false (fun h => e2 (List.cons.inj h).2)]
      · rw [show (a[i] != b[i]) = true by simpa using e, cond_true]
        congr 1
        symm
        exact decide_eq_false fun h => e (List.cons.inj h).1
    · rw [decide_eq_false (show ¬ (i : Int) < (a.length : Int) by omega), cond_false, List.drop_of_length_le (by omega), List.drop_of_length_le (by omega)]
      simp
theorem same_eq {n : Nat × Nat} (hn : 1000 ≤ n.1) (a b : List Int) (hl : a.length ≤ 100) : D24 n a b = some (decide (a = b)) := by
  unfold D24
  by_cases h : a.length = b.length
  · rw [show ((a.length : Int) != (b.length : Int)) = false by simp [h], cond_false]
    have := same_loop n a b h hl n.1 0 (by omega) (by omega)
    simpa using this
  · rw [show ((a.length : Int) != (b.length : Int)) = true by simpa using (show ¬ (a.length : Int) = (b.length : Int) by omega), cond_true]
    congr 1
    symm
    exact decide_eq_false fun e => h (by rw [e])
theorem hN1 : 1000 ≤ N.1 := by decide
end Go.Proofs.Ytjgmfdgpgdaclaa
set_option linter.unusedVariables false
set_option linter.unusedSimpArgs false
set_option maxRecDepth 100000
namespace Go.Proofs.Ytjgmfdgpgdaclaa
open Go.Vi
/-D 23 -/
end Go.Proofs.Ytjgmfdgpgdaclaa
set_option linter.unusedVariables false
set_option linter.unusedSimpArgs false
namespace Go.Proofs.Ytjgmfdgpgdaclaa
open Go.Vi
theorem u8_rng {x : Int} (h : (Lit.int .u8 x).wf = true) : 0 ≤ x ∧ x ≤ 255 := by
  simpa [Lit.wf, IntKind.min, IntKind.max, IntKind.signed, IntKind.bits] using h
/-- Coins so far, none above a number. -/
structure Mv (most : Int) (cs : List Int) : Prop where
  pos : 0 < cs.length
  rng : ∀ c ∈ cs, 1 ≤ c ∧ c ≤ most
  inc : cs.Pairwise (· < ·)
  one : cs.headD 0 = 1
theorem Mv.vld {most : Int} {cs : List Int} (h : Mv most cs) (hl : cs.length ≤ 6) (hm : most ≤ 40) : Vld cs := ⟨h.pos, hl, fun c hc => by have := h.rng c hc; omega, h.inc, h.one⟩
theorem made_loop (n : Nat × Nat) (most : Int) (hm2 : 2 ≤ most) (hm : most ≤ 40) (v : List Int) (hv : ∀ x ∈ v, 0 ≤ x ∧ x ≤ 255) (hvl : v.length ≤ 5) : ∀ (m k : Nat) (out : List Int), k ≤ v.length → v.length - k < m → Mv most out → out.length + (v.length - k) ≤ 10 →
    ∃ cs : List Int, DL43_1 n m most v (v.length : Int) (k : Int) out = some cs ∧ Mv most cs ∧ cs.length ≤ out.length + (v.length - k)
  | 0, k, out, _, h, _, _ => by omega
  | m + 1, k, out, hk, h, ho, hol => by
    rw [DL43_1_succ]
    unfold DF43_1
    by_cases hlt : k < v.length
    · have hx := hv v[k] (List.getElem_mem _)
      have hp := ho.pos
      have hll : out.length - 1 < out.length := by omega
      have hlr := ho.rng out[out.length - 1] (List.getElem_mem _)
      rw [decide_eq_true (show (k : Int) < (v.length : Int) by omega), cond_true, idx_nat hlt]
      simp only [Option.bind_some]
      rw [show wr .i64 ((out.length : Int) - 1) = ((out.length - 1 : Nat) : Int) by rw [wr_ok (by omega) (by omega)]; omega, inB_nat hll, cond_true, idx_nat hll]
      simp only [Option.bind_some]
      rw [show ((2 : Nat) == 0) = false from rfl, cond_false, Int.tdiv_eq_ediv_of_nonneg (by omega), wr_ok (x := most / 2) (by omega) (by omega), show (most / 2 == 0) = false by simpa using (show most / 2 ≠ 0 by omega), cond_false]
      rw [wr_ok (x := v[k]) (by omega) (by omega), Int.tmod_eq_emod_of_nonneg hx.1]
      have e1 := Int.emod_nonneg v[k] (show most / 2 ≠ 0 by omega)
      have e2 := Int.emod_lt_of_pos v[k] (show 0 < most / 2 by omega)
      generalize v[k] % (most / 2) = y at *
      generalize hd : out[out.length - 1] = d at *
      rw [wr_ok (x := d + 1) (by omega) (by omega), wr_ok (x := d + 1 + y) (by omega) (by omega)]
      have ih := made_loop n most hm2 hm v hv hvl m (k + 1)
      rw [show ((k + 1 : Nat) : Int) = wr .i64 ((k : Int) + 1) by rw [wr_ok (by omega) (by omega)]; omega] at ih
      by_cases hle : d + 1 + y ≤ most
      · rw [decide_eq_true hle, cond_true, decide_eq_true (show out.length + [d + 1 + y].length ≤ lim by simp [lim]; omega), cond_true]
        simp only [DL43_2]
        have hmv : Mv most (out ++ [d + 1 + y]) := by
          refine ⟨by simp, fun c hc => ?_, ?_, ?_⟩
          · rcases List.mem_append.1 hc with hc | hc
            · exact ho.rng c hc
            · simp at hc; omega
          · rw [List.pairwise_append]
            refine ⟨ho.inc, by simp, fun a ha b hb => ?_⟩
            simp at hb
            obtain ⟨j, hj, rfl⟩ := List.getElem_of_mem ha
            by_cases e : j = out.length - 1
            · subst e; omega
            · have := List.pairwise_iff_getElem.1 ho.inc j (out.length - 1) hj hll (by omega)
              omega
          · have := ho.one
            cases out with
            | nil => simp at hp
            | cons a l => exact this
        obtain ⟨cs, a, b, c⟩ := ih (out ++ [d + 1 + y]) (by omega) (by omega) hmv (by simp; omega)
        exact ⟨cs, a, b, by simp at c; omega⟩
      · rw [decide_eq_false hle, cond_false]
        simp only [DL43_2]
        obtain ⟨cs, a, b, c⟩ := ih out (by omega) (by omega) ho (by omega)
        exact ⟨cs, a, b, by omega⟩
    · rw [decide_eq_false (show ¬ (k : Int) < (v.length : Int) by omega), cond_false]
      exact ⟨out, rfl, ho, by omega⟩
theorem made_eq {n : Nat × Nat} (hn : 1000 ≤ n.1) {m0 : Int × Int × Int × Int × Int × Int} (h : Wf (.pair (.int .u8) (.pair (.int .u8) (.pair (.int .u8) (.pair (.int .u8) (.pair (.int .u8) (.int .u8)))))) m0) {many most : Int} (hy1 : 1 ≤ many) (hy2 : many ≤ 6) (hm1 : 2 ≤ most) (hm2 : most ≤ 40) :
    ∃ cs : List Int, D43 n m0 many most = some cs ∧ Vld cs ∧ (cs.length : Int) ≤ many ∧ ∀ c ∈ cs, c ≤ most := by
  obtain ⟨a, b, c, d, e, f⟩ := m0
  have u8 : ∀ {x : Int}, Wf (.int .u8) x → 0 ≤ x ∧ x ≤ 255 := fun {x} hx => u8_rng hx
  obtain ⟨ha, hb, hc, hd, he, hf⟩ := h
  have ha := u8 ha
  have hb := u8 hb
  have hc := u8 hc
  have hd := u8 hd
  have he := u8 he
  have hf := u8 hf
  unfold D43
  rw [show (many == 0) = false by simpa using (show many ≠ 0 by omega), cond_false, wr_ok (x := a) (by omega) (by omega), Int.tmod_eq_emod_of_nonneg ha.1]
  have e1 := Int.emod_nonneg a (show many ≠ 0 by omega)
  have e2 := Int.emod_lt_of_pos a (show 0 < many by omega)
  generalize a % many = r at *
  obtain ⟨k, rfl⟩ := Int.eq_ofNat_of_zero_le e1
  rw [show bounds none (some (k : Int)) none 5 = true by simp [bounds]; omega, cond_true, Int.toNat_natCast]
  have hl : ([b, c, d, e, f].take k).length ≤ 5 := by simp; omega
  have hll : ([b, c, d, e, f].take k).length ≤ k := by simp; omega
  obtain ⟨cs, g1, g2, g3⟩ := made_loop n most hm1 hm2 ([b, c, d, e, f].take k) (fun x hx => by
    have := List.mem_of_mem_take hx
    simp only [List.mem_cons, List.not_mem_nil, or_false] at this
    simp only at hb hc hd he hf
    omega) hl n.1 0 [1] (by omega) (by omega) ⟨by simp, by simp; omega, by simp, rfl⟩ (by simp; omega)
  simp only [List.length_singleton] at g3
  exact ⟨cs, g1, g2.vld (by omega) hm2, by omega, fun c hc => (g2.rng c hc).2⟩
/-! ### Payments with so many coins -/
def Ex (l : List Int) (s m : Int) : Prop := ∃ p, PayU l s p ∧ tot p = m
theorem Ex.cons {l : List Int} {d s m : Int} : Ex (d :: l) s m ↔ ∃ n, 0 ≤ n ∧ Ex l (s - n * d) (m - n) := by
  constructor
  · rintro ⟨p, ⟨n, q, rfl, h3, h4⟩, h2⟩
    simp only [tot] at h2
    exact ⟨n, h3, q, h4, by omega⟩
  · rintro ⟨n, h3, q, h4, h5⟩
    exact ⟨n :: q, ⟨n, q, rfl, h3, h4⟩, by simp only [tot]; omega⟩
/-! ### One coin more -/
/-! ### How far -/
/-! ### Change -/
abbrev ShM : Sh := .pair (.int .u8) (.pair (.int .u8) (.pair (.int .u8) (.pair (.int .u8) (.pair (.int .u8) (.int .u8)))))
theorem tmod_u8 {x k : Int} (h : 0 ≤ x ∧ x ≤ 255) (hk : 0 < k) : Int.tmod (wr .i64 x) k = x % k ∧ 0 ≤ x % k ∧ x % k < k := by
  rw [wr_ok (by omega) (by omega), Int.tmod_eq_emod_of_nonneg h.1]
  exact ⟨rfl, Int.emod_nonneg x (by omega), Int.emod_lt_of_pos x hk⟩
/-! ### How far -/
theorem PayU.mem {cs : List Int} : ∀ (hp : ∀ c ∈ cs, 1 ≤ c) {s : Int} {p : List Int}, PayU cs s p → ∀ x ∈ p, 0 ≤ x ∧ x ≤ tot p := by
  induction cs with
  | nil => intro hp s p h x hx; rw [h.2] at hx; cases hx
  | cons c cs ih =>
    intro hp s p ⟨n, p', h1, h2, h4⟩ x hx
    have h5 := (PayU.sum (fun c h => hp c (by simp [h])) h4).1
    rw [h1] at hx ⊢
    simp only [tot]
    rcases List.mem_cons.1 hx with rfl | hx
    · omega
    · have := ih (fun c h => hp c (by simp [h])) h4 x hx
      omega
end Go.Proofs.Ytjgmfdgpgdaclaa
set_option linter.unusedVariables false
set_option linter.unusedSimpArgs false
namespace Go.Proofs.Ytjgmfdgpgdaclaa
theorem Pay.nn : ∀ {l ps : List Int} {x : Int} {p : List Int}, (∀ c ∈ l, 1 ≤ c) → Pay l ps x p → 0 ≤ x
  | [], _, x, p, _, h => by rw [h.1]; exact Int.le_refl 0
  | c :: l, ps, x, p, hp, ⟨n, p', h1, h2, h3, h4⟩ => by
    have := h4.nn (fun c h => hp c (by simp [h]))
    have := Int.mul_nonneg h2 (show 0 ≤ c by have := hp c (by simp); omega)
    omega
end Go.Proofs.Ytjgmfdgpgdaclaa
set_option linter.unusedVariables false
set_option linter.unusedSimpArgs false
namespace Go.Proofs.Ytjgmfdgpgdaclaa
open Go.Vi
theorem pcell_spec {f : Int → Int} {q c x : Int} (hc : 1 ≤ c) : ∀ (k : Nat) (n cur : Int), 0 ≤ n → x < n + k →
    (pcell f q c x k n cur = cur ∨ ∃ m, n ≤ m ∧ m ≤ q ∧ m * c ≤ x ∧ 0 ≤ f (x - m * c) ∧ pcell f q c x k n cur = f (x - m * c) + m) ∧ (0 ≤ cur → 0 ≤ pcell f q c x k n cur ∧ pcell f q c x k n cur ≤ cur) ∧
    (∀ m, n ≤ m → m ≤ q → m * c ≤ x → 0 ≤ f (x - m * c) → 0 ≤ pcell f q c x k n cur ∧ pcell f q c x k n cur ≤ f (x - m * c) + m)
  | 0, n, cur, hn, hx => by
    refine ⟨.inl rfl, fun h => ⟨h, Int.le_refl _⟩, fun m h1 h2 h3 h4 => ?_⟩
    have : m * 1 ≤ m * c := Int.mul_le_mul_of_nonneg_left hc (by omega)
    omega
  | k + 1, n, cur, hn, hx => by
    by_cases h : n ≤ q ∧ n * c ≤ x
    · rw [pcell_go h.1 h.2]
      obtain ⟨a, b, d⟩ := pcell_spec (f := f) (q := q) (x := x) hc k (n + 1) (upd1 cur (f (x - n * c)) n) (by omega) (by omega)
      have hu : upd1 cur (f (x - n * c)) n = cur ∨ (0 ≤ f (x - n * c) ∧ upd1 cur (f (x - n * c)) n = f (x - n * c) + n) := by
        unfold upd1
        cases hb : (decide (0 ≤ f (x - n * c)) && (decide (cur < 0) || decide (f (x - n * c) + n < cur))) with
        | true => simp only [Bool.and_eq_true, decide_eq_true_eq] at hb; exact .inr ⟨hb.1, rfl⟩
        | false => exact .inl rfl
      have hu2 : 0 ≤ cur → 0 ≤ upd1 cur (f (x - n * c)) n ∧ upd1 cur (f (x - n * c)) n ≤ cur := fun h0 => by
        unfold upd1
        cases hb : (decide (0 ≤ f (x - n * c)) && (decide (cur < 0) || decide (f (x - n * c) + n < cur))) with
        | true =>
          simp only [Bool.and_eq_true, Bool.or_eq_true, decide_eq_true_eq] at hb
          rw [cond_true]
          omega
        | false => rw [cond_false]; omega
      have hu3 : 0 ≤ f (x - n * c) → 0 ≤ upd1 cur (f (x - n * c)) n ∧ upd1 cur (f (x - n * c)) n ≤ f (x - n * c) + n := fun h0 => by
        unfold upd1
        cases hb : (decide (0 ≤ f (x - n * c)) && (decide (cur < 0) || decide (f (x - n * c) + n < cur))) with
        | true => rw [cond_true]; omega
        | false =>
          rw [cond_false]
          rw [decide_eq_true h0, Bool.true_and, Bool.or_eq_false_iff] at hb
          have h1 := of_decide_eq_false hb.1
          have h2 := of_decide_eq_false hb.2
          omega
      generalize upd1 cur (f (x - n * c)) n = u at *
      refine ⟨?_, fun h0 => ?_, fun m h1 h2 h3 h4 => ?_⟩
      · rcases a with a | ⟨m, m1, m2, m3, m4, m5⟩
        · rcases hu with hu | ⟨hu, hu'⟩
          · exact .inl (by omega)
          · exact .inr ⟨n, Int.le_refl n, h.1, h.2, hu, by omega⟩
        · exact .inr ⟨m, by omega, m2, m3, m4, m5⟩
      · have := hu2 h0
        have := b this.1
        omega
      · by_cases e : m = n
        · subst e
          have := hu3 h4
          have := b this.1
          omega
        · exact d m (by omega) h2 h3 h4
    · rw [pcell_stop (by omega)]
      refine ⟨.inl rfl, fun h => ⟨h, Int.le_refl _⟩, fun m h1 h2 h3 h4 => ?_⟩
      have : n * c ≤ m * c := Int.mul_le_mul_of_nonneg_right h1 (by omega)
      omega
theorem bc_pay : ∀ {l : List Int} (hp : ∀ c ∈ l, 1 ≤ c) {ps : List Int} {x : Int}, 0 ≤ x → 0 ≤ bc l ps x → ∃ p, Pay l ps x p ∧ tot p = bc l ps x
  | [], _, ps, x, h0, h => by
    unfold bc at h ⊢
    cases hx : x == 0 with
    | true => exact ⟨[], ⟨by simpa using hx, rfl⟩, rfl⟩
    | false => rw [hx] at h; simp at h
  | c :: l, hp, ps, x, h0, h => by
    unfold bc at h ⊢
    obtain ⟨a, _, _⟩ := pcell_spec (f := bc l ps.tail) (q := ps.headD 0) (x := x) (hp c (by simp)) (x.toNat + 1) 0 (-1) (Int.le_refl 0) (by omega)
    rcases a with a | ⟨m, m1, m2, m3, m4, m5⟩
    · omega
    · obtain ⟨p, h1, h2⟩ := bc_pay (fun c h => hp c (by simp [h])) (by omega) m4
      exact ⟨m :: p, ⟨m, p, rfl, m1, m2, h1⟩, by simp only [tot]; omega⟩
theorem bc_le : ∀ {l : List Int} (hp : ∀ c ∈ l, 1 ≤ c) {ps : List Int} {x : Int} {p : List Int}, Pay l ps x p → 0 ≤ bc l ps x ∧ bc l ps x ≤ tot p
  | [], _, ps, x, p, h => by
    rw [h.1, h.2]
    unfold bc
    simp [tot]
  | c :: l, hp, ps, x, p, h => by
    have hx := h.nn hp
    obtain ⟨n, p', rfl, h2, h3, h4⟩ := h
    obtain ⟨a, b⟩ := bc_le (fun c h => hp c (by simp [h])) h4
    have hx2 := h4.nn (fun c h => hp c (by simp [h]))
    obtain ⟨_, _, d⟩ := pcell_spec (f := bc l ps.tail) (q := ps.headD 0) (x := x) (hp c (by simp)) (x.toNat + 1) 0 (-1) (Int.le_refl 0) (by omega)
    have := d n h2 h3 (by omega) a
    unfold bc
    simp only [tot]
    omega
theorem pfind_spec {f : Int → Int} {c t s : Int} (hc : 1 ≤ c) : ∀ (k : Nat) (n : Int), 0 ≤ n → s < n + k → ∀ m, n ≤ m → m * c ≤ s → 0 ≤ f (s - m * c) → f (s - m * c) + m = t → ∃ m', pfind f c t s k n = some m' ∧ n ≤ m' ∧ m' ≤ m ∧ m' * c ≤ s ∧ 0 ≤ f (s - m' * c) ∧ f (s - m' * c) + m' = t ∧ ∀ j, n ≤ j → j < m' → j * c ≤ s → 0 ≤ f (s - j * c) → f (s - j * c) + j ≠ t
  | 0, n, hn, hs, m, h1, h2, h3, h4 => by
    have : m * 1 ≤ m * c := Int.mul_le_mul_of_nonneg_left hc (by omega)
    omega
  | k + 1, n, hn, hs, m, h1, h2, h3, h4 => by
    have hnc : n * c ≤ m * c := Int.mul_le_mul_of_nonneg_right h1 (by omega)
    by_cases h : 0 ≤ f (s - n * c) ∧ f (s - n * c) + n = t
    · exact ⟨n, pfind_hit (by omega) h.1 h.2 k, Int.le_refl n, h1, by omega, h.1, h.2, fun j h1 h2 => by omega⟩
    · rw [pfind_go (by omega) h]
      have hne : m ≠ n := fun e => h (e ▸ ⟨h3, h4⟩)
      obtain ⟨m', a, b, d, e, g, i, j⟩ := pfind_spec hc k (n + 1) (by omega) (by omega) m (by omega) h2 h3 h4
      refine ⟨m', a, by omega, d, e, g, i, fun y y1 y2 y3 y4 => ?_⟩
      by_cases hy : y = n
      · subst hy; exact fun e => h ⟨y4, e⟩
      · exact j y (by omega) y2 y3 y4
theorem pout_best : ∀ {l : List Int} (hp : ∀ c ∈ l, 1 ≤ c) {ps : List Int} {x : Int}, 0 ≤ x → 0 ≤ bc l ps x → IsBst (Pay l ps x) (pout l ps x) ∧ tot (pout l ps x) = bc l ps x
  | [], _, ps, x, h0, h => by
    have hx : x = 0 := by
      unfold bc at h
      cases hx : x == 0 with
      | true => simpa using hx
      | false => rw [hx] at h; simp at h
    subst hx
    exact ⟨⟨⟨rfl, rfl⟩, fun p' h' => .inr ⟨by rw [h'.2]; rfl, by rw [h'.2]; exact Lx.refl _⟩⟩, rfl⟩
  | c :: l, hp, ps, x, h0, h => by
    have hc := hp c (by simp)
    have hpl : ∀ c ∈ l, 1 ≤ c := fun c h => hp c (by simp [h])
    obtain ⟨p, h1, h2⟩ := bc_pay hp h0 h
    obtain ⟨n, p', rfl, n0, nq, h4⟩ := h1
    simp only [tot] at h2
    obtain ⟨a, b⟩ := bc_le hpl h4
    have hx2 := h4.nn hpl
    obtain ⟨_, _, d⟩ := pcell_spec (f := bc l ps.tail) (q := ps.headD 0) (x := x) hc (x.toNat + 1) 0 (-1) (Int.le_refl 0) (by omega)
    have hmin : bc (c :: l) ps x = pcell (bc l ps.tail) (ps.headD 0) c x (x.toNat + 1) 0 (-1) := rfl
    have hn := d n n0 nq (by omega) a
    rw [← hmin] at hn
    obtain ⟨m, e1, e2, e3, e4, e5, e6, e7⟩ := pfind_spec (f := bc l ps.tail) (t := bc (c :: l) ps x) hc (x.toNat + 1) 0 (Int.le_refl 0) (by omega) n n0 (by omega) a (by omega)
    obtain ⟨⟨i1, i2⟩, i3⟩ := pout_best hpl (ps := ps.tail) (x := x - m * c) (by omega) e5
    have hpo : pout (c :: l) ps x = m :: pout l ps.tail (x - m * c) := by
      rw [pout, e1]
    rw [hpo]
    refine ⟨⟨⟨m, _, rfl, e2, by omega, i1⟩, ?_⟩, by simp only [tot]; omega⟩
    rintro q ⟨j, q', rfl, j0, jq, j4⟩
    obtain ⟨k1, k2⟩ := bc_le hpl j4
    have hx3 := j4.nn hpl
    have hj := d j j0 jq (by omega) k1
    rw [← hmin] at hj
    simp only [tot]
    by_cases hlt : m + tot (pout l ps.tail (x - m * c)) < j + tot q'
    · exact .inl hlt
    · right
      refine ⟨by omega, ?_⟩
      by_cases hjm : j < m
      · exact absurd (by omega) (e7 j j0 hjm (by omega) k1)
      · by_cases e : m = j
        · subst e
          refine .inr ⟨rfl, ?_⟩
          rcases i2 q' j4 with h9 | ⟨_, h9⟩
          · omega
          · exact h9
        · exact .inl (by omega)
theorem clone_eq2 {n : Nat × Nat} {cs : List Int} (h : 0 < cs.length) (hl : cs.length ≤ 1000) : D46 n cs = some cs := by
  unfold D46
  cases cs with
  | nil => simp at h
  | cons a l =>
    rw [decide_eq_true (show ([] : List Int).length + (a :: l).length ≤ lim by simp [lim]; simp at hl; omega)]
    rfl
/-- What a purse pays. -/
theorem purse_eq {cs ps : List Int} {s : Int} (hv : Vld cs) (s0 : 0 ≤ s) (s1 : s ≤ 200) (hl : ps.length = cs.length) (hq : ∀ q ∈ ps, 0 ≤ q ∧ q ≤ 200) :
    (D41 N cs ps s = some ([], 12) ∧ ∀ p, ¬ Pay cs ps s p) ∨ ∃ p, D41 N cs ps s = some (p, 0) ∧ IsBst (Pay cs ps s) p := by
  unfold D41 HF41
  have hcl := hv.len
  have hcp := hv.pos
  have hc0 : cnt cs ps = 0 := by unfold cnt; rw [if_neg (by simpa using hl), if_pos hq]
  rw [smd_eq hN1, smd_ok hv s0 s1]
  simp only [Option.bind_some, show ((0 : Int) != 0) = false from rfl, cond_false]
  rw [cnt_eq hN1 cs ps hcp (by omega), hc0]
  simp only [Option.bind_some, show ((0 : Int) != 0) = false from rfl, cond_false]
  obtain ⟨s', rfl⟩ := Int.eq_ofNat_of_zero_le s0
  rw [show (s' : Int) + 1 = ((s' + 1 : Nat) : Int) by omega, rep_eq (by omega)]
  simp only [Option.bind_some]
  rw [clone_eq2 (by simp) (by simp; omega)]
  simp only [Option.bind_some]
  have hb : ((cs.all fun c => decide (1 ≤ c) && decide (c ≤ 40)) && (decide (0 < cs.length) && decide (cs.length ≤ 6)) && (decide (0 ≤ (s' : Int)) && decide ((s' : Int) ≤ 200)) && (decide (ps.length = cs.length) && ps.all fun q => decide (0 ≤ q) && decide (q ≤ 200)) &&
      (decide (List.replicate (s' + 1) (-1 : Int) = List.replicate ((s' : Int).toNat + 1) (-1)) && decide True)) = true := by
    simp only [Bool.and_eq_true, decide_eq_true_eq, List.all_eq_true, Int.toNat_natCast]
    exact ⟨⟨⟨⟨fun c hc => hv.rng c hc, hcp, hcl⟩, s0, s1⟩, hl, hq⟩, trivial, trivial⟩
  rw [hb, cond_true]
  by_cases hn : bc cs ps s' < 0
  · left
    rw [decide_eq_true hn, cond_true]
    refine ⟨rfl, fun p hp => ?_⟩
    have := bc_le hv.mnt.pos hp
    omega
  · right
    rw [decide_eq_false hn, cond_false]
    exact ⟨_, rfl, (pout_best hv.mnt.pos s0 (by omega)).1⟩
/-- A payment out of itself is the only one. -/
theorem Pay.self : ∀ {cs : List Int} (hp : ∀ c ∈ cs, 1 ≤ c) {f : List Int} {s s' : Int} {p : List Int}, Pay cs f s p → PayU cs s' f → s ≤ s' ∧ (s = s' → p = f)
  | [], _, f, s, s', p, h, k => by
    rw [h.1, k.1]
    exact ⟨Int.le_refl 0, fun _ => by rw [h.2, k.2]⟩
  | c :: l, hp, f, s, s', p, ⟨n, p', h1, h2, h3, h4⟩, ⟨m, f', k1, k2, k3⟩ => by
    subst h1
    subst k1
    have h3 : n ≤ m := h3
    obtain ⟨a, b⟩ := Pay.self (fun c h => hp c (by simp [h])) (f := f') h4 k3
    have hc := hp c (by simp)
    have hm : n * c ≤ m * c := Int.mul_le_mul_of_nonneg_right h3 (by omega)
    refine ⟨by omega, fun e => ?_⟩
    have hmn : m = n := by
      by_cases e2 : n < m
      · have : (n + 1) * c ≤ m * c := Int.mul_le_mul_of_nonneg_right (by omega) (by omega)
        rw [Int.add_mul] at this
        omega
      · omega
    subst hmn
    rw [b (by omega)]
theorem PayU.own : ∀ {cs : List Int} {s : Int} {f : List Int}, PayU cs s f → Pay cs f s f
  | [], s, f, h => h
  | c :: l, s, f, ⟨n, p', h1, h2, h3⟩ => by
    subst h1
    exact ⟨n, p', rfl, h2, Int.le_refl n, h3.own⟩
theorem Pay.more : ∀ {cs : List Int} {a b : List Int} {s : Int} {p : List Int}, (∀ i : Nat, a[i]?.getD 0 ≤ b[i]?.getD 0) → Pay cs a s p → Pay cs b s p
  | [], _, _, _, _, _, h => h
  | c :: l, a, b, s, p, hab, ⟨n, p', h1, h2, h3, h4⟩ => by
    have h0 := hab 0
    have ha : a.headD 0 = a[0]?.getD 0 := by cases a <;> rfl
    have hb : b.headD 0 = b[0]?.getD 0 := by cases b <;> rfl
    refine ⟨n, p', h1, h2, by omega, Pay.more (fun i => ?_) h4⟩
    have h5 := hab (i + 1)
    have ta : a.tail[i]? = a[i + 1]? := by cases a <;> simp
    have tb : b.tail[i]? = b[i + 1]? := by cases b <;> simp
    rw [ta, tb]
    exact h5
/-- What a search over some payments makes of the fewest coins so far. -/
def Sp (A : List Int → Prop) (l : List Int) (n v0 : Int) (b0 : List Int) (v : Int) (b : List Int) : Prop :=
  (v = v0 ∧ b = b0 ∧ ∀ p, A p → v0 ≤ n + tot p) ∨ (v < v0 ∧ ∃ p, IsBst A p ∧ n + tot p = v ∧ b = l ++ p)
def Upb (B : Int → List Int → Prop) (k : Int) (p : List Int) : Prop := ∃ j p', p = j :: p' ∧ 0 ≤ j ∧ j < k ∧ B j p'
theorem Sp.step {B : Int → List Int → Prop} {k n v0 v v2 : Int} {l b0 b b2 : List Int} (hk : 0 ≤ k) (h : Sp (Upb B k) l n v0 b0 v b) (h2 : Sp (B k) (l ++ [k]) (n + k) v b v2 b2) : Sp (Upb B (k + 1)) l n v0 b0 v2 b2 := by
  have split : ∀ p, Upb B (k + 1) p → Upb B k p ∨ ∃ q, p = k :: q ∧ B k q := by
    rintro p ⟨j, p', e, j0, j1, hp⟩
    by_cases c : j < k
    · exact .inl ⟨j, p', e, j0, c, hp⟩
    · rw [show j = k by omega] at e hp
      exact .inr ⟨p', e, hp⟩
  have up : ∀ p, Upb B k p → Upb B (k + 1) p := fun p ⟨j, p', e, j0, j1, hp⟩ => ⟨j, p', e, j0, by omega, hp⟩
  rcases h2 with ⟨e1, e2, h3⟩ | ⟨h3, q, hq, e1, e2⟩
  · subst e1 e2
    rcases h with ⟨e1, e2, h4⟩ | ⟨h4, p, hp, e1, e2⟩
    · subst e1 e2
      refine .inl ⟨rfl, rfl, fun p hp => ?_⟩
      rcases split p hp with hp | ⟨q, e, hq⟩
      · exact h4 p hp
      · have := h3 q hq
        subst e
        simp only [tot]
        omega
    · refine .inr ⟨h4, p, ⟨up p hp.1, fun p' hp' => ?_⟩, e1, e2⟩
      rcases split p' hp' with hp' | ⟨q, e, hq⟩
      · exact hp.2 p' hp'
      · have := h3 q hq
        subst e
        obtain ⟨j, p'', e, j0, j1, _⟩ := hp.1
        subst e
        simp only [tot, Lx] at *
        by_cases c : j + tot p'' < k + tot q
        · exact .inl c
        · exact .inr ⟨by omega, .inl j1⟩
  · have hv : v ≤ v0 := by
      rcases h with ⟨e, _, _⟩ | ⟨h4, _⟩ <;> omega
    refine .inr ⟨by omega, k :: q, ⟨⟨k, q, rfl, hk, by omega, hq.1⟩, fun p' hp' => ?_⟩, by simp only [tot]; omega, by rw [e2]; simp⟩
    rcases split p' hp' with hp' | ⟨q', e, hq'⟩
    · left
      simp only [tot]
      rcases h with ⟨e3, _, h4⟩ | ⟨_, p, hp, e3, _⟩
      · have := h4 p' hp'
        omega
      · rcases hp.2 p' hp' with h5 | ⟨h5, _⟩ <;> omega
    · subst e
      simp only [tot, Lx]
      rcases hq.2 q' hq' with h5 | ⟨h5, h6⟩
      · exact .inl (by omega)
      · exact .inr ⟨by omega, .inr ⟨trivial, h6⟩⟩
theorem pput_loop (n : Nat × Nat) {cs hs pre preq r qs : List Int} {c q : Int} (hcs : cs = pre ++ c :: r) (hhs : hs = preq ++ q :: qs) (hpq : preq.length = pre.length) (hp : ∀ x ∈ cs, 1 ≤ x ∧ x ≤ 40) (hq : ∀ x ∈ hs, 0 ≤ x ∧ x ≤ 6) (h6 : cs.length ≤ 6) {l : List Int} (hl : l.length = pre.length) {left m : Int} (hl0 : 0 ≤ left) (hl1 : left ≤ 100) (m0 : 0 ≤ m) (m1 : m ≤ 100 * l.length) (SS : List Int → Int → Int → List Int → Int → List Int → List Int → Option R50io00011110)
    (hS : ∀ (k v : Int) (b : List Int), 0 ≤ k → k ≤ 6 → k * c ≤ left → ∃ v2 b2, SS (l ++ [k]) (left - k * c) (m + k) cs v b hs = some ((), cs, v2, b2, hs, ()) ∧ Sp (Pay r qs (left - k * c)) (l ++ [k]) (m + k) v b v2 b2) (v0 : Int) (b0 : List Int) :
    ∀ (f : Nat) (k : Int) (v : Int) (b : List Int), 0 ≤ k → k ≤ 7 → 7 - k < f → Sp (Upb (fun j => Pay r qs (left - j * c)) k) l m v0 b0 v b → (∀ j, k ≤ j → 0 ≤ k) → k ≤ q + 1 → ∃ v2 b2, DL50io00011110_1 n SS f l left m (l.length : Int) k cs hs v b = some ((), cs, v2, b2, hs, ()) ∧ Sp (Pay (c :: r) (q :: qs) left) l m v0 b0 v2 b2
  | 0, k, v, b, h0, h1, h, _, _, _ => by omega
  | f + 1, k, v, b, h0, h1, h, hs', _, hkq => by
    have hc := hp c (by rw [hcs]; simp)
    have hqq := hq q (by rw [hhs]; simp)
    have hlen : l.length < cs.length := by rw [hcs, hl]; simp
    have hlen2 : l.length < hs.length := by rw [hhs, hl, ← hpq]; simp
    have hidx : idx cs (l.length : Int) = some c := by
      rw [idx_nat hlen]
      subst hcs
      simp [hl]
    have hidx2 : idx hs (l.length : Int) = some q := by
      rw [idx_nat hlen2]
      subst hhs
      simp [hl, ← hpq]
    have k0 : 0 ≤ k * c := Int.mul_nonneg h0 (by omega)
    have k1 : k * c ≤ 7 * c := Int.mul_le_mul_of_nonneg_right h1 (by omega)
    have k2 : k * 1 ≤ k * c := Int.mul_le_mul_of_nonneg_left hc.1 h0
    rw [DL50io00011110_1_succ]
    unfold DF50io00011110_1
    rw [hidx, hidx2]
    simp only [Option.bind_some]
    rw [wr_ok (x := k * c) (by omega) (by omega)]
    have done : (q < k ∨ left < k * c) → Sp (Pay (c :: r) (q :: qs) left) l m v0 b0 v b := by
      intro hstop
      have hpos : ∀ x ∈ r, 1 ≤ x := fun x hx => (hp x (by rw [hcs]; simp [hx])).1
      have iff : ∀ p, Upb (fun j => Pay r qs (left - j * c)) k p ↔ Pay (c :: r) (q :: qs) left p := by
        intro p
        constructor
        · rintro ⟨j, p', e, j0, j1, hp⟩
          exact ⟨j, p', e, j0, by show j ≤ q; omega, hp⟩
        · rintro ⟨j, p', e, j0, j1, hp⟩
          refine ⟨j, p', e, j0, ?_, hp⟩
          have j1 : j ≤ q := j1
          have := PayU.sum hpos hp.free
          rcases hstop with hs | hs
          · omega
          · refine Int.not_le.1 fun hkj => ?_
            have : k * c ≤ j * c := Int.mul_le_mul_of_nonneg_right hkj (by omega)
            omega
      rcases hs' with ⟨e1, e2, h3⟩ | ⟨h3, p, hp, e1, e2⟩
      · exact .inl ⟨e1, e2, fun p hp => h3 p ((iff p).2 hp)⟩
      · exact .inr ⟨h3, p, hp.congr iff, e1, e2⟩
    by_cases hkle : k ≤ q
    · rw [decide_eq_true hkle, beq_self_eq_true, cond_true]
      simp only [Option.bind_some]
      by_cases hle : k * c ≤ left
      · obtain ⟨v2, b2, e, hs2⟩ := hS k v b h0 (by omega) hle
        rw [decide_eq_true hle, cond_true, beq_self_eq_true, show (true && bounds none (some (l.length : Int)) (some (l.length : Int)) l.length) = true by simp [bounds], cond_true, Int.toNat_natCast, List.take_length, decide_eq_true (show l.length + [k].length ≤ lim by simp [lim]; omega), show (true && (l.isEmpty || ![k].isEmpty)) = true by simp, cond_true, wr_ok (x := left - k * c) (by omega) (by omega), wr_ok (x := m + k) (by omega) (by omega), e, wr_ok (x := k + 1) (by omega) (by omega)]
        simp only [Option.bind_some]
        exact pput_loop n hcs hhs hpq hp hq h6 hl hl0 hl1 m0 m1 SS hS v0 b0 f (k + 1) v2 b2 (by omega) (by omega) (by omega) (hs'.step h0 hs2) (fun _ _ => by omega) (by omega)
      · rw [decide_eq_false hle, cond_false]
        exact ⟨v, b, rfl, done (.inr (by omega))⟩
    · rw [decide_eq_false hkle, show (false == true) = false from rfl, cond_false]
      simp only [Option.bind_some, cond_false]
      exact ⟨v, b, rfl, done (.inl (by omega))⟩
theorem pput_rec (n : Nat × Nat) (hn : 1000 ≤ n.1) {cs hs : List Int} (hp : ∀ x ∈ cs, 1 ≤ x ∧ x ≤ 40) (hq : ∀ x ∈ hs, 0 ≤ x ∧ x ≤ 6) (h6 : cs.length ≤ 6) : ∀ (r qs pre preq l : List Int) (t : Nat) (left m v : Int) (b : List Int), cs = pre ++ r → hs = preq ++ qs → preq.length = pre.length → qs.length = r.length → l.length = pre.length → r.length < t → 0 ≤ left → left ≤ 100 → 0 ≤ m → m ≤ 100 * l.length →
    ∃ v2 b2, DT50io00011110 n t l left m cs v b hs = some ((), cs, v2, b2, hs, ()) ∧ Sp (Pay r qs left) l m v b v2 b2
  | _, _, _, _, _, 0, _, _, _, _, _, _, _, _, _, h, _, _, _, _ => by omega
  | [], [], pre, preq, l, t + 1, left, m, v, b, hcs, hhs, hpq, hql, hl, h, l0, l1, m0, m1 => by
    rw [List.append_nil] at hcs
    rw [DT50io00011110_succ]
    unfold DB50io00011110
    rw [show ((l.length : Int) == (cs.length : Int)) = true by rw [hcs, hl]; simp, cond_true]
    by_cases e : left = 0
    · subst e
      rw [show ((0 : Int) == 0) = true from rfl]
      simp only [beq_self_eq_true, cond_true, Option.bind_some]
      by_cases c : m < v
      · rw [decide_eq_true c, cond_true]
        refine ⟨m, l, rfl, .inr ⟨c, [], ⟨⟨rfl, rfl⟩, fun p' hp' => ?_⟩, by simp [tot], by simp⟩⟩
        rw [hp'.2]
        exact .inr ⟨rfl, Lx.refl _⟩
      · rw [decide_eq_false c, cond_false]
        refine ⟨v, b, rfl, .inl ⟨rfl, rfl, fun p hp => ?_⟩⟩
        rw [hp.2]
        simp only [tot]
        omega
    · rw [show (left == 0) = false from beq_false_of_ne e]
      refine ⟨v, b, rfl, .inl ⟨rfl, rfl, fun p hp => absurd hp.1 e⟩⟩
  | [], _ :: _, _, _, _, _ + 1, _, _, _, _, _, _, _, hql, _, _, _, _, _, _ => by simp at hql
  | _ :: _, [], _, _, _, _ + 1, _, _, _, _, _, _, _, hql, _, _, _, _, _, _ => by simp at hql
  | c :: r, q :: qs, pre, preq, l, t + 1, left, m, v, b, hcs, hhs, hpq, hql, hl, h, l0, l1, m0, m1 => by
    rw [List.length_cons] at h
    rw [DT50io00011110_succ]
    unfold DB50io00011110
    rw [show ((l.length : Int) == (cs.length : Int)) = false from beq_false_of_ne (by rw [hcs, hl]; simp; omega), cond_false]
    have hc := hp c (by rw [hcs]; simp)
    have hqq := hq q (by rw [hhs]; simp)
    refine pput_loop n hcs hhs hpq hp hq h6 hl l0 l1 m0 m1 (DT50io00011110 n t) (fun k v b k0 k40 hk => ?_) v b n.1 0 v b (by omega) (by omega) (by omega) (.inl ⟨rfl, rfl, fun p ⟨j, _, _, j0, j1, _⟩ => by omega⟩) (fun _ _ => by omega) (by omega)
    have : 0 ≤ k * c := Int.mul_nonneg k0 (by omega)
    exact pput_rec n hn hp hq h6 r qs (pre ++ [c]) (preq ++ [q]) (l ++ [k]) t (left - k * c) (m + k) v b (by rw [hcs]; simp) (by rw [hhs]; simp) (by simp [hpq]) (by simpa using hql) (by simp [hl]) (by omega) (by omega) (by omega) (by omega) (by rw [List.length_append, List.length_singleton]; omega)
/-- What the purse has. -/
def hsf (P : List Int) (k : Nat) : List Int := (P.take k).map fun x => x % 7
theorem hsf_succ {P : List Int} {k : Nat} (h : k < P.length) : hsf P (k + 1) = hsf P k ++ [P[k] % 7] := by
  unfold hsf
  rw [List.take_succ_eq_append_getElem h, List.map_append]
  rfl
theorem has_loop {cs : List Int} (h6 : cs.length ≤ 6) {a0 a1 a2 a3 a4 a5 : Int} (hP : ∀ x ∈ [a0, a1, a2, a3, a4, a5], 0 ≤ x ∧ x ≤ 255) (s : Int) (best : List Int) : ∀ (m k : Nat), k ≤ cs.length → cs.length - k ≤ m →
    ∃ m', m' + (cs.length - k) = m ∧ DL13_1 N m s (cs.length : Int) (k : Int) a0 a1 a2 a3 a4 a5 cs best (hsf [a0, a1, a2, a3, a4, a5] k) = DL13_1 N m' s (cs.length : Int) (cs.length : Int) a0 a1 a2 a3 a4 a5 cs best (hsf [a0, a1, a2, a3, a4, a5] cs.length)
  | 0, k, hk, hm => ⟨0, by omega, by rw [show k = cs.length by omega]⟩
  | m + 1, k, hk, hm => by
    by_cases hlt : k < cs.length
    · have hk6 : k < [a0, a1, a2, a3, a4, a5].length := by simp; omega
      have hx := hP _ (List.getElem_mem hk6)
      obtain ⟨m', e1, e2⟩ := has_loop h6 hP s best m (k + 1) (by omega) (by omega)
      refine ⟨m', by omega, ?_⟩
      rw [← e2, DL13_1_succ]
      unfold DF13_1
      rw [decide_eq_true (show (k : Int) < (cs.length : Int) by omega), cond_true, inB_nat (by omega), cond_true, idx_nat hk6]
      simp only [Option.bind_some]
      rw [show (7 == 0) = false from rfl, cond_false, (tmod_u8 hx (show (0 : Int) < 7 by omega)).1, decide_eq_true (show (hsf [a0, a1, a2, a3, a4, a5] k).length + [[a0, a1, a2, a3, a4, a5][k] % 7].length ≤ lim by simp [lim, hsf]; omega), cond_true, wr_ok (x := (k : Int) + 1) (by omega) (by omega), hsf_succ hk6]
      rfl
    · exact ⟨m + 1, by omega, by rw [show k = cs.length by omega]⟩
theorem purse_ok (xs : pksDen (pks [ShM, ShM, .int .u8])) (h : WfL [ShM, ShM, .int .u8] xs) : ∃ n, S13 n xs.1 xs.2.1 xs.2.2.1 = some true := by
  refine ⟨N, ?_⟩
  rw [S13_D N rfl]
  unfold D13
  obtain ⟨cs, g1, hv, g3, g4⟩ := made_eq hN1 (m0 := xs.1) h.1 (many := 4) (most := 15) (by omega) (by omega) (by omega) (by omega)
  obtain ⟨t1, t2, t3⟩ := tmod_u8 (u8_rng h.2.2.1) (show (0 : Int) < 90 by omega)
  have hl := hv.len
  have hp := hv.pos
  rw [g1]
  simp only [Option.bind_some]
  rw [show (90 == 0) = false from rfl, cond_false, t1]
  obtain ⟨s, hss⟩ : ∃ s : Int, s = xs.2.2.1 % 90 := ⟨_, rfl⟩
  rw [← hss] at t2 t3 ⊢
  obtain ⟨w0, w1, w2, w3, w4, w5⟩ := h.2.1
  have hP : ∀ x ∈ [xs.2.1.1, xs.2.1.2.1, xs.2.1.2.2.1, xs.2.1.2.2.2.1, xs.2.1.2.2.2.2.1, xs.2.1.2.2.2.2.2], 0 ≤ x ∧ x ≤ 255 := by
    intro x hx
    simp only [List.mem_cons, List.not_mem_nil, or_false] at hx
    rcases hx with rfl | rfl | rfl | rfl | rfl | rfl
    · exact u8_rng w0
    · exact u8_rng w1
    · exact u8_rng w2
    · exact u8_rng w3
    · exact u8_rng w4
    · exact u8_rng w5
  obtain ⟨m', e1, e2⟩ := has_loop hl hP s [] N.1 0 (by omega) (by show cs.length - 0 ≤ 10000; omega)
  refine Eq.trans e2 ?_
  clear e2
  obtain ⟨m'', rfl⟩ : ∃ m'', m' = m'' + 1 := ⟨m' - 1, by have : N.1 = 10000 := rfl; omega⟩
  rw [DL13_1_succ]
  unfold DF13_1
  rw [decide_eq_false (show ¬ (cs.length : Int) < (cs.length : Int) by omega), cond_false]
  generalize hh : hsf [xs.2.1.1, xs.2.1.2.1, xs.2.1.2.2.1, xs.2.1.2.2.2.1, xs.2.1.2.2.2.2.1, xs.2.1.2.2.2.2.2] cs.length = hs
  have hhl : hs.length = cs.length := by rw [← hh]; simp [hsf]; omega
  have hhr : ∀ x ∈ hs, 0 ≤ x ∧ x ≤ 6 := by
    intro x hx
    rw [← hh] at hx
    simp only [hsf, List.mem_map] at hx
    obtain ⟨y, _, rfl⟩ := hx
    omega
  unfold D50io00011110
  obtain ⟨v, b, e3, hs3⟩ := pput_rec N hN1 hv.rng hhr hl cs hs [] [] [] N.1 s 0 1000 [] (by simp) (by simp) rfl hhl rfl (by show cs.length < 10000; omega) t2 (by omega) (by omega) (by simp)
  rw [e3]
  simp only [Option.bind_some]
  rcases purse_eq hv t2 (by omega) hhl (fun q hq => ⟨(hhr q hq).1, by have := (hhr q hq).2; omega⟩) with ⟨e4, hno⟩ | ⟨p, e4, hb⟩
  · rw [e4]
    rcases hs3 with ⟨e5, _, _⟩ | ⟨_, p, hb, _⟩
    · rw [e5]
      simp only [Option.bind_some, beq_self_eq_true, cond_true, List.length_nil, works_eq]
      rfl
    · exact absurd hb.1 (hno p)
  · rw [e4]
    rcases hs3 with ⟨_, _, h3⟩ | ⟨h3, q, hq, e5, e6⟩
    · have := h3 p hb.1
      have := PayU.sum (fun c hc => (hv.rng c hc).1) hb.1.free
      omega
    · have e7 := IsBst.uniq (hb.1.length.trans hq.1.length.symm) hb hq
      subst e7
      have hpl := hb.1.length
      rw [show b = p by simpa using e6, show (v == 1000) = false from beq_false_of_ne (by omega)]
      simp only [Option.bind_some, beq_self_eq_true, cond_true, cond_false, same_eq hN1 p p (by omega), works_eq, decide_true]
end Go.Proofs.Ytjgmfdgpgdaclaa
