/- Texts of this claim, joined: G63 to G96c87io10001. -/
import Derived.KernelRfl
import Derived.Test.YtnlbhjmbaedadaaProg
import Derived.WalkKit
import Derived.Test.YtnlbhjmbaedadaaP4
set_option linter.unusedVariables false
set_option linter.unusedSimpArgs false
set_option maxRecDepth 100000
namespace Go.Proofs.Ytnlbhjmbaedadaa
open Go.Vi
/- headword/press.total -/
abbrev R63 := Int
noncomputable def c63 : Code := bodyOf Try.f63
noncomputable def an63 : Ann := (.s .l (.s .l (.s (.s .l (.j [3] (.j [3, 6, 7, 8] (.s .l (.s (.j [3, 6, 7, 8] .l .l) (.s (.j [3, 6, 7, 8] .l .l) .l))) .l) .l)) .l)))
def pk63 : List PK := [.c (.sl (.int .i64))]
def rk63 : List RK := [.c (.int .i64) 2]
noncomputable def rt63 (st : St) : Option R63 := rtG rk63 st
noncomputable def E63 (n : Nat × Nat) : Env := { T := tab, phi := noPhi, eff := fun _ => false, fuel := n.1, hold := n.2 }
noncomputable def kq63_1 (n : Nat × Nat) : St → Option R63 := run (E63 n) (cB (cB (cB c63))) (Ann.snd (Ann.snd (Ann.snd an63))) rt63 (fun _ _ => none) rt63
noncomputable def kc63_2 (n : Nat × Nat) : St → Option R63 := fun s => normC [3] s (kq63_1 n)
noncomputable def xb63_3 (n : Nat × Nat) : Nat → St → Option R63 := fun j s => bif Nat.beq j 0 then normC [3] s (kq63_1 n) else (fun _ _ => none) j s
noncomputable def F63_4 (n : Nat × Nat) : (St → Option R63) → St → Option R63 := fun K s => run (E63 n) (cA (cA (cB (cA (cB (cB c63)))))) (Ann.fst (Ann.fst (Ann.snd (Ann.fst (Ann.snd (Ann.snd an63)))))) (fun s => normC [3, 6, 7, 8] s K) (xb63_3 n) rt63 s
noncomputable def kq63_5 (n : Nat × Nat) (m1 : Nat) : St → Option R63 := run (E63 n) (cB (cB (cA (cA (cB (cA (cB (cB c63)))))))) (Ann.snd (Ann.snd (Ann.fst (Ann.fst (Ann.snd (Ann.fst (Ann.snd (Ann.snd an63)))))))) (fun s => normC [3, 6, 7, 8] s (loopN (F63_4 n) m1)) (xb63_3 n) rt63
noncomputable def kc63_6 (n : Nat × Nat) (m1 : Nat) : St → Option R63 := fun s => normC [3, 6, 7, 8] s (kq63_5 n m1)
noncomputable def kq63_7 (n : Nat × Nat) (m1 : Nat) : St → Option R63 := run (E63 n) (cB (cB (cB (cA (cA (cB (cA (cB (cB c63))))))))) (Ann.snd (Ann.snd (Ann.snd (Ann.fst (Ann.fst (Ann.snd (Ann.fst (Ann.snd (Ann.snd an63))))))))) (fun s => normC [3, 6, 7, 8] s (loopN (F63_4 n) m1)) (xb63_3 n) rt63
noncomputable def kc63_8 (n : Nat × Nat) (m1 : Nat) : St → Option R63 := fun s => normC [3, 6, 7, 8] s (kq63_7 n m1)
noncomputable def xb63_9 (n : Nat × Nat) (m1 : Nat) : Nat → St → Option R63 := fun j s => bif Nat.beq j 1 then normC [3, 6, 7, 8] s (kq63_7 n m1) else (xb63_3 n) j s
noncomputable def L63_1 (n : Nat × Nat) (m : Nat) (v3 : Int) (v6 : List Int) (v7 : Int) (v8 : Int) : Option R63 := loopN (F63_4 n) m { tm := [uu, uu, uu, .c (.int .i64 v3), uu, uu, .c (.sl (.int .i64) v6 false), .c (.int .i64 v7), .c (.int .i64 v8), uu, uu, uu, uu, uu, uu, uu, uu], hp := emp }
theorem L63_1_eq (n : Nat × Nat) (m1 : Nat) (v3 : Int) (v6 : List Int) (v7 : Int) (v8 : Int) : L63_1 n (m1 + 1) v3 v6 v7 v8 =
    (bif decide (v8 < v7) then (idx v6 v8).bind fun x1' =>
      L63_1 n m1 (wr .i64 (v3 + x1')) v6 v7 (wr .i64 (v8 + 1))
    else some v3) := by kernel_rfl
noncomputable def S63 (n : Nat × Nat) (l0 : List Int) : Option R63 := run (E63 n) c63 an63 rt63 (fun _ _ => none) rt63 { tm := [.c (.sl (.int .i64) l0 false), uu, uu, uu, uu, uu, uu, uu, uu, uu, uu, uu, uu, uu, uu, uu, uu], hp := emp }
theorem S63_eq (n : Nat × Nat) (l0 : List Int) : S63 n l0 =
    L63_1 n n.1 0 l0 (l0.length : Int) 0 := by kernel_rfl
theorem S63_run (n : Nat × Nat) (xs : pksDen pk63) : S63 n xs.1 = runG (E63 n) noScope c63 an63 (rtG rk63) (fun _ _ => none) (rtG rk63) (st0 pk63 xs Try.f63.ntmps) := by kernel_rfl
noncomputable def P63 (n : Nat × Nat) := phiOf pk63 rk63 (fun xs => S63 n xs.1)
theorem call63 : CallOK Try.prog 63 := callOK_of Try.func63 (by kernel_rfl) (by kernel_rfl)
theorem env63 (n : Nat × Nat) : EnvOK Try.prog (E63 n) := envOK0 noPhi_ok rfl rfl
theorem par63 (n : Nat × Nat) : EnvPar (E63 n) := envPar0 noPhi_par rfl
theorem FC63 (n : Nat × Nat) : FCs Try.prog 63 (P63 n) := phiOf_FCs fun xs r h vs hv => FC.of_runG tabOK eqsOK (env63 n) (par63 n) mixed (fun _ => noScope_ok) Try.func63 (c := c63) (an := an63) (pks := pk63) (rks := rk63) (by kernel_rfl) (by kernel_rfl) hv ((S63_run n xs).symm.trans h)
end Go.Proofs.Ytnlbhjmbaedadaa
set_option linter.unusedVariables false
set_option linter.unusedSimpArgs false
set_option maxRecDepth 100000
namespace Go.Proofs.Ytnlbhjmbaedadaa
open Go.Vi
/- headword/press.sums -/
abbrev R66 := List Int
noncomputable def c66 : Code := bodyOf Try.f66
noncomputable def an66 : Ann := (.s .l (.s .l (.s (.s .l (.j [3] (.j [0, 3, 6, 7] (.s .l (.s (.j [0, 3, 6, 7] .l .l) (.s (.j [0, 3, 6, 7] .l .l) .l))) .l) .l)) .l)))
def pk66 : List PK := [.c (.sl (.pair (.int .i64) (.int .i64)))]
def rk66 : List RK := [.own (.int .i64) 2]
noncomputable def rt66 (st : St) : Option R66 := rtG rk66 st
noncomputable def E66 (n : Nat × Nat) : Env := { T := tab, phi := (consPhi 63 (fun _ => true) (P63 n) (consPhi 64 (fun _ => true) (P64 n) noPhi)), eff := fun _ => false, fuel := n.1, hold := n.2 }
noncomputable def kq66_1 (n : Nat × Nat) : St → Option R66 := run (E66 n) (cB (cB (cB c66))) (Ann.snd (Ann.snd (Ann.snd an66))) rt66 (fun _ _ => none) rt66
noncomputable def kc66_2 (n : Nat × Nat) : St → Option R66 := fun s => normC [3] s (kq66_1 n)
noncomputable def xb66_3 (n : Nat × Nat) : Nat → St → Option R66 := fun j s => bif Nat.beq j 0 then normC [3] s (kq66_1 n) else (fun _ _ => none) j s
noncomputable def F66_4 (n : Nat × Nat) : (St → Option R66) → St → Option R66 := fun K s => run (E66 n) (cA (cA (cB (cA (cB (cB c66)))))) (Ann.fst (Ann.fst (Ann.snd (Ann.fst (Ann.snd (Ann.snd an66)))))) (fun s => normC [0, 3, 6, 7] s K) (xb66_3 n) rt66 s
noncomputable def kq66_5 (n : Nat × Nat) (m1 : Nat) : St → Option R66 := run (E66 n) (cB (cB (cA (cA (cB (cA (cB (cB c66)))))))) (Ann.snd (Ann.snd (Ann.fst (Ann.fst (Ann.snd (Ann.fst (Ann.snd (Ann.snd an66)))))))) (fun s => normC [0, 3, 6, 7] s (loopN (F66_4 n) m1)) (xb66_3 n) rt66
noncomputable def kc66_6 (n : Nat × Nat) (m1 : Nat) : St → Option R66 := fun s => normC [0, 3, 6, 7] s (kq66_5 n m1)
noncomputable def kq66_7 (n : Nat × Nat) (m1 : Nat) : St → Option R66 := run (E66 n) (cB (cB (cB (cA (cA (cB (cA (cB (cB c66))))))))) (Ann.snd (Ann.snd (Ann.snd (Ann.fst (Ann.fst (Ann.snd (Ann.fst (Ann.snd (Ann.snd an66))))))))) (fun s => normC [0, 3, 6, 7] s (loopN (F66_4 n) m1)) (xb66_3 n) rt66
noncomputable def kc66_8 (n : Nat × Nat) (m1 : Nat) : St → Option R66 := fun s => normC [0, 3, 6, 7] s (kq66_7 n m1)
noncomputable def xb66_9 (n : Nat × Nat) (m1 : Nat) : Nat → St → Option R66 := fun j s => bif Nat.beq j 1 then normC [0, 3, 6, 7] s (kq66_7 n m1) else (xb66_3 n) j s
noncomputable def L66_1 (n : Nat × Nat) (m : Nat) (l0 : List (Int × Int)) (v6 : Int) (v7 : Int) (out3 : List Int) : Option R66 := loopN (F66_4 n) m { tm := [.c (.sl (.pair (.int .i64) (.int .i64)) l0 false), uu, uu, .own 3 none false, uu, uu, .c (.int .i64 v6), .c (.int .i64 v7), uu, uu, uu, uu, uu, uu, uu, uu, uu, uu, uu, uu, uu, uu, uu, uu, uu, uu, uu], hp := (upd emp 3 (.arr (.int .i64) out3 true)) }
theorem L66_1_eq (n : Nat × Nat) (m1 : Nat) (l0 : List (Int × Int)) (v6 : Int) (v7 : Int) (out3 : List Int) : L66_1 n (m1 + 1) l0 v6 v7 out3 =
    (bif decide (v7 < v6) then (bif bounds none (some (wr .i64 (v7 + 1))) none l0.length then (S64 n (l0.take (Int.toNat (wr .i64 (v7 + 1)))) 0).bind fun r1' =>
        (S63 n r1').bind fun r2' =>
        (bif bounds (some v7) none none l0.length then (S64 n (l0.drop (Int.toNat v7)) 1).bind fun r3' =>
          (S63 n r3').bind fun r4' =>
          (bif decide (out3.length + [wr .i64 (r2' + r4')].length ≤ lim) then L66_1 n m1 l0 v6 (wr .i64 (v7 + 1)) (out3 ++ [wr .i64 (r2' + r4')])
          else none)
        else none)
      else none)
    else some out3) := by kernel_rfl
noncomputable def S66 (n : Nat × Nat) (l0 : List (Int × Int)) : Option R66 := run (E66 n) c66 an66 rt66 (fun _ _ => none) rt66 { tm := [.c (.sl (.pair (.int .i64) (.int .i64)) l0 false), uu, uu, uu, uu, uu, uu, uu, uu, uu, uu, uu, uu, uu, uu, uu, uu, uu, uu, uu, uu, uu, uu, uu, uu, uu, uu], hp := emp }
theorem S66_eq (n : Nat × Nat) (l0 : List (Int × Int)) : S66 n l0 =
    L66_1 n n.1 l0 (l0.length : Int) 0 [] := by kernel_rfl
theorem S66_run (n : Nat × Nat) (xs : pksDen pk66) : S66 n xs.1 = runG (E66 n) noScope c66 an66 (rtG rk66) (fun _ _ => none) (rtG rk66) (st0 pk66 xs Try.f66.ntmps) := by kernel_rfl
noncomputable def P66 (n : Nat × Nat) := phiOf pk66 rk66 (fun xs => S66 n xs.1)
theorem call66 : CallOK Try.prog 66 := callOK_of Try.func66 (by kernel_rfl) (by kernel_rfl)
theorem env66 (n : Nat × Nat) : EnvOK Try.prog (E66 n) := envOK0 (consPhi_ok (FC63 n) call63 (consPhi_ok (FC64 n) call64 noPhi_ok)) rfl rfl
theorem par66 (n : Nat × Nat) : EnvPar (E66 n) := envPar0 (consPhi_par phiOf_Par1 (consPhi_par phiOf_Par1 noPhi_par)) rfl
theorem FC66 (n : Nat × Nat) : FCs Try.prog 66 (P66 n) := phiOf_FCs fun xs r h vs hv => FC.of_runG tabOK eqsOK (env66 n) (par66 n) mixed (fun _ => noScope_ok) Try.func66 (c := c66) (an := an66) (pks := pk66) (rks := rk66) (by kernel_rfl) (by kernel_rfl) hv ((S66_run n xs).symm.trans h)
end Go.Proofs.Ytnlbhjmbaedadaa
set_option linter.unusedVariables false
set_option linter.unusedSimpArgs false
set_option maxRecDepth 100000
namespace Go.Proofs.Ytnlbhjmbaedadaa
open Go.Vi
/- headword/press.greatest[int] -/
abbrev R84 := Int
noncomputable def c84 : Code := bodyOf Try.f84
noncomputable def an84 : Ann := (.s .l (.s (.s .l (.j [0] (.j [0, 7, 8, 9] (.s .l (.s (.j [0, 7, 8, 9] .l .l) (.s (.j [0, 7, 8, 9] .l .l) .l))) .l) .l)) .l))
def pk84 : List PK := [.c (.int .i64), .c (.sl (.int .i64))]
def rk84 : List RK := [.c (.int .i64) 4]
noncomputable def rt84 (st : St) : Option R84 := rtG rk84 st
noncomputable def E84 (n : Nat × Nat) : Env := { T := tab, phi := noPhi, eff := fun _ => false, fuel := n.1, hold := n.2 }
noncomputable def kq84_1 (n : Nat × Nat) : St → Option R84 := run (E84 n) (cB (cB c84)) (Ann.snd (Ann.snd an84)) rt84 (fun _ _ => none) rt84
noncomputable def kc84_2 (n : Nat × Nat) : St → Option R84 := fun s => normC [0] s (kq84_1 n)
noncomputable def xb84_3 (n : Nat × Nat) : Nat → St → Option R84 := fun j s => bif Nat.beq j 0 then normC [0] s (kq84_1 n) else (fun _ _ => none) j s
noncomputable def F84_4 (n : Nat × Nat) : (St → Option R84) → St → Option R84 := fun K s => run (E84 n) (cA (cA (cB (cA (cB c84))))) (Ann.fst (Ann.fst (Ann.snd (Ann.fst (Ann.snd an84))))) (fun s => normC [0, 7, 8, 9] s K) (xb84_3 n) rt84 s
noncomputable def kq84_5 (n : Nat × Nat) (m1 : Nat) : St → Option R84 := run (E84 n) (cB (cB (cA (cA (cB (cA (cB c84))))))) (Ann.snd (Ann.snd (Ann.fst (Ann.fst (Ann.snd (Ann.fst (Ann.snd an84))))))) (fun s => normC [0, 7, 8, 9] s (loopN (F84_4 n) m1)) (xb84_3 n) rt84
noncomputable def kc84_6 (n : Nat × Nat) (m1 : Nat) : St → Option R84 := fun s => normC [0, 7, 8, 9] s (kq84_5 n m1)
noncomputable def kq84_7 (n : Nat × Nat) (m1 : Nat) : St → Option R84 := run (E84 n) (cB (cB (cB (cA (cA (cB (cA (cB c84)))))))) (Ann.snd (Ann.snd (Ann.snd (Ann.fst (Ann.fst (Ann.snd (Ann.fst (Ann.snd an84)))))))) (fun s => normC [0, 7, 8, 9] s (loopN (F84_4 n) m1)) (xb84_3 n) rt84
noncomputable def kc84_8 (n : Nat × Nat) (m1 : Nat) : St → Option R84 := fun s => normC [0, 7, 8, 9] s (kq84_7 n m1)
noncomputable def xb84_9 (n : Nat × Nat) (m1 : Nat) : Nat → St → Option R84 := fun j s => bif Nat.beq j 1 then normC [0, 7, 8, 9] s (kq84_7 n m1) else (xb84_3 n) j s
noncomputable def L84_1 (n : Nat × Nat) (m : Nat) (first0 : Int) (v7 : List Int) (v8 : Int) (v9 : Int) : Option R84 := loopN (F84_4 n) m { tm := [.c (.int .i64 first0), uu, uu, uu, uu, uu, uu, .c (.sl (.int .i64) v7 false), .c (.int .i64 v8), .c (.int .i64 v9), uu, uu, uu, uu, uu, uu, uu, uu], hp := emp }
theorem L84_1_eq (n : Nat × Nat) (m1 : Nat) (first0 : Int) (v7 : List Int) (v8 : Int) (v9 : Int) : L84_1 n (m1 + 1) first0 v7 v8 v9 =
    (bif decide (v9 < v8) then (idx v7 v9).bind fun x1' =>
      L84_1 n m1 (if x1' > first0 then x1' else first0) v7 v8 (wr .i64 (v9 + 1))
    else some first0) := by kernel_rfl
noncomputable def S84 (n : Nat × Nat) (first0 : Int) (v1 : List Int) : Option R84 := run (E84 n) c84 an84 rt84 (fun _ _ => none) rt84 { tm := [.c (.int .i64 first0), .c (.sl (.int .i64) v1 false), uu, uu, uu, uu, uu, uu, uu, uu, uu, uu, uu, uu, uu, uu, uu, uu], hp := emp }
theorem S84_eq (n : Nat × Nat) (first0 : Int) (v1 : List Int) : S84 n first0 v1 =
    L84_1 n n.1 first0 v1 (v1.length : Int) 0 := by kernel_rfl
theorem S84_run (n : Nat × Nat) (xs : pksDen pk84) : S84 n xs.1 xs.2.1 = runG (E84 n) noScope c84 an84 (rtG rk84) (fun _ _ => none) (rtG rk84) (st0 pk84 xs Try.f84.ntmps) := by kernel_rfl
noncomputable def P84 (n : Nat × Nat) := phiOf pk84 rk84 (fun xs => S84 n xs.1 xs.2.1)
theorem call84 : CallOK Try.prog 84 := callOK_of Try.func84 (by kernel_rfl) (by kernel_rfl)
theorem env84 (n : Nat × Nat) : EnvOK Try.prog (E84 n) := envOK0 noPhi_ok rfl rfl
theorem par84 (n : Nat × Nat) : EnvPar (E84 n) := envPar0 noPhi_par rfl
theorem FC84 (n : Nat × Nat) : FCs Try.prog 84 (P84 n) := phiOf_FCs fun xs r h vs hv => FC.of_runG tabOK eqsOK (env84 n) (par84 n) mixed (fun _ => noScope_ok) Try.func84 (c := c84) (an := an84) (pks := pk84) (rks := rk84) (by kernel_rfl) (by kernel_rfl) hv ((S84_run n xs).symm.trans h)
end Go.Proofs.Ytnlbhjmbaedadaa
set_option linter.unusedVariables false
set_option linter.unusedSimpArgs false
set_option maxRecDepth 100000
namespace Go.Proofs.Ytnlbhjmbaedadaa
open Go.Vi
/- headword/press.time -/
abbrev R61 := Int
noncomputable def c61 : Code := bodyOf Try.f61
noncomputable def an61 : Ann := .l
def pk61 : List PK := [.c (.sl (.pair (.int .i64) (.int .i64)))]
def rk61 : List RK := [.c (.int .i64) 2]
noncomputable def rt61 (st : St) : Option R61 := rtG rk61 st
noncomputable def E61 (n : Nat × Nat) : Env := { T := tab, phi := (consPhi 66 (fun _ => true) (P66 n) (consPhi 84 (fun _ => true) (P84 n) noPhi)), eff := fun _ => false, fuel := n.1, hold := n.2 }
noncomputable def S61 (n : Nat × Nat) (l0 : List (Int × Int)) : Option R61 := run (E61 n) c61 an61 rt61 (fun _ _ => none) rt61 { tm := [.c (.sl (.pair (.int .i64) (.int .i64)) l0 false), uu, uu, uu, uu, uu, uu, uu, uu, uu, uu, uu], hp := emp }
theorem S61_eq (n : Nat × Nat) (l0 : List (Int × Int)) : S61 n l0 =
    (S66 n l0).bind fun r1' =>
    (bif inB 0 r1'.length then (idx r1' 0).bind fun x2' =>
      (bif bounds (some 1) none none r1'.length then (S84 n x2' ((r1'.drop (0 + (Int.toNat 1))).take (r1'.length - (Int.toNat 1)))).bind fun r3' =>
        some r3'
      else none)
    else none) := by kernel_rfl
theorem S61_run (n : Nat × Nat) (xs : pksDen pk61) : S61 n xs.1 = runG (E61 n) noScope c61 an61 (rtG rk61) (fun _ _ => none) (rtG rk61) (st0 pk61 xs Try.f61.ntmps) := by kernel_rfl
noncomputable def P61 (n : Nat × Nat) := phiOf pk61 rk61 (fun xs => S61 n xs.1)
theorem call61 : CallOK Try.prog 61 := callOK_of Try.func61 (by kernel_rfl) (by kernel_rfl)
theorem env61 (n : Nat × Nat) : EnvOK Try.prog (E61 n) := envOK0 (consPhi_ok (FC66 n) call66 (consPhi_ok (FC84 n) call84 noPhi_ok)) rfl rfl
theorem par61 (n : Nat × Nat) : EnvPar (E61 n) := envPar0 (consPhi_par phiOf_Par1 (consPhi_par phiOf_Par1 noPhi_par)) rfl
theorem FC61 (n : Nat × Nat) : FCs Try.prog 61 (P61 n) := phiOf_FCs fun xs r h vs hv => FC.of_runG tabOK eqsOK (env61 n) (par61 n) mixed (fun _ => noScope_ok) Try.func61 (c := c61) (an := an61) (pks := pk61) (rks := rk61) (by kernel_rfl) (by kernel_rfl) hv ((S61_run n xs).symm.trans h)
end Go.Proofs.Ytnlbhjmbaedadaa
set_option linter.unusedVariables false
set_option linter.unusedSimpArgs false
set_option maxRecDepth 100000
namespace Go.Proofs.Ytnlbhjmbaedadaa
open Go.Vi
/- headword/press.Time -/
abbrev R19 := Int × Int
noncomputable def c19 : Code := bodyOf Try.f19
noncomputable def an19 : Ann := (.s .l (.s .l (.s (.s .l (.j [6] .l .l)) .l)))
def pk19 : List PK := [.c (.sl (.pair (.int .i64) (.int .i64))), .c (.sl (.int .i64))]
def rk19 : List RK := [.c (.int .i64) 4, .c (.int .i64) 5]
noncomputable def rt19 (st : St) : Option R19 := rtG rk19 st
noncomputable def E19 (n : Nat × Nat) : Env := { T := tab, phi := (consPhi 58 (fun _ => true) (P58 n) (consPhi 61 (fun _ => true) (P61 n) noPhi)), eff := fun _ => false, fuel := n.1, hold := n.2 }
noncomputable def kq19_1 (n : Nat × Nat) : St → Option R19 := run (E19 n) (cB (cB (cB c19))) (Ann.snd (Ann.snd (Ann.snd an19))) rt19 (fun _ _ => none) rt19
noncomputable def kc19_2 (n : Nat × Nat) : St → Option R19 := fun s => normC [6] s (kq19_1 n)
noncomputable def S19 (n : Nat × Nat) (sheets0 : List (Int × Int)) (order1 : List Int) : Option R19 := run (E19 n) c19 an19 rt19 (fun _ _ => none) rt19 { tm := [.c (.sl (.pair (.int .i64) (.int .i64)) sheets0 false), .c (.sl (.int .i64) order1 false), uu, uu, uu, uu, uu, uu, uu, uu, uu, uu, uu, uu, uu, uu, uu, uu, uu], hp := emp }
theorem S19_eq (n : Nat × Nat) (sheets0 : List (Int × Int)) (order1 : List Int) : S19 n sheets0 order1 =
    (S58 n sheets0 order1).bind fun r1' =>
    (bif (r1'.2 != 0) then some (0, r1'.2)
    else (S61 n r1'.1).bind fun r2' =>
      some (r2', 0)) := by kernel_rfl
theorem S19_run (n : Nat × Nat) (xs : pksDen pk19) : S19 n xs.1 xs.2.1 = runG (E19 n) noScope c19 an19 (rtG rk19) (fun _ _ => none) (rtG rk19) (st0 pk19 xs Try.f19.ntmps) := by kernel_rfl
noncomputable def P19 (n : Nat × Nat) := phiOf pk19 rk19 (fun xs => S19 n xs.1 xs.2.1)
theorem call19 : CallOK Try.prog 19 := callOK_of Try.func19 (by kernel_rfl) (by kernel_rfl)
theorem env19 (n : Nat × Nat) : EnvOK Try.prog (E19 n) := envOK0 (consPhi_ok (FC58 n) call58 (consPhi_ok (FC61 n) call61 noPhi_ok)) rfl rfl
theorem par19 (n : Nat × Nat) : EnvPar (E19 n) := envPar0 (consPhi_par phiOf_Par1 (consPhi_par phiOf_Par1 noPhi_par)) rfl
theorem FC19 (n : Nat × Nat) : FCs Try.prog 19 (P19 n) := phiOf_FCs fun xs r h vs hv => FC.of_runG tabOK eqsOK (env19 n) (par19 n) mixed (fun _ => noScope_ok) Try.func19 (c := c19) (an := an19) (pks := pk19) (rks := rk19) (by kernel_rfl) (by kernel_rfl) hv ((S19_run n xs).symm.trans h)
end Go.Proofs.Ytnlbhjmbaedadaa
set_option linter.unusedVariables false
set_option linter.unusedSimpArgs false
set_option maxRecDepth 100000
namespace Go.Proofs.Ytnlbhjmbaedadaa
open Go.Vi
/- headword/press.Idle -/
abbrev R21 := Int × Int
noncomputable def c21 : Code := bodyOf Try.f21
noncomputable def an21 : Ann := (.s .l (.s .l (.s (.s .l (.j [6] .l .l)) .l)))
def pk21 : List PK := [.c (.sl (.pair (.int .i64) (.int .i64))), .c (.sl (.int .i64))]
def rk21 : List RK := [.c (.int .i64) 4, .c (.int .i64) 5]
noncomputable def rt21 (st : St) : Option R21 := rtG rk21 st
noncomputable def E21 (n : Nat × Nat) : Env := { T := tab, phi := (consPhi 58 (fun _ => true) (P58 n) (consPhi 61 (fun _ => true) (P61 n) (consPhi 63 (fun _ => true) (P63 n) (consPhi 64 (fun _ => true) (P64 n) noPhi)))), eff := fun _ => false, fuel := n.1, hold := n.2 }
noncomputable def kq21_1 (n : Nat × Nat) : St → Option R21 := run (E21 n) (cB (cB (cB c21))) (Ann.snd (Ann.snd (Ann.snd an21))) rt21 (fun _ _ => none) rt21
noncomputable def kc21_2 (n : Nat × Nat) : St → Option R21 := fun s => normC [6] s (kq21_1 n)
noncomputable def S21 (n : Nat × Nat) (sheets0 : List (Int × Int)) (order1 : List Int) : Option R21 := run (E21 n) c21 an21 rt21 (fun _ _ => none) rt21 { tm := [.c (.sl (.pair (.int .i64) (.int .i64)) sheets0 false), .c (.sl (.int .i64) order1 false), uu, uu, uu, uu, uu, uu, uu, uu, uu, uu, uu, uu, uu, uu, uu, uu, uu, uu, uu, uu, uu], hp := emp }
theorem S21_eq (n : Nat × Nat) (sheets0 : List (Int × Int)) (order1 : List Int) : S21 n sheets0 order1 =
    (S58 n sheets0 order1).bind fun r1' =>
    (bif (r1'.2 != 0) then some (0, r1'.2)
    else (S61 n r1'.1).bind fun r2' =>
      (S64 n r1'.1 1).bind fun r3' =>
      (S63 n r3').bind fun r4' =>
      some (wr .i64 (r2' - r4'), 0)) := by kernel_rfl
theorem S21_run (n : Nat × Nat) (xs : pksDen pk21) : S21 n xs.1 xs.2.1 = runG (E21 n) noScope c21 an21 (rtG rk21) (fun _ _ => none) (rtG rk21) (st0 pk21 xs Try.f21.ntmps) := by kernel_rfl
noncomputable def P21 (n : Nat × Nat) := phiOf pk21 rk21 (fun xs => S21 n xs.1 xs.2.1)
theorem call21 : CallOK Try.prog 21 := callOK_of Try.func21 (by kernel_rfl) (by kernel_rfl)
theorem env21 (n : Nat × Nat) : EnvOK Try.prog (E21 n) := envOK0 (consPhi_ok (FC58 n) call58 (consPhi_ok (FC61 n) call61 (consPhi_ok (FC63 n) call63 (consPhi_ok (FC64 n) call64 noPhi_ok)))) rfl rfl
theorem par21 (n : Nat × Nat) : EnvPar (E21 n) := envPar0 (consPhi_par phiOf_Par1 (consPhi_par phiOf_Par1 (consPhi_par phiOf_Par1 (consPhi_par phiOf_Par1 noPhi_par)))) rfl
theorem FC21 (n : Nat × Nat) : FCs Try.prog 21 (P21 n) := phiOf_FCs fun xs r h vs hv => FC.of_runG tabOK eqsOK (env21 n) (par21 n) mixed (fun _ => noScope_ok) Try.func21 (c := c21) (an := an21) (pks := pk21) (rks := rk21) (by kernel_rfl) (by kernel_rfl) hv ((S21_run n xs).symm.trans h)
end Go.Proofs.Ytnlbhjmbaedadaa
set_option linter.unusedVariables false
set_option linter.unusedSimpArgs false
set_option maxRecDepth 100000
namespace Go.Proofs.Ytnlbhjmbaedadaa
open Go.Vi
/- headword/press.Last -/
abbrev R23 := Int × Int
noncomputable def c23 : Code := bodyOf Try.f23
noncomputable def an23 : Ann := (.s .l (.s .l (.s (.s .l (.j [6] .l .l)) .l)))
def pk23 : List PK := [.c (.sl (.pair (.int .i64) (.int .i64))), .c (.sl (.int .i64))]
def rk23 : List RK := [.c (.int .i64) 4, .c (.int .i64) 5]
noncomputable def rt23 (st : St) : Option R23 := rtG rk23 st
noncomputable def E23 (n : Nat × Nat) : Env := { T := tab, phi := (consPhi 58 (fun _ => true) (P58 n) (consPhi 61 (fun _ => true) (P61 n) (consPhi 65 (fun _ => true) (P65 n) (consPhi 66 (fun _ => true) (P66 n) noPhi)))), eff := fun _ => false, fuel := n.1, hold := n.2 }
noncomputable def kq23_1 (n : Nat × Nat) : St → Option R23 := run (E23 n) (cB (cB (cB c23))) (Ann.snd (Ann.snd (Ann.snd an23))) rt23 (fun _ _ => none) rt23
noncomputable def kc23_2 (n : Nat × Nat) : St → Option R23 := fun s => normC [6] s (kq23_1 n)
noncomputable def S23 (n : Nat × Nat) (sheets0 : List (Int × Int)) (order1 : List Int) : Option R23 := run (E23 n) c23 an23 rt23 (fun _ _ => none) rt23 { tm := [.c (.sl (.pair (.int .i64) (.int .i64)) sheets0 false), .c (.sl (.int .i64) order1 false), uu, uu, uu, uu, uu, uu, uu, uu, uu, uu, uu, uu, uu, uu, uu, uu, uu, uu, uu, uu], hp := emp }
theorem S23_eq (n : Nat × Nat) (sheets0 : List (Int × Int)) (order1 : List Int) : S23 n sheets0 order1 =
    (S58 n sheets0 order1).bind fun r1' =>
    (bif (r1'.2 != 0) then some (0, r1'.2)
    else (S66 n r1'.1).bind fun r2' =>
      (S61 n r1'.1).bind fun r3' =>
      (S65 n r2' r3').bind fun r4' =>
      some (r4', 0)) := by kernel_rfl
theorem S23_run (n : Nat × Nat) (xs : pksDen pk23) : S23 n xs.1 xs.2.1 = runG (E23 n) noScope c23 an23 (rtG rk23) (fun _ _ => none) (rtG rk23) (st0 pk23 xs Try.f23.ntmps) := by kernel_rfl
noncomputable def P23 (n : Nat × Nat) := phiOf pk23 rk23 (fun xs => S23 n xs.1 xs.2.1)
theorem call23 : CallOK Try.prog 23 := callOK_of Try.func23 (by kernel_rfl) (by kernel_rfl)
theorem env23 (n : Nat × Nat) : EnvOK Try.prog (E23 n) := envOK0 (consPhi_ok (FC58 n) call58 (consPhi_ok (FC61 n) call61 (consPhi_ok (FC65 n) call65 (consPhi_ok (FC66 n) call66 noPhi_ok)))) rfl rfl
theorem par23 (n : Nat × Nat) : EnvPar (E23 n) := envPar0 (consPhi_par phiOf_Par1 (consPhi_par phiOf_Par1 (consPhi_par phiOf_Par1 (consPhi_par phiOf_Par1 noPhi_par)))) rfl
theorem FC23 (n : Nat × Nat) : FCs Try.prog 23 (P23 n) := phiOf_FCs fun xs r h vs hv => FC.of_runG tabOK eqsOK (env23 n) (par23 n) mixed (fun _ => noScope_ok) Try.func23 (c := c23) (an := an23) (pks := pk23) (rks := rk23) (by kernel_rfl) (by kernel_rfl) hv ((S23_run n xs).symm.trans h)
end Go.Proofs.Ytnlbhjmbaedadaa
set_option linter.unusedVariables false
set_option linter.unusedSimpArgs false
set_option maxRecDepth 100000
namespace Go.Proofs.Ytnlbhjmbaedadaa
open Go.Vi
/- headword/press.rule$1 -/
abbrev R86 := Int
noncomputable def c86 : Code := bodyOf Try.f86
noncomputable def an86 : Ann := .l
def pk86 : List PK := [.c (.int .i64), .c (.int .i64), .p (.sl (.pair (.int .i64) (.int .i64)))]
def rk86 : List RK := [.c (.int .i64) 5]
noncomputable def rt86 (st : St) : Option R86 := rtG rk86 st
noncomputable def E86 (n : Nat × Nat) : Env := { T := tab, phi := noPhi, eff := fun _ => false, fuel := n.1, hold := n.2 }
noncomputable def S86 (n : Nat × Nat) (i0 : Int) (j1 : Int) (v2 : List (Int × Int)) : Option R86 := run (E86 n) c86 an86 rt86 (fun _ _ => none) rt86 { tm := [.c (.int .i64 i0), .c (.int .i64 j1), .iptr [.sl (.pair (.int .i64) (.int .i64)) v2 false], uu, uu, uu, uu, uu, uu, uu, uu, uu, uu, uu, uu, uu, uu], hp := emp }
theorem S86_eq (n : Nat × Nat) (i0 : Int) (j1 : Int) (v2 : List (Int × Int)) : S86 n i0 j1 v2 =
    (idx v2 i0).bind fun x1' =>
    (idx v2 j1).bind fun x2' =>
    some (wr .i64 (x1'.1 - x2'.1)) := by kernel_rfl
theorem S86_run (n : Nat × Nat) (xs : pksDen pk86) : S86 n xs.1 xs.2.1 xs.2.2.1 = runG (E86 n) noScope c86 an86 (rtG rk86) (fun _ _ => none) (rtG rk86) (st0 pk86 xs Try.f86.ntmps) := by kernel_rfl
noncomputable def P86 (n : Nat × Nat) := phiOf pk86 rk86 (fun xs => S86 n xs.1 xs.2.1 xs.2.2.1)
theorem call86 : CallOK Try.prog 86 := callOK_of Try.func86 (by kernel_rfl) (by kernel_rfl)
theorem env86 (n : Nat × Nat) : EnvOK Try.prog (E86 n) := envOK0 noPhi_ok rfl rfl
theorem par86 (n : Nat × Nat) : EnvPar (E86 n) := envPar0 noPhi_par rfl
theorem FC86 (n : Nat × Nat) : FCs Try.prog 86 (P86 n) := phiOf_FCs fun xs r h vs hv => FC.of_runG tabOK eqsOK (env86 n) (par86 n) mixed (fun _ => noScope_ok) Try.func86 (c := c86) (an := an86) (pks := pk86) (rks := rk86) (by kernel_rfl) (by kernel_rfl) hv ((S86_run n xs).symm.trans h)
end Go.Proofs.Ytnlbhjmbaedadaa
set_option linter.unusedVariables false
set_option linter.unusedSimpArgs false
set_option maxRecDepth 100000
namespace Go.Proofs.Ytnlbhjmbaedadaa
open Go.Vi
/- slices.insertionSortCmpFunc[int] -/
abbrev R95c86io1001 := (Unit) × (List Int) × (List (Int × Int)) × Unit
noncomputable def c95c86io1001 : Code := bodyOf Try.f95
noncomputable def an95c86io1001 : Ann := (.s .l (.j [1000000000, 1000000001] (.j [0, 1, 2, 3, 8, 22, 23, 24, 25, 26, 27, 28, 29, 30, 31, 32, 33, 1000000000, 1000000001] (.s (.s .l (.j [0, 1, 2, 3, 8, 22, 23, 24, 25, 26, 27, 28, 29, 30, 31, 32, 33, 1000000000, 1000000001] .l .l)) (.s (.j [0, 1, 2, 3, 8, 22, 23, 24, 25, 26, 27, 28, 29, 30, 31, 32, 33, 1000000000, 1000000001] (.s .l (.j [0, 1, 2, 3, 8, 22, 23, 24, 25, 26, 27, 28, 29, 30, 31, 32, 33, 1000000000, 1000000001] (.j [0, 1, 2, 3, 8, 9, 22, 23, 24, 25, 26, 27, 28, 29, 30, 31, 32, 33, 1000000000, 1000000001] (.s (.s .l (.j [0, 1, 2, 3, 8, 9, 22, 23, 24, 25, 26, 27, 28, 29, 30, 31, 32, 33, 1000000000, 1000000001] .l .l)) (.s (.j [0, 1, 2, 3, 8, 9, 22, 23, 24, 25, 26, 27, 28, 29, 30, 31, 32, 33, 1000000000, 1000000001] .l .l) .l)) .l) .l)) .l) .l)) .l) .l))
def pk95c86io1001 : List QK := [.oa (.int .i64), .pl (.c (.int .i64)), .pl (.c (.int .i64)), .of 86 [(.sl (.pair (.int .i64) (.int .i64)))]]
def rk95c86io1001 : List RK := []
noncomputable def rt95c86io1001 (st : St) : Option R95c86io1001 := rtIO rk95c86io1001 (pk95c86io1001.flatMap QK.ods) st
noncomputable def E95c86io1001 (n : Nat × Nat) : Env := { T := tab, phi := (consPhi 86 (fun _ => true) (P86 n) noPhi), eff := fun _ => false, fuel := n.1, hold := n.2, pcl := [22] }
noncomputable def kc95c86io1001_1 (n : Nat × Nat) : St → Option R95c86io1001 := fun s => normC [1000000000, 1000000001] s rt95c86io1001
noncomputable def xb95c86io1001_2 (n : Nat × Nat) : Nat → St → Option R95c86io1001 := fun j s => bif Nat.beq j 0 then normC [1000000000, 1000000001] s rt95c86io1001 else (fun _ _ => none) j s
noncomputable def F95c86io1001_3 (n : Nat × Nat) : (St → Option R95c86io1001) → St → Option R95c86io1001 := fun K s => run (E95c86io1001 n) (cA (cA (cB c95c86io1001))) (Ann.fst (Ann.fst (Ann.snd an95c86io1001))) (fun s => normC [0, 1, 2, 3, 8, 22, 23, 24, 25, 26, 27, 28, 29, 30, 31, 32, 33, 1000000000, 1000000001] s K) (xb95c86io1001_2 n) rt95c86io1001 s
noncomputable def kq95c86io1001_4 (n : Nat × Nat) (m1 : Nat) : St → Option R95c86io1001 := run (E95c86io1001 n) (cB (cA (cA (cB c95c86io1001)))) (Ann.snd (Ann.fst (Ann.fst (Ann.snd an95c86io1001)))) (fun s => normC [0, 1, 2, 3, 8, 22, 23, 24, 25, 26, 27, 28, 29, 30, 31, 32, 33, 1000000000, 1000000001] s (loopN (F95c86io1001_3 n) m1)) (xb95c86io1001_2 n) rt95c86io1001
noncomputable def kc95c86io1001_5 (n : Nat × Nat) (m1 : Nat) : St → Option R95c86io1001 := fun s => normC [0, 1, 2, 3, 8, 22, 23, 24, 25, 26, 27, 28, 29, 30, 31, 32, 33, 1000000000, 1000000001] s (kq95c86io1001_4 n m1)
noncomputable def kq95c86io1001_6 (n : Nat × Nat) (m1 : Nat) : St → Option R95c86io1001 := run (E95c86io1001 n) (cB (cB (cA (cA (cB c95c86io1001))))) (Ann.snd (Ann.snd (Ann.fst (Ann.fst (Ann.snd an95c86io1001))))) (fun s => normC [0, 1, 2, 3, 8, 22, 23, 24, 25, 26, 27, 28, 29, 30, 31, 32, 33, 1000000000, 1000000001] s (loopN (F95c86io1001_3 n) m1)) (xb95c86io1001_2 n) rt95c86io1001
noncomputable def kc95c86io1001_7 (n : Nat × Nat) (m1 : Nat) : St → Option R95c86io1001 := fun s => normC [0, 1, 2, 3, 8, 22, 23, 24, 25, 26, 27, 28, 29, 30, 31, 32, 33, 1000000000, 1000000001] s (kq95c86io1001_6 n m1)
noncomputable def xb95c86io1001_8 (n : Nat × Nat) (m1 : Nat) : Nat → St → Option R95c86io1001 := fun j s => bif Nat.beq j 1 then normC [0, 1, 2, 3, 8, 22, 23, 24, 25, 26, 27, 28, 29, 30, 31, 32, 33, 1000000000, 1000000001] s (kq95c86io1001_6 n m1) else (xb95c86io1001_2 n) j s
noncomputable def kc95c86io1001_9 (n : Nat × Nat) (m1 : Nat) : St → Option R95c86io1001 := fun s => normC [0, 1, 2, 3, 8, 22, 23, 24, 25, 26, 27, 28, 29, 30, 31, 32, 33, 1000000000, 1000000001] s (kc95c86io1001_7 n m1)
noncomputable def xb95c86io1001_10 (n : Nat × Nat) (m1 : Nat) : Nat → St → Option R95c86io1001 := fun j s => bif Nat.beq j 2 then normC [0, 1, 2, 3, 8, 22, 23, 24, 25, 26, 27, 28, 29, 30, 31, 32, 33, 1000000000, 1000000001] s (kc95c86io1001_7 n m1) else (xb95c86io1001_8 n m1) j s
noncomputable def F95c86io1001_11 (n : Nat × Nat) (m1 : Nat) : (St → Option R95c86io1001) → St → Option R95c86io1001 := fun K s => run (E95c86io1001 n) (cA (cA (cB (cA (cA (cB (cA (cA (cB c95c86io1001))))))))) (Ann.fst (Ann.fst (Ann.snd (Ann.fst (Ann.fst (Ann.snd (Ann.fst (Ann.fst (Ann.snd an95c86io1001))))))))) (fun s => normC [0, 1, 2, 3, 8, 9, 22, 23, 24, 25, 26, 27, 28, 29, 30, 31, 32, 33, 1000000000, 1000000001] s K) (xb95c86io1001_10 n m1) rt95c86io1001 s
noncomputable def kq95c86io1001_12 (n : Nat × Nat) (m1 m2 : Nat) : St → Option R95c86io1001 := run (E95c86io1001 n) (cB (cA (cA (cB (cA (cA (cB (cA (cA (cB c95c86io1001)))))))))) (Ann.snd (Ann.fst (Ann.fst (Ann.snd (Ann.fst (Ann.fst (Ann.snd (Ann.fst (Ann.fst (Ann.snd an95c86io1001)))))))))) (fun s => normC [0, 1, 2, 3, 8, 9, 22, 23, 24, 25, 26, 27, 28, 29, 30, 31, 32, 33, 1000000000, 1000000001] s (loopN (F95c86io1001_11 n m1) m2)) (xb95c86io1001_10 n m1) rt95c86io1001
noncomputable def kc95c86io1001_13 (n : Nat × Nat) (m1 m2 : Nat) : St → Option R95c86io1001 := fun s => normC [0, 1, 2, 3, 8, 9, 22, 23, 24, 25, 26, 27, 28, 29, 30, 31, 32, 33, 1000000000, 1000000001] s (kq95c86io1001_12 n m1 m2)
noncomputable def kq95c86io1001_14 (n : Nat × Nat) (m1 m2 : Nat) : St → Option R95c86io1001 := run (E95c86io1001 n) (cB (cB (cA (cA (cB (cA (cA (cB (cA (cA (cB c95c86io1001))))))))))) (Ann.snd (Ann.snd (Ann.fst (Ann.fst (Ann.snd (Ann.fst (Ann.fst (Ann.snd (Ann.fst (Ann.fst (Ann.snd an95c86io1001))))))))))) (fun s => normC [0, 1, 2, 3, 8, 9, 22, 23, 24, 25, 26, 27, 28, 29, 30, 31, 32, 33, 1000000000, 1000000001] s (loopN (F95c86io1001_11 n m1) m2)) (xb95c86io1001_10 n m1) rt95c86io1001
noncomputable def kc95c86io1001_15 (n : Nat × Nat) (m1 m2 : Nat) : St → Option R95c86io1001 := fun s => normC [0, 1, 2, 3, 8, 9, 22, 23, 24, 25, 26, 27, 28, 29, 30, 31, 32, 33, 1000000000, 1000000001] s (kq95c86io1001_14 n m1 m2)
noncomputable def xb95c86io1001_16 (n : Nat × Nat) (m1 m2 : Nat) : Nat → St → Option R95c86io1001 := fun j s => bif Nat.beq j 3 then normC [0, 1, 2, 3, 8, 9, 22, 23, 24, 25, 26, 27, 28, 29, 30, 31, 32, 33, 1000000000, 1000000001] s (kq95c86io1001_14 n m1 m2) else (xb95c86io1001_10 n m1) j s
noncomputable def L95c86io1001_1 (n : Nat × Nat) (m : Nat) (a1 : Int) (b2 : Int) (i8 : Int) (v1000000000 : List Int) (v1000000001 : List (Int × Int)) : Option R95c86io1001 := loopN (F95c86io1001_3 n) m { tm := [.own 1000000000 none false, .c (.int .i64 a1), .c (.int .i64 b2), .fn 86 [.ptr 1000000001 0], uu, uu, uu, uu, .c (.int .i64 i8), uu, uu, uu, uu, uu, uu, uu, uu, uu, uu, uu, uu, uu, uu, uu, uu, uu, uu, uu, uu, uu, uu, uu, uu, uu, uu, uu, uu, uu, uu, uu, uu, uu, uu, uu, uu, uu, uu, uu, uu, uu, uu, uu, uu], hp := (upd (upd emp 1000000001 (.box [.sl (.pair (.int .i64) (.int .i64)) v1000000001 false])) 1000000000 (.arr (.int .i64) v1000000000 false)) }
noncomputable def L95c86io1001_2 (n : Nat × Nat) (m1 : Nat) (m : Nat) (a1 : Int) (b2 : Int) (i8 : Int) (j9 : Int) (v1000000000 : List Int) (v1000000001 : List (Int × Int)) : Option R95c86io1001 := loopN (F95c86io1001_11 n m1) m { tm := [.own 1000000000 none false, .c (.int .i64 a1), .c (.int .i64 b2), .fn 86 [.ptr 1000000001 0], uu, uu, uu, uu, .c (.int .i64 i8), .c (.int .i64 j9), uu, uu, uu, uu, uu, uu, uu, uu, uu, uu, uu, uu, uu, uu, uu, uu, uu, uu, uu, uu, uu, uu, uu, uu, uu, uu, uu, uu, uu, uu, uu, uu, uu, uu, uu, uu, uu, uu, uu, uu, uu, uu, uu], hp := (upd (upd emp 1000000001 (.box [.sl (.pair (.int .i64) (.int .i64)) v1000000001 false])) 1000000000 (.arr (.int .i64) v1000000000 false)) }
theorem L95c86io1001_1_eq (n : Nat × Nat) (m1 : Nat) (a1 : Int) (b2 : Int) (i8 : Int) (v1000000000 : List Int) (v1000000001 : List (Int × Int)) : L95c86io1001_1 n (m1 + 1) a1 b2 i8 v1000000000 v1000000001 =
    (bif decide (i8 < b2) then L95c86io1001_2 n m1 n.1 a1 b2 i8 i8 v1000000000 v1000000001
    else some ((), v1000000000, v1000000001, ())) := by kernel_rfl
theorem L95c86io1001_2_eq (n : Nat × Nat) (m1 m2 : Nat) (a1 : Int) (b2 : Int) (i8 : Int) (j9 : Int) (v1000000000 : List Int) (v1000000001 : List (Int × Int)) : L95c86io1001_2 n m1 (m2 + 1) a1 b2 i8 j9 v1000000000 v1000000001 =
    ((bif (decide (j9 > a1) == true) then (bif inB j9 v1000000000.length then (idx v1000000000 j9).bind fun x1' =>
          (bif inB (wr .i64 (j9 - 1)) v1000000000.length then (idx v1000000000 (wr .i64 (j9 - 1))).bind fun x2' =>
            (S86 n x1' x2' v1000000001).bind fun r3' =>
            some (decide (r3' < 0))
          else none)
        else none)
      else some false)).bind fun b4' =>
    (bif b4' then (bif inB (wr .i64 (j9 - 1)) v1000000000.length then (idx v1000000000 (wr .i64 (j9 - 1))).bind fun x5' =>
        (bif inB j9 v1000000000.length then (idx v1000000000 j9).bind fun x6' =>
          (bif inB j9 v1000000000.length then (idx v1000000000 j9).bind fun x7' =>
            (bif inB (wr .i64 (j9 - 1)) (v1000000000.set (Int.toNat j9) x5').length then (idx (v1000000000.set (Int.toNat j9) x5') (wr .i64 (j9 - 1))).bind fun x8' =>
              L95c86io1001_2 n m1 m2 a1 b2 i8 (wr .i64 (j9 - 1)) ((v1000000000.set (Int.toNat j9) x5').set (Int.toNat (wr .i64 (j9 - 1))) x6') v1000000001
            else none)
          else none)
        else none)
      else none)
    else L95c86io1001_1 n m1 a1 b2 (wr .i64 (i8 + 1)) v1000000000 v1000000001) := by kernel_rfl
noncomputable def S95c86io1001 (n : Nat × Nat) (data0 : List Int) (a1 : Int) (b2 : Int) (cp_3_0 : List (Int × Int)) : Option R95c86io1001 := run (E95c86io1001 n) c95c86io1001 an95c86io1001 rt95c86io1001 (fun _ _ => none) rt95c86io1001 { tm := [.own 1000000000 none false, .c (.int .i64 a1), .c (.int .i64 b2), .fn 86 [.ptr 1000000001 0], uu, uu, uu, uu, uu, uu, uu, uu, uu, uu, uu, uu, uu, uu, uu, uu, uu, uu, uu, uu, uu, uu, uu, uu, uu, uu, uu, uu, uu, uu, uu, uu, uu, uu, uu, uu, uu, uu, uu, uu, uu, uu, uu, uu, uu, uu, uu, uu, uu], hp := (upd (upd emp 1000000001 (.box [.sl (.pair (.int .i64) (.int .i64)) cp_3_0 false])) 1000000000 (.arr (.int .i64) data0 false)) }
theorem S95c86io1001_eq (n : Nat × Nat) (data0 : List Int) (a1 : Int) (b2 : Int) (cp_3_0 : List (Int × Int)) : S95c86io1001 n data0 a1 b2 cp_3_0 =
    L95c86io1001_1 n n.1 a1 b2 (wr .i64 (a1 + 1)) data0 cp_3_0 := by kernel_rfl
theorem S95c86io1001_run (n : Nat × Nat) (xs : qksDen pk95c86io1001) : S95c86io1001 n xs.1 xs.2.1 xs.2.2.1 xs.2.2.2.1.1 = runG (E95c86io1001 n) noScope c95c86io1001 an95c86io1001 (rtIO rk95c86io1001 (pk95c86io1001.flatMap QK.ods)) (fun _ _ => none) (rtIO rk95c86io1001 (pk95c86io1001.flatMap QK.ods)) (st1 pk95c86io1001 xs Try.f95.ntmps) := by kernel_rfl
noncomputable def P95c86io1001 (n : Nat × Nat) := phioOf pk95c86io1001 rk95c86io1001 (pk95c86io1001.flatMap QK.ods) (fun xs => S95c86io1001 n xs.1 xs.2.1 xs.2.2.1 xs.2.2.2.1.1)
theorem call95 : CallOK Try.prog 95 := callOK_of Try.func95 (by kernel_rfl) (by kernel_rfl)
theorem env95c86io1001 (n : Nat × Nat) : EnvOK Try.prog (E95c86io1001 n) := envOK0 (consPhi_ok (FC86 n) call86 noPhi_ok) rfl rfl
theorem par95c86io1001 (n : Nat × Nat) : EnvPar (E95c86io1001 n) := envPar0 (consPhi_par phiOf_Par1 noPhi_par) rfl
theorem FC95c86io1001 (n : Nat × Nat) : FCios Try.prog 95 (pk95c86io1001.map QK.flag) (P95c86io1001 n) := phioOf_FCios fun xs r h vs hv => FCio.of_runG tabOK eqsOK (env95c86io1001 n) (par95c86io1001 n) mixed (fun _ => noScope_ok) Try.func95 (c := c95c86io1001) (an := an95c86io1001) (qks := pk95c86io1001) (rks := rk95c86io1001) (by kernel_rfl) (by kernel_rfl) hv ((S95c86io1001_run n xs).symm.trans h)
end Go.Proofs.Ytnlbhjmbaedadaa
set_option linter.unusedVariables false
set_option linter.unusedSimpArgs false
set_option maxRecDepth 100000
namespace Go.Proofs.Ytnlbhjmbaedadaa
open Go.Vi
/- slices.swapRangeCmpFunc[int] -/
abbrev R98c86io10001 := (Unit) × (List Int) × (List (Int × Int)) × Unit
noncomputable def c98c86io10001 : Code := bodyOf Try.f98
noncomputable def an98c86io10001 : Ann := (.s .l (.j [1000000000, 1000000001] (.j [0, 1, 2, 3, 10, 1000000000, 1000000001] (.s (.s .l (.j [0, 1, 2, 3, 10, 1000000000, 1000000001] .l .l)) (.s (.j [0, 1, 2, 3, 10, 1000000000, 1000000001] .l .l) .l)) .l) .l))
def pk98c86io10001 : List QK := [.oa (.int .i64), .pl (.c (.int .i64)), .pl (.c (.int .i64)), .pl (.c (.int .i64)), .of 86 [(.sl (.pair (.int .i64) (.int .i64)))]]
def rk98c86io10001 : List RK := []
noncomputable def rt98c86io10001 (st : St) : Option R98c86io10001 := rtIO rk98c86io10001 (pk98c86io10001.flatMap QK.ods) st
noncomputable def E98c86io10001 (n : Nat × Nat) : Env := { T := tab, phi := noPhi, eff := fun _ => false, fuel := n.1, hold := n.2 }
noncomputable def kc98c86io10001_1 (n : Nat × Nat) : St → Option R98c86io10001 := fun s => normC [1000000000, 1000000001] s rt98c86io10001
noncomputable def xb98c86io10001_2 (n : Nat × Nat) : Nat → St → Option R98c86io10001 := fun j s => bif Nat.beq j 0 then normC [1000000000, 1000000001] s rt98c86io10001 else (fun _ _ => none) j s
noncomputable def F98c86io10001_3 (n : Nat × Nat) : (St → Option R98c86io10001) → St → Option R98c86io10001 := fun K s => run (E98c86io10001 n) (cA (cA (cB c98c86io10001))) (Ann.fst (Ann.fst (Ann.snd an98c86io10001))) (fun s => normC [0, 1, 2, 3, 10, 1000000000, 1000000001] s K) (xb98c86io10001_2 n) rt98c86io10001 s
noncomputable def kq98c86io10001_4 (n : Nat × Nat) (m1 : Nat) : St → Option R98c86io10001 := run (E98c86io10001 n) (cB (cA (cA (cB c98c86io10001)))) (Ann.snd (Ann.fst (Ann.fst (Ann.snd an98c86io10001)))) (fun s => normC [0, 1, 2, 3, 10, 1000000000, 1000000001] s (loopN (F98c86io10001_3 n) m1)) (xb98c86io10001_2 n) rt98c86io10001
noncomputable def kc98c86io10001_5 (n : Nat × Nat) (m1 : Nat) : St → Option R98c86io10001 := fun s => normC [0, 1, 2, 3, 10, 1000000000, 1000000001] s (kq98c86io10001_4 n m1)
noncomputable def kq98c86io10001_6 (n : Nat × Nat) (m1 : Nat) : St → Option R98c86io10001 := run (E98c86io10001 n) (cB (cB (cA (cA (cB c98c86io10001))))) (Ann.snd (Ann.snd (Ann.fst (Ann.fst (Ann.snd an98c86io10001))))) (fun s => normC [0, 1, 2, 3, 10, 1000000000, 1000000001] s (loopN (F98c86io10001_3 n) m1)) (xb98c86io10001_2 n) rt98c86io10001
noncomputable def kc98c86io10001_7 (n : Nat × Nat) (m1 : Nat) : St → Option R98c86io10001 := fun s => normC [0, 1, 2, 3, 10, 1000000000, 1000000001] s (kq98c86io10001_6 n m1)
noncomputable def xb98c86io10001_8 (n : Nat × Nat) (m1 : Nat) : Nat → St → Option R98c86io10001 := fun j s => bif Nat.beq j 1 then normC [0, 1, 2, 3, 10, 1000000000, 1000000001] s (kq98c86io10001_6 n m1) else (xb98c86io10001_2 n) j s
noncomputable def L98c86io10001_1 (n : Nat × Nat) (m : Nat) (a1 : Int) (b2 : Int) (v3 : Int) (i10 : Int) (v1000000000 : List Int) (v1000000001 : List (Int × Int)) : Option R98c86io10001 := loopN (F98c86io10001_3 n) m { tm := [.own 1000000000 none false, .c (.int .i64 a1), .c (.int .i64 b2), .c (.int .i64 v3), uu, uu, uu, uu, uu, uu, .c (.int .i64 i10), uu, uu, uu, uu, uu, uu, uu, uu, uu, uu, uu, uu, uu, uu, uu, uu, uu, uu, uu, uu, uu, uu, uu, uu, uu, uu, uu], hp := (upd (upd emp 1000000001 (.box [.sl (.pair (.int .i64) (.int .i64)) v1000000001 false])) 1000000000 (.arr (.int .i64) v1000000000 false)) }
theorem L98c86io10001_1_eq (n : Nat × Nat) (m1 : Nat) (a1 : Int) (b2 : Int) (v3 : Int) (i10 : Int) (v1000000000 : List Int) (v1000000001 : List (Int × Int)) : L98c86io10001_1 n (m1 + 1) a1 b2 v3 i10 v1000000000 v1000000001 =
    (bif decide (i10 < v3) then (bif inB (wr .i64 (b2 + i10)) v1000000000.length then (idx v1000000000 (wr .i64 (b2 + i10))).bind fun x1' =>
        (bif inB (wr .i64 (a1 + i10)) v1000000000.length then (idx v1000000000 (wr .i64 (a1 + i10))).bind fun x2' =>
          (bif inB (wr .i64 (a1 + i10)) v1000000000.length then (idx v1000000000 (wr .i64 (a1 + i10))).bind fun x3' =>
            (bif inB (wr .i64 (b2 + i10)) (v1000000000.set (Int.toNat (wr .i64 (a1 + i10))) x1').length then (idx (v1000000000.set (Int.toNat (wr .i64 (a1 + i10))) x1') (wr .i64 (b2 + i10))).bind fun x4' =>
              L98c86io10001_1 n m1 a1 b2 v3 (wr .i64 (i10 + 1)) ((v1000000000.set (Int.toNat (wr .i64 (a1 + i10))) x1').set (Int.toNat (wr .i64 (b2 + i10))) x2') v1000000001
            else none)
          else none)
        else none)
      else none)
    else some ((), v1000000000, v1000000001, ())) := by kernel_rfl
noncomputable def S98c86io10001 (n : Nat × Nat) (data0 : List Int) (a1 : Int) (b2 : Int) (v3 : Int) (cp_4_0 : List (Int × Int)) : Option R98c86io10001 := run (E98c86io10001 n) c98c86io10001 an98c86io10001 rt98c86io10001 (fun _ _ => none) rt98c86io10001 { tm := [.own 1000000000 none false, .c (.int .i64 a1), .c (.int .i64 b2), .c (.int .i64 v3), .fn 86 [.ptr 1000000001 0], uu, uu, uu, uu, uu, uu, uu, uu, uu, uu, uu, uu, uu, uu, uu, uu, uu, uu, uu, uu, uu, uu, uu, uu, uu, uu, uu, uu, uu, uu, uu, uu, uu], hp := (upd (upd emp 1000000001 (.box [.sl (.pair (.int .i64) (.int .i64)) cp_4_0 false])) 1000000000 (.arr (.int .i64) data0 false)) }
theorem S98c86io10001_eq (n : Nat × Nat) (data0 : List Int) (a1 : Int) (b2 : Int) (v3 : Int) (cp_4_0 : List (Int × Int)) : S98c86io10001 n data0 a1 b2 v3 cp_4_0 =
    L98c86io10001_1 n n.1 a1 b2 v3 0 data0 cp_4_0 := by kernel_rfl
theorem S98c86io10001_run (n : Nat × Nat) (xs : qksDen pk98c86io10001) : S98c86io10001 n xs.1 xs.2.1 xs.2.2.1 xs.2.2.2.1 xs.2.2.2.2.1.1 = runG (E98c86io10001 n) noScope c98c86io10001 an98c86io10001 (rtIO rk98c86io10001 (pk98c86io10001.flatMap QK.ods)) (fun _ _ => none) (rtIO rk98c86io10001 (pk98c86io10001.flatMap QK.ods)) (st1 pk98c86io10001 xs Try.f98.ntmps) := by kernel_rfl
noncomputable def P98c86io10001 (n : Nat × Nat) := phioOf pk98c86io10001 rk98c86io10001 (pk98c86io10001.flatMap QK.ods) (fun xs => S98c86io10001 n xs.1 xs.2.1 xs.2.2.1 xs.2.2.2.1 xs.2.2.2.2.1.1)
theorem call98 : CallOK Try.prog 98 := callOK_of Try.func98 (by kernel_rfl) (by kernel_rfl)
theorem env98c86io10001 (n : Nat × Nat) : EnvOK Try.prog (E98c86io10001 n) := envOK0 noPhi_ok rfl rfl
theorem par98c86io10001 (n : Nat × Nat) : EnvPar (E98c86io10001 n) := envPar0 noPhi_par rfl
theorem FC98c86io10001 (n : Nat × Nat) : FCios Try.prog 98 (pk98c86io10001.map QK.flag) (P98c86io10001 n) := phioOf_FCios fun xs r h vs hv => FCio.of_runG tabOK eqsOK (env98c86io10001 n) (par98c86io10001 n) mixed (fun _ => noScope_ok) Try.func98 (c := c98c86io10001) (an := an98c86io10001) (qks := pk98c86io10001) (rks := rk98c86io10001) (by kernel_rfl) (by kernel_rfl) hv ((S98c86io10001_run n xs).symm.trans h)
end Go.Proofs.Ytnlbhjmbaedadaa
set_option linter.unusedVariables false
set_option linter.unusedSimpArgs false
set_option maxRecDepth 100000
namespace Go.Proofs.Ytnlbhjmbaedadaa
open Go.Vi
/- slices.rotateCmpFunc[int] -/
abbrev R97c86io10001 := (Unit) × (List Int) × (List (Int × Int)) × Unit
noncomputable def c97c86io10001 : Code := bodyOf Try.f97
noncomputable def an97c86io10001 : Ann := (.s .l (.s .l (.s (.j [0, 2, 4, 10, 1000000000, 1000000001] (.j [0, 2, 4, 10, 11, 1000000000, 1000000001] (.s (.s .l (.j [0, 2, 4, 10, 11, 1000000000, 1000000001] .l .l)) (.j [0, 2, 4, 10, 11, 1000000000, 1000000001] (.s .l (.j [0, 2, 4, 10, 11, 1000000000, 1000000001] .l .l)) .l)) .l) .l) .l)))
def pk97c86io10001 : List QK := [.oa (.int .i64), .pl (.c (.int .i64)), .pl (.c (.int .i64)), .pl (.c (.int .i64)), .of 86 [(.sl (.pair (.int .i64) (.int .i64)))]]
def rk97c86io10001 : List RK := []
noncomputable def rt97c86io10001 (st : St) : Option R97c86io10001 := rtIO rk97c86io10001 (pk97c86io10001.flatMap QK.ods) st
noncomputable def io97c86io10001 (n : Nat × Nat) : List IoE := [⟨98, (isFns [none, none, none, none, some 86]), pk98c86io10001.map QK.flag, P98c86io10001 n⟩]
noncomputable def E97c86io10001 (n : Nat × Nat) : Env := { T := tab, phi := noPhi, eff := fun _ => false, fuel := n.1, hold := n.2, phio := phioL (io97c86io10001 n), iop := iopL (io97c86io10001 n) }
noncomputable def kq97c86io10001_1 (n : Nat × Nat) : St → Option R97c86io10001 := run (E97c86io10001 n) (cB (cB (cB c97c86io10001))) (Ann.snd (Ann.snd (Ann.snd an97c86io10001))) rt97c86io10001 (fun _ _ => none) rt97c86io10001
noncomputable def kc97c86io10001_2 (n : Nat × Nat) : St → Option R97c86io10001 := fun s => normC [0, 2, 4, 10, 1000000000, 1000000001] s (kq97c86io10001_1 n)
noncomputable def xb97c86io10001_3 (n : Nat × Nat) : Nat → St → Option R97c86io10001 := fun j s => bif Nat.beq j 0 then normC [0, 2, 4, 10, 1000000000, 1000000001] s (kq97c86io10001_1 n) else (fun _ _ => none) j s
noncomputable def F97c86io10001_4 (n : Nat × Nat) : (St → Option R97c86io10001) → St → Option R97c86io10001 := fun K s => run (E97c86io10001 n) (cA (cA (cA (cB (cB c97c86io10001))))) (Ann.fst (Ann.fst (Ann.fst (Ann.snd (Ann.snd an97c86io10001))))) (fun s => normC [0, 2, 4, 10, 11, 1000000000, 1000000001] s K) (xb97c86io10001_3 n) rt97c86io10001 s
noncomputable def kq97c86io10001_5 (n : Nat × Nat) (m1 : Nat) : St → Option R97c86io10001 := run (E97c86io10001 n) (cB (cA (cA (cA (cB (cB c97c86io10001)))))) (Ann.snd (Ann.fst (Ann.fst (Ann.fst (Ann.snd (Ann.snd an97c86io10001)))))) (fun s => normC [0, 2, 4, 10, 11, 1000000000, 1000000001] s (loopN (F97c86io10001_4 n) m1)) (xb97c86io10001_3 n) rt97c86io10001
noncomputable def kc97c86io10001_6 (n : Nat × Nat) (m1 : Nat) : St → Option R97c86io10001 := fun s => normC [0, 2, 4, 10, 11, 1000000000, 1000000001] s (kq97c86io10001_5 n m1)
noncomputable def kc97c86io10001_7 (n : Nat × Nat) (m1 : Nat) : St → Option R97c86io10001 := fun s => normC [0, 2, 4, 10, 11, 1000000000, 1000000001] s (fun s => normC [0, 2, 4, 10, 11, 1000000000, 1000000001] s (loopN (F97c86io10001_4 n) m1))
noncomputable def xb97c86io10001_8 (n : Nat × Nat) (m1 : Nat) : Nat → St → Option R97c86io10001 := fun j s => bif Nat.beq j 1 then normC [0, 2, 4, 10, 11, 1000000000, 1000000001] s (fun s => normC [0, 2, 4, 10, 11, 1000000000, 1000000001] s (loopN (F97c86io10001_4 n) m1)) else (xb97c86io10001_3 n) j s
noncomputable def kc97c86io10001_9 (n : Nat × Nat) (m1 : Nat) : St → Option R97c86io10001 := fun s => normC [0, 2, 4, 10, 11, 1000000000, 1000000001] s (kc97c86io10001_7 n m1)
noncomputable def L97c86io10001_1 (n : Nat × Nat) (m : Nat) (m2 : Int) (i10 : Int) (j11 : Int) (v1000000000 : List Int) (v1000000001 : List (Int × Int)) : Option R97c86io10001 := loopN (F97c86io10001_4 n) m { tm := [.own 1000000000 none false, uu, .c (.int .i64 m2), uu, .fn 86 [.ptr 1000000001 0], uu, uu, uu, uu, uu, .c (.int .i64 i10), .c (.int .i64 j11), uu, uu, uu, uu, uu, uu, uu, uu, uu, uu, uu, uu, uu, uu, uu, uu, uu, uu, uu, uu, uu, uu, uu, uu, uu, uu, uu, uu, uu, uu, uu, uu, uu, uu, uu, uu, uu, uu, uu, uu, uu, uu, uu, uu, uu, uu], hp := (upd (upd emp 1000000001 (.box [.sl (.pair (.int .i64) (.int .i64)) v1000000001 false])) 1000000000 (.arr (.int .i64) v1000000000 false)) }
theorem L97c86io10001_1_eq (n : Nat × Nat) (m1 : Nat) (m2 : Int) (i10 : Int) (j11 : Int) (v1000000000 : List Int) (v1000000001 : List (Int × Int)) : L97c86io10001_1 n (m1 + 1) m2 i10 j11 v1000000000 v1000000001 =
    (bif (i10 != j11) then (bif decide (i10 > j11) then (S98c86io10001 n v1000000000 (wr .i64 (m2 - i10)) m2 j11 v1000000001).bind fun r1' =>
        (bif Nat.beq r1'.2.1.length v1000000000.length then L97c86io10001_1 n m1 m2 (wr .i64 (i10 - j11)) j11 r1'.2.1 r1'.2.2.1
        else none)
      else (S98c86io10001 n v1000000000 (wr .i64 (m2 - i10)) (wr .i64 ((wr .i64 (m2 + j11)) - i10)) i10 v1000000001).bind fun r2' =>
        (bif Nat.beq r2'.2.1.length v1000000000.length then L97c86io10001_1 n m1 m2 i10 (wr .i64 (j11 - i10)) r2'.2.1 r2'.2.2.1
        else none))
    else (S98c86io10001 n v1000000000 (wr .i64 (m2 - i10)) m2 i10 v1000000001).bind fun r3' =>
      (bif Nat.beq r3'.2.1.length v1000000000.length then some ((), r3'.2.1, r3'.2.2.1, ())
      else none)) := by kernel_rfl
noncomputable def S97c86io10001 (n : Nat × Nat) (data0 : List Int) (a1 : Int) (m2 : Int) (b3 : Int) (cp_4_0 : List (Int × Int)) : Option R97c86io10001 := run (E97c86io10001 n) c97c86io10001 an97c86io10001 rt97c86io10001 (fun _ _ => none) rt97c86io10001 { tm := [.own 1000000000 none false, .c (.int .i64 a1), .c (.int .i64 m2), .c (.int .i64 b3), .fn 86 [.ptr 1000000001 0], uu, uu, uu, uu, uu, uu, uu, uu, uu, uu, uu, uu, uu, uu, uu, uu, uu, uu, uu, uu, uu, uu, uu, uu, uu, uu, uu, uu, uu, uu, uu, uu, uu, uu, uu, uu, uu, uu, uu, uu, uu, uu, uu, uu, uu, uu, uu, uu, uu, uu, uu, uu, uu], hp := (upd (upd emp 1000000001 (.box [.sl (.pair (.int .i64) (.int .i64)) cp_4_0 false])) 1000000000 (.arr (.int .i64) data0 false)) }
theorem S97c86io10001_eq (n : Nat × Nat) (data0 : List Int) (a1 : Int) (m2 : Int) (b3 : Int) (cp_4_0 : List (Int × Int)) : S97c86io10001 n data0 a1 m2 b3 cp_4_0 =
    L97c86io10001_1 n n.1 m2 (wr .i64 (m2 - a1)) (wr .i64 (b3 - m2)) data0 cp_4_0 := by kernel_rfl
theorem S97c86io10001_run (n : Nat × Nat) (xs : qksDen pk97c86io10001) : S97c86io10001 n xs.1 xs.2.1 xs.2.2.1 xs.2.2.2.1 xs.2.2.2.2.1.1 = runG (E97c86io10001 n) noScope c97c86io10001 an97c86io10001 (rtIO rk97c86io10001 (pk97c86io10001.flatMap QK.ods)) (fun _ _ => none) (rtIO rk97c86io10001 (pk97c86io10001.flatMap QK.ods)) (st1 pk97c86io10001 xs Try.f97.ntmps) := by kernel_rfl
noncomputable def P97c86io10001 (n : Nat × Nat) := phioOf pk97c86io10001 rk97c86io10001 (pk97c86io10001.flatMap QK.ods) (fun xs => S97c86io10001 n xs.1 xs.2.1 xs.2.2.1 xs.2.2.2.1 xs.2.2.2.2.1.1)
theorem call97 : CallOK Try.prog 97 := callOK_of Try.func97 (by kernel_rfl) (by kernel_rfl)
theorem env97c86io10001 (n : Nat × Nat) : EnvOK Try.prog (E97c86io10001 n) := envOK (l := io97c86io10001 n) noPhi_ok rfl rfl (by kernel_rfl) ⟨FC98c86io10001 n, call98, trivial⟩
theorem par97c86io10001 (n : Nat × Nat) : EnvPar (E97c86io10001 n) := envPar (l := io97c86io10001 n) noPhi_par rfl ⟨phioOf_Pario1, trivial⟩
theorem FC97c86io10001 (n : Nat × Nat) : FCios Try.prog 97 (pk97c86io10001.map QK.flag) (P97c86io10001 n) := phioOf_FCios fun xs r h vs hv => FCio.of_runG tabOK eqsOK (env97c86io10001 n) (par97c86io10001 n) mixed (fun _ => noScope_ok) Try.func97 (c := c97c86io10001) (an := an97c86io10001) (qks := pk97c86io10001) (rks := rk97c86io10001) (by kernel_rfl) (by kernel_rfl) hv ((S97c86io10001_run n xs).symm.trans h)
end Go.Proofs.Ytnlbhjmbaedadaa
set_option linter.unusedVariables false
set_option linter.unusedSimpArgs false
set_option maxRecDepth 100000
namespace Go.Proofs.Ytnlbhjmbaedadaa
open Go.Vi
/- slices.symMergeCmpFunc[int] -/
abbrev R96c86io10001 := (Unit) × (List Int) × (List (Int × Int)) × Unit
noncomputable def c96c86io10001 : Code := bodyOf Try.f96
noncomputable def an96c86io10001 : Ann := (.s (.s .l (.j [0, 1, 2, 3, 4, 182, 183, 184, 196, 197, 198, 210, 211, 212, 1000000000, 1000000001] (.s .l (.s .l (.s (.j [0, 1, 10, 1000000000, 1000000001] (.j [0, 1, 4, 10, 11, 1000000000, 1000000001] (.s (.s .l (.j [0, 1, 4, 10, 11, 1000000000, 1000000001] .l .l)) (.j [0, 1, 4, 10, 11, 1000000000, 1000000001] (.s .l (.s .l (.j [0, 1, 4, 10, 11, 1000000000, 1000000001] .l .l))) .l)) .l) .l) (.s (.s .l (.j [1000000000, 1000000001] (.j [0, 10, 13, 1000000000, 1000000001] (.s (.s .l (.j [0, 10, 13, 1000000000, 1000000001] .l .l)) (.s (.j [0, 10, 13, 1000000000, 1000000001] .l .l) .l)) .l) .l)) .l)))) .l)) (.s (.s .l (.j [0, 1, 2, 3, 4, 182, 183, 184, 196, 197, 198, 210, 211, 212, 1000000000, 1000000001] (.s .l (.s .l (.s (.j [0, 2, 14, 1000000000, 1000000001] (.j [0, 2, 4, 14, 15, 1000000000, 1000000001] (.s (.s .l (.j [0, 2, 4, 14, 15, 1000000000, 1000000001] .l .l)) (.j [0, 2, 4, 14, 15, 1000000000, 1000000001] (.s .l (.s .l (.j [0, 2, 4, 14, 15, 1000000000, 1000000001] .l .l))) .l)) .l) .l) (.s (.s .l (.j [1000000000, 1000000001] (.j [0, 14, 17, 1000000000, 1000000001] (.s (.s .l (.j [0, 14, 17, 1000000000, 1000000001] .l .l)) (.s (.j [0, 14, 17, 1000000000, 1000000001] .l .l) .l)) .l) .l)) .l)))) .l)) (.s .l (.s .l (.s .l (.s (.s .l (.j [0, 1, 2, 3, 4, 18, 19, 20, 21, 182, 183, 184, 196, 197, 198, 210, 211, 212, 1000000000, 1000000001] .l .l)) (.s .l (.s (.j [0, 1, 2, 3, 4, 18, 19, 20, 182, 183, 184, 196, 197, 198, 210, 211, 212, 1000000000, 1000000001] (.j [0, 1, 2, 3, 4, 18, 19, 20, 21, 22, 182, 183, 184, 196, 197, 198, 210, 211, 212, 1000000000, 1000000001] (.s (.s .l (.j [0, 1, 2, 3, 4, 18, 19, 20, 21, 22, 182, 183, 184, 196, 197, 198, 210, 211, 212, 1000000000, 1000000001] .l .l)) (.j [0, 1, 2, 3, 4, 18, 19, 20, 21, 22, 182, 183, 184, 196, 197, 198, 210, 211, 212, 1000000000, 1000000001] (.s .l (.s .l (.j [0, 1, 2, 3, 4, 18, 19, 20, 21, 22, 182, 183, 184, 196, 197, 198, 210, 211, 212, 1000000000, 1000000001] .l .l))) .l)) .l) .l) (.s .l (.s (.s .l (.j [0, 1, 3, 4, 18, 20, 24, 196, 197, 198, 210, 211, 212, 1000000000, 1000000001] .l .l)) (.s (.s .l (.j [0, 3, 4, 18, 24, 210, 211, 212, 1000000000, 1000000001] .l .l)) (.s .l (.j [1000000000, 1000000001] .l .l)))))))))))))
def pk96c86io10001 : List QK := [.oa (.int .i64), .pl (.c (.int .i64)), .pl (.c (.int .i64)), .pl (.c (.int .i64)), .of 86 [(.sl (.pair (.int .i64) (.int .i64)))]]
def rk96c86io10001 : List RK := []
noncomputable def rt96c86io10001 (st : St) : Option R96c86io10001 := rtIO rk96c86io10001 (pk96c86io10001.flatMap QK.ods) st
noncomputable def io96c86io10001 (n : Nat × Nat) (SS : List Int → Int → Int → Int → (List (Int × Int)) → Option R96c86io10001) : List IoE := [⟨97, (isFns [none, none, none, none, some 86]), pk97c86io10001.map QK.flag, P97c86io10001 n⟩, ⟨96, (fun _ => true), pk96c86io10001.map QK.flag, (phioOf pk96c86io10001 rk96c86io10001 (pk96c86io10001.flatMap QK.ods) (fun xs => SS xs.1 xs.2.1 xs.2.2.1 xs.2.2.2.1 xs.2.2.2.2.1.1))⟩]
noncomputable def E96c86io10001 (n : Nat × Nat) (SS : List Int → Int → Int → Int → (List (Int × Int)) → Option R96c86io10001) : Env := { T := tab, phi := (consPhi 86 (fun _ => true) (P86 n) noPhi), eff := fun _ => false, fuel := n.1, hold := n.2, phio := phioL (io96c86io10001 n SS), iop := iopL (io96c86io10001 n SS), pcl := [40, 92, 158] }
noncomputable def kq96c86io10001_1 (n : Nat × Nat) (SS : List Int → Int → Int → Int → (List (Int × Int)) → Option R96c86io10001) : St → Option R96c86io10001 := run (E96c86io10001 n SS) (cB c96c86io10001) (Ann.snd an96c86io10001) rt96c86io10001 (fun _ _ => none) rt96c86io10001
noncomputable def kc96c86io10001_2 (n : Nat × Nat) (SS : List Int → Int → Int → Int → (List (Int × Int)) → Option R96c86io10001) : St → Option R96c86io10001 := fun s => normC [0, 1, 2, 3, 4, 182, 183, 184, 196, 197, 198, 210, 211, 212, 1000000000, 1000000001] s (kq96c86io10001_1 n SS)
noncomputable def kq96c86io10001_3 (n : Nat × Nat) (SS : List Int → Int → Int → Int → (List (Int × Int)) → Option R96c86io10001) : St → Option R96c86io10001 := run (E96c86io10001 n SS) (cB (cB (cB (cA (cB (cA c96c86io10001)))))) (Ann.snd (Ann.snd (Ann.snd (Ann.fst (Ann.snd (Ann.fst an96c86io10001)))))) (kc96c86io10001_2 n SS) (fun _ _ => none) rt96c86io10001
noncomputable def kc96c86io10001_4 (n : Nat × Nat) (SS : List Int → Int → Int → Int → (List (Int × Int)) → Option R96c86io10001) : St → Option R96c86io10001 := fun s => normC [0, 1, 10, 1000000000, 1000000001] s (kq96c86io10001_3 n SS)
noncomputable def xb96c86io10001_5 (n : Nat × Nat) (SS : List Int → Int → Int → Int → (List (Int × Int)) → Option R96c86io10001) : Nat → St → Option R96c86io10001 := fun j s => bif Nat.beq j 0 then normC [0, 1, 10, 1000000000, 1000000001] s (kq96c86io10001_3 n SS) else (fun _ _ => none) j s
noncomputable def F96c86io10001_6 (n : Nat × Nat) (SS : List Int → Int → Int → Int → (List (Int × Int)) → Option R96c86io10001) : (St → Option R96c86io10001) → St → Option R96c86io10001 := fun K s => run (E96c86io10001 n SS) (cA (cA (cA (cB (cB (cA (cB (cA c96c86io10001)))))))) (Ann.fst (Ann.fst (Ann.fst (Ann.snd (Ann.snd (Ann.fst (Ann.snd (Ann.fst an96c86io10001)))))))) (fun s => normC [0, 1, 4, 10, 11, 1000000000, 1000000001] s K) (xb96c86io10001_5 n SS) rt96c86io10001 s
noncomputable def kq96c86io10001_7 (n : Nat × Nat) (SS : List Int → Int → Int → Int → (List (Int × Int)) → Option R96c86io10001) : St → Option R96c86io10001 := run (E96c86io10001 n SS) (cB (cB c96c86io10001)) (Ann.snd (Ann.snd an96c86io10001)) rt96c86io10001 (fun _ _ => none) rt96c86io10001
noncomputable def kc96c86io10001_8 (n : Nat × Nat) (SS : List Int → Int → Int → Int → (List (Int × Int)) → Option R96c86io10001) : St → Option R96c86io10001 := fun s => normC [0, 1, 2, 3, 4, 182, 183, 184, 196, 197, 198, 210, 211, 212, 1000000000, 1000000001] s (kq96c86io10001_7 n SS)
noncomputable def kq96c86io10001_9 (n : Nat × Nat) (SS : List Int → Int → Int → Int → (List (Int × Int)) → Option R96c86io10001) : St → Option R96c86io10001 := run (E96c86io10001 n SS) (cB (cB (cB (cA (cB (cA (cB c96c86io10001))))))) (Ann.snd (Ann.snd (Ann.snd (Ann.fst (Ann.snd (Ann.fst (Ann.snd an96c86io10001))))))) (kc96c86io10001_8 n SS) (fun _ _ => none) rt96c86io10001
noncomputable def kc96c86io10001_10 (n : Nat × Nat) (SS : List Int → Int → Int → Int → (List (Int × Int)) → Option R96c86io10001) : St → Option R96c86io10001 := fun s => normC [0, 2, 14, 1000000000, 1000000001] s (kq96c86io10001_9 n SS)
noncomputable def xb96c86io10001_11 (n : Nat × Nat) (SS : List Int → Int → Int → Int → (List (Int × Int)) → Option R96c86io10001) : Nat → St → Option R96c86io10001 := fun j s => bif Nat.beq j 4 then normC [0, 2, 14, 1000000000, 1000000001] s (kq96c86io10001_9 n SS) else (fun _ _ => none) j s
noncomputable def F96c86io10001_12 (n : Nat × Nat) (SS : List Int → Int → Int → Int → (List (Int × Int)) → Option R96c86io10001) : (St → Option R96c86io10001) → St → Option R96c86io10001 := fun K s => run (E96c86io10001 n SS) (cA (cA (cA (cB (cB (cA (cB (cA (cB c96c86io10001))))))))) (Ann.fst (Ann.fst (Ann.fst (Ann.snd (Ann.snd (Ann.fst (Ann.snd (Ann.fst (Ann.snd an96c86io10001))))))))) (fun s => normC [0, 2, 4, 14, 15, 1000000000, 1000000001] s K) (xb96c86io10001_11 n SS) rt96c86io10001 s
noncomputable def kq96c86io10001_13 (n : Nat × Nat) (SS : List Int → Int → Int → Int → (List (Int × Int)) → Option R96c86io10001) : St → Option R96c86io10001 := run (E96c86io10001 n SS) (cB (cB (cB (cB (cB (cB c96c86io10001)))))) (Ann.snd (Ann.snd (Ann.snd (Ann.snd (Ann.snd (Ann.snd an96c86io10001)))))) rt96c86io10001 (fun _ _ => none) rt96c86io10001
noncomputable def kc96c86io10001_14 (n : Nat × Nat) (SS : List Int → Int → Int → Int → (List (Int × Int)) → Option R96c86io10001) : St → Option R96c86io10001 := fun s => normC [0, 1, 2, 3, 4, 18, 19, 20, 21, 182, 183, 184, 196, 197, 198, 210, 211, 212, 1000000000, 1000000001] s (kq96c86io10001_13 n SS)
noncomputable def kq96c86io10001_15 (n : Nat × Nat) (SS : List Int → Int → Int → Int → (List (Int × Int)) → Option R96c86io10001) : St → Option R96c86io10001 := run (E96c86io10001 n SS) (cB (cB (cB (cB (cB (cB (cB (cB c96c86io10001)))))))) (Ann.snd (Ann.snd (Ann.snd (Ann.snd (Ann.snd (Ann.snd (Ann.snd (Ann.snd an96c86io10001)))))))) rt96c86io10001 (fun _ _ => none) rt96c86io10001
noncomputable def kc96c86io10001_16 (n : Nat × Nat) (SS : List Int → Int → Int → Int → (List (Int × Int)) → Option R96c86io10001) : St → Option R96c86io10001 := fun s => normC [0, 1, 2, 3, 4, 18, 19, 20, 182, 183, 184, 196, 197, 198, 210, 211, 212, 1000000000, 1000000001] s (kq96c86io10001_15 n SS)
noncomputable def xb96c86io10001_17 (n : Nat × Nat) (SS : List Int → Int → Int → Int → (List (Int × Int)) → Option R96c86io10001) : Nat → St → Option R96c86io10001 := fun j s => bif Nat.beq j 8 then normC [0, 1, 2, 3, 4, 18, 19, 20, 182, 183, 184, 196, 197, 198, 210, 211, 212, 1000000000, 1000000001] s (kq96c86io10001_15 n SS) else (fun _ _ => none) j s
noncomputable def F96c86io10001_18 (n : Nat × Nat) (SS : List Int → Int → Int → Int → (List (Int × Int)) → Option R96c86io10001) : (St → Option R96c86io10001) → St → Option R96c86io10001 := fun K s => run (E96c86io10001 n SS) (cA (cA (cA (cB (cB (cB (cB (cB (cB (cB c96c86io10001)))))))))) (Ann.fst (Ann.fst (Ann.fst (Ann.snd (Ann.snd (Ann.snd (Ann.snd (Ann.snd (Ann.snd (Ann.snd an96c86io10001)))))))))) (fun s => normC [0, 1, 2, 3, 4, 18, 19, 20, 21, 22, 182, 183, 184, 196, 197, 198, 210, 211, 212, 1000000000, 1000000001] s K) (xb96c86io10001_17 n SS) rt96c86io10001 s
noncomputable def kq96c86io10001_19 (n : Nat × Nat) (SS : List Int → Int → Int → Int → (List (Int × Int)) → Option R96c86io10001) (m1 : Nat) : St → Option R96c86io10001 := run (E96c86io10001 n SS) (cB (cA (cA (cA (cB (cB (cA (cB (cA c96c86io10001))))))))) (Ann.snd (Ann.fst (Ann.fst (Ann.fst (Ann.snd (Ann.snd (Ann.fst (Ann.snd (Ann.fst an96c86io10001))))))))) (fun s => normC [0, 1, 4, 10, 11, 1000000000, 1000000001] s (loopN (F96c86io10001_6 n SS) m1)) (xb96c86io10001_5 n SS) rt96c86io10001
noncomputable def kc96c86io10001_20 (n : Nat × Nat) (SS : List Int → Int → Int → Int → (List (Int × Int)) → Option R96c86io10001) (m1 : Nat) : St → Option R96c86io10001 := fun s => normC [0, 1, 4, 10, 11, 1000000000, 1000000001] s (kq96c86io10001_19 n SS m1)
noncomputable def kc96c86io10001_21 (n : Nat × Nat) (SS : List Int → Int → Int → Int → (List (Int × Int)) → Option R96c86io10001) (m1 : Nat) : St → Option R96c86io10001 := fun s => normC [0, 1, 4, 10, 11, 1000000000, 1000000001] s (fun s => normC [0, 1, 4, 10, 11, 1000000000, 1000000001] s (loopN (F96c86io10001_6 n SS) m1))
noncomputable def xb96c86io10001_22 (n : Nat × Nat) (SS : List Int → Int → Int → Int → (List (Int × Int)) → Option R96c86io10001) (m1 : Nat) : Nat → St → Option R96c86io10001 := fun j s => bif Nat.beq j 1 then normC [0, 1, 4, 10, 11, 1000000000, 1000000001] s (fun s => normC [0, 1, 4, 10, 11, 1000000000, 1000000001] s (loopN (F96c86io10001_6 n SS) m1)) else (xb96c86io10001_5 n SS) j s
noncomputable def kc96c86io10001_23 (n : Nat × Nat) (SS : List Int → Int → Int → Int → (List (Int × Int)) → Option R96c86io10001) (m1 : Nat) : St → Option R96c86io10001 := fun s => normC [0, 1, 4, 10, 11, 1000000000, 1000000001] s (kc96c86io10001_21 n SS m1)
noncomputable def kq96c86io10001_24 (n : Nat × Nat) (SS : List Int → Int → Int → Int → (List (Int × Int)) → Option R96c86io10001) : St → Option R96c86io10001 := run (E96c86io10001 n SS) (cB (cB (cB (cB (cA (cB (cA c96c86io10001))))))) (Ann.snd (Ann.snd (Ann.snd (Ann.snd (Ann.fst (Ann.snd (Ann.fst an96c86io10001))))))) (kc96c86io10001_2 n SS) (fun _ _ => none) rt96c86io10001
noncomputable def kc96c86io10001_25 (n : Nat × Nat) (SS : List Int → Int → Int → Int → (List (Int × Int)) → Option R96c86io10001) : St → Option R96c86io10001 := fun s => normC [1000000000, 1000000001] s (kq96c86io10001_24 n SS)
noncomputable def xb96c86io10001_26 (n : Nat × Nat) (SS : List Int → Int → Int → Int → (List (Int × Int)) → Option R96c86io10001) : Nat → St → Option R96c86io10001 := fun j s => bif Nat.beq j 2 then normC [1000000000, 1000000001] s (kq96c86io10001_24 n SS) else (fun _ _ => none) j s
noncomputable def F96c86io10001_27 (n : Nat × Nat) (SS : List Int → Int → Int → Int → (List (Int × Int)) → Option R96c86io10001) : (St → Option R96c86io10001) → St → Option R96c86io10001 := fun K s => run (E96c86io10001 n SS) (cA (cA (cB (cA (cB (cB (cB (cA (cB (cA c96c86io10001)))))))))) (Ann.fst (Ann.fst (Ann.snd (Ann.fst (Ann.snd (Ann.snd (Ann.snd (Ann.fst (Ann.snd (Ann.fst an96c86io10001)))))))))) (fun s => normC [0, 10, 13, 1000000000, 1000000001] s K) (xb96c86io10001_26 n SS) rt96c86io10001 s
noncomputable def kq96c86io10001_28 (n : Nat × Nat) (SS : List Int → Int → Int → Int → (List (Int × Int)) → Option R96c86io10001) (m1 : Nat) : St → Option R96c86io10001 := run (E96c86io10001 n SS) (cB (cA (cA (cA (cB (cB (cA (cB (cA (cB c96c86io10001)))))))))) (Ann.snd (Ann.fst (Ann.fst (Ann.fst (Ann.snd (Ann.snd (Ann.fst (Ann.snd (Ann.fst (Ann.snd an96c86io10001)))))))))) (fun s => normC [0, 2, 4, 14, 15, 1000000000, 1000000001] s (loopN (F96c86io10001_12 n SS) m1)) (xb96c86io10001_11 n SS) rt96c86io10001
noncomputable def kc96c86io10001_29 (n : Nat × Nat) (SS : List Int → Int → Int → Int → (List (Int × Int)) → Option R96c86io10001) (m1 : Nat) : St → Option R96c86io10001 := fun s => normC [0, 2, 4, 14, 15, 1000000000, 1000000001] s (kq96c86io10001_28 n SS m1)
noncomputable def kc96c86io10001_30 (n : Nat × Nat) (SS : List Int → Int → Int → Int → (List (Int × Int)) → Option R96c86io10001) (m1 : Nat) : St → Option R96c86io10001 := fun s => normC [0, 2, 4, 14, 15, 1000000000, 1000000001] s (fun s => normC [0, 2, 4, 14, 15, 1000000000, 1000000001] s (loopN (F96c86io10001_12 n SS) m1))
noncomputable def xb96c86io10001_31 (n : Nat × Nat) (SS : List Int → Int → Int → Int → (List (Int × Int)) → Option R96c86io10001) (m1 : Nat) : Nat → St → Option R96c86io10001 := fun j s => bif Nat.beq j 5 then normC [0, 2, 4, 14, 15, 1000000000, 1000000001] s (fun s => normC [0, 2, 4, 14, 15, 1000000000, 1000000001] s (loopN (F96c86io10001_12 n SS) m1)) else (xb96c86io10001_11 n SS) j s
noncomputable def kc96c86io10001_32 (n : Nat × Nat) (SS : List Int → Int → Int → Int → (List (Int × Int)) → Option R96c86io10001) (m1 : Nat) : St → Option R96c86io10001 := fun s => normC [0, 2, 4, 14, 15, 1000000000, 1000000001] s (kc96c86io10001_30 n SS m1)
noncomputable def kq96c86io10001_33 (n : Nat × Nat) (SS : List Int → Int → Int → Int → (List (Int × Int)) → Option R96c86io10001) : St → Option R96c86io10001 := run (E96c86io10001 n SS) (cB (cB (cB (cB (cA (cB (cA (cB c96c86io10001)))))))) (Ann.snd (Ann.snd (Ann.snd (Ann.snd (Ann.fst (Ann.snd (Ann.fst (Ann.snd an96c86io10001)))))))) (kc96c86io10001_8 n SS) (fun _ _ => none) rt96c86io10001
noncomputable def kc96c86io10001_34 (n : Nat × Nat) (SS : List Int → Int → Int → Int → (List (Int × Int)) → Option R96c86io10001) : St → Option R96c86io10001 := fun s => normC [1000000000, 1000000001] s (kq96c86io10001_33 n SS)
noncomputable def xb96c86io10001_35 (n : Nat × Nat) (SS : List Int → Int → Int → Int → (List (Int × Int)) → Option R96c86io10001) : Nat → St → Option R96c86io10001 := fun j s => bif Nat.beq j 6 then normC [1000000000, 1000000001] s (kq96c86io10001_33 n SS) else (fun _ _ => none) j s
noncomputable def F96c86io10001_36 (n : Nat × Nat) (SS : List Int → Int → Int → Int → (List (Int × Int)) → Option R96c86io10001) : (St → Option R96c86io10001) → St → Option R96c86io10001 := fun K s => run (E96c86io10001 n SS) (cA (cA (cB (cA (cB (cB (cB (cA (cB (cA (cB c96c86io10001))))))))))) (Ann.fst (Ann.fst (Ann.snd (Ann.fst (Ann.snd (Ann.snd (Ann.snd (Ann.fst (Ann.snd (Ann.fst (Ann.snd an96c86io10001))))))))))) (fun s => normC [0, 14, 17, 1000000000, 1000000001] s K) (xb96c86io10001_35 n SS) rt96c86io10001 s
noncomputable def kq96c86io10001_37 (n : Nat × Nat) (SS : List Int → Int → Int → Int → (List (Int × Int)) → Option R96c86io10001) (m1 : Nat) : St → Option R96c86io10001 := run (E96c86io10001 n SS) (cB (cA (cA (cA (cB (cB (cB (cB (cB (cB (cB c96c86io10001))))))))))) (Ann.snd (Ann.fst (Ann.fst (Ann.fst (Ann.snd (Ann.snd (Ann.snd (Ann.snd (Ann.snd (Ann.snd (Ann.snd an96c86io10001))))))))))) (fun s => normC [0, 1, 2, 3, 4, 18, 19, 20, 21, 22, 182, 183, 184, 196, 197, 198, 210, 211, 212, 1000000000, 1000000001] s (loopN (F96c86io10001_18 n SS) m1)) (xb96c86io10001_17 n SS) rt96c86io10001
noncomputable def kc96c86io10001_38 (n : Nat × Nat) (SS : List Int → Int → Int → Int → (List (Int × Int)) → Option R96c86io10001) (m1 : Nat) : St → Option R96c86io10001 := fun s => normC [0, 1, 2, 3, 4, 18, 19, 20, 21, 22, 182, 183, 184, 196, 197, 198, 210, 211, 212, 1000000000, 1000000001] s (kq96c86io10001_37 n SS m1)
noncomputable def kc96c86io10001_39 (n : Nat × Nat) (SS : List Int → Int → Int → Int → (List (Int × Int)) → Option R96c86io10001) (m1 : Nat) : St → Option R96c86io10001 := fun s => normC [0, 1, 2, 3, 4, 18, 19, 20, 21, 22, 182, 183, 184, 196, 197, 198, 210, 211, 212, 1000000000, 1000000001] s (fun s => normC [0, 1, 2, 3, 4, 18, 19, 20, 21, 22, 182, 183, 184, 196, 197, 198, 210, 211, 212, 1000000000, 1000000001] s (loopN (F96c86io10001_18 n SS) m1))
noncomputable def xb96c86io10001_40 (n : Nat × Nat) (SS : List Int → Int → Int → Int → (List (Int × Int)) → Option R96c86io10001) (m1 : Nat) : Nat → St → Option R96c86io10001 := fun j s => bif Nat.beq j 9 then normC [0, 1, 2, 3, 4, 18, 19, 20, 21, 22, 182, 183, 184, 196, 197, 198, 210, 211, 212, 1000000000, 1000000001] s (fun s => normC [0, 1, 2, 3, 4, 18, 19, 20, 21, 22, 182, 183, 184, 196, 197, 198, 210, 211, 212, 1000000000, 1000000001] s (loopN (F96c86io10001_18 n SS) m1)) else (xb96c86io10001_17 n SS) j s
noncomputable def kc96c86io10001_41 (n : Nat × Nat) (SS : List Int → Int → Int → Int → (List (Int × Int)) → Option R96c86io10001) (m1 : Nat) : St → Option R96c86io10001 := fun s => normC [0, 1, 2, 3, 4, 18, 19, 20, 21, 22, 182, 183, 184, 196, 197, 198, 210, 211, 212, 1000000000, 1000000001] s (kc96c86io10001_39 n SS m1)
noncomputable def kq96c86io10001_42 (n : Nat × Nat) (SS : List Int → Int → Int → Int → (List (Int × Int)) → Option R96c86io10001) : St → Option R96c86io10001 := run (E96c86io10001 n SS) (cB (cB (cB (cB (cB (cB (cB (cB (cB (cB c96c86io10001)))))))))) (Ann.snd (Ann.snd (Ann.snd (Ann.snd (Ann.snd (Ann.snd (Ann.snd (Ann.snd (Ann.snd (Ann.snd an96c86io10001)))))))))) rt96c86io10001 (fun _ _ => none) rt96c86io10001
noncomputable def kc96c86io10001_43 (n : Nat × Nat) (SS : List Int → Int → Int → Int → (List (Int × Int)) → Option R96c86io10001) : St → Option R96c86io10001 := fun s => normC [0, 1, 3, 4, 18, 20, 24, 196, 197, 198, 210, 211, 212, 1000000000, 1000000001] s (kq96c86io10001_42 n SS)
noncomputable def kq96c86io10001_44 (n : Nat × Nat) (SS : List Int → Int → Int → Int → (List (Int × Int)) → Option R96c86io10001) : St → Option R96c86io10001 := run (E96c86io10001 n SS) (cB (cB (cB (cB (cB (cB (cB (cB (cB (cB (cB c96c86io10001))))))))))) (Ann.snd (Ann.snd (Ann.snd (Ann.snd (Ann.snd (Ann.snd (Ann.snd (Ann.snd (Ann.snd (Ann.snd (Ann.snd an96c86io10001))))))))))) rt96c86io10001 (fun _ _ => none) rt96c86io10001
noncomputable def kc96c86io10001_45 (n : Nat × Nat) (SS : List Int → Int → Int → Int → (List (Int × Int)) → Option R96c86io10001) : St → Option R96c86io10001 := fun s => normC [0, 3, 4, 18, 24, 210, 211, 212, 1000000000, 1000000001] s (kq96c86io10001_44 n SS)
noncomputable def kc96c86io10001_46 (n : Nat × Nat) (SS : List Int → Int → Int → Int → (List (Int × Int)) → Option R96c86io10001) : St → Option R96c86io10001 := fun s => normC [1000000000, 1000000001] s rt96c86io10001
noncomputable def kq96c86io10001_47 (n : Nat × Nat) (SS : List Int → Int → Int → Int → (List (Int × Int)) → Option R96c86io10001) (m1 : Nat) : St → Option R96c86io10001 := run (E96c86io10001 n SS) (cB (cA (cA (cB (cA (cB (cB (cB (cA (cB (cA c96c86io10001))))))))))) (Ann.snd (Ann.fst (Ann.fst (Ann.snd (Ann.fst (Ann.snd (Ann.snd (Ann.snd (Ann.fst (Ann.snd (Ann.fst an96c86io10001))))))))))) (fun s => normC [0, 10, 13, 1000000000, 1000000001] s (loopN (F96c86io10001_27 n SS) m1)) (xb96c86io10001_26 n SS) rt96c86io10001
noncomputable def kc96c86io10001_48 (n : Nat × Nat) (SS : List Int → Int → Int → Int → (List (Int × Int)) → Option R96c86io10001) (m1 : Nat) : St → Option R96c86io10001 := fun s => normC [0, 10, 13, 1000000000, 1000000001] s (kq96c86io10001_47 n SS m1)
noncomputable def kq96c86io10001_49 (n : Nat × Nat) (SS : List Int → Int → Int → Int → (List (Int × Int)) → Option R96c86io10001) (m1 : Nat) : St → Option R96c86io10001 := run (E96c86io10001 n SS) (cB (cB (cA (cA (cB (cA (cB (cB (cB (cA (cB (cA c96c86io10001)))))))))))) (Ann.snd (Ann.snd (Ann.fst (Ann.fst (Ann.snd (Ann.fst (Ann.snd (Ann.snd (Ann.snd (Ann.fst (Ann.snd (Ann.fst an96c86io10001)))))))))))) (fun s => normC [0, 10, 13, 1000000000, 1000000001] s (loopN (F96c86io10001_27 n SS) m1)) (xb96c86io10001_26 n SS) rt96c86io10001
noncomputable def kc96c86io10001_50 (n : Nat × Nat) (SS : List Int → Int → Int → Int → (List (Int × Int)) → Option R96c86io10001) (m1 : Nat) : St → Option R96c86io10001 := fun s => normC [0, 10, 13, 1000000000, 1000000001] s (kq96c86io10001_49 n SS m1)
noncomputable def xb96c86io10001_51 (n : Nat × Nat) (SS : List Int → Int → Int → Int → (List (Int × Int)) → Option R96c86io10001) (m1 : Nat) : Nat → St → Option R96c86io10001 := fun j s => bif Nat.beq j 3 then normC [0, 10, 13, 1000000000, 1000000001] s (kq96c86io10001_49 n SS m1) else (xb96c86io10001_26 n SS) j s
noncomputable def kq96c86io10001_52 (n : Nat × Nat) (SS : List Int → Int → Int → Int → (List (Int × Int)) → Option R96c86io10001) (m1 : Nat) : St → Option R96c86io10001 := run (E96c86io10001 n SS) (cB (cA (cA (cB (cA (cB (cB (cB (cA (cB (cA (cB c96c86io10001)))))))))))) (Ann.snd (Ann.fst (Ann.fst (Ann.snd (Ann.fst (Ann.snd (Ann.snd (Ann.snd (Ann.fst (Ann.snd (Ann.fst (Ann.snd an96c86io10001)))))))))))) (fun s => normC [0, 14, 17, 1000000000, 1000000001] s (loopN (F96c86io10001_36 n SS) m1)) (xb96c86io10001_35 n SS) rt96c86io10001
noncomputable def kc96c86io10001_53 (n : Nat × Nat) (SS : List Int → Int → Int → Int → (List (Int × Int)) → Option R96c86io10001) (m1 : Nat) : St → Option R96c86io10001 := fun s => normC [0, 14, 17, 1000000000, 1000000001] s (kq96c86io10001_52 n SS m1)
noncomputable def kq96c86io10001_54 (n : Nat × Nat) (SS : List Int → Int → Int → Int → (List (Int × Int)) → Option R96c86io10001) (m1 : Nat) : St → Option R96c86io10001 := run (E96c86io10001 n SS) (cB (cB (cA (cA (cB (cA (cB (cB (cB (cA (cB (cA (cB c96c86io10001))))))))))))) (Ann.snd (Ann.snd (Ann.fst (Ann.fst (Ann.snd (Ann.fst (Ann.snd (Ann.snd (Ann.snd (Ann.fst (Ann.snd (Ann.fst (Ann.snd an96c86io10001))))))))))))) (fun s => normC [0, 14, 17, 1000000000, 1000000001] s (loopN (F96c86io10001_36 n SS) m1)) (xb96c86io10001_35 n SS) rt96c86io10001
noncomputable def kc96c86io10001_55 (n : Nat × Nat) (SS : List Int → Int → Int → Int → (List (Int × Int)) → Option R96c86io10001) (m1 : Nat) : St → Option R96c86io10001 := fun s => normC [0, 14, 17, 1000000000, 1000000001] s (kq96c86io10001_54 n SS m1)
noncomputable def xb96c86io10001_56 (n : Nat × Nat) (SS : List Int → Int → Int → Int → (List (Int × Int)) → Option R96c86io10001) (m1 : Nat) : Nat → St → Option R96c86io10001 := fun j s => bif Nat.beq j 7 then normC [0, 14, 17, 1000000000, 1000000001] s (kq96c86io10001_54 n SS m1) else (xb96c86io10001_35 n SS) j s
noncomputable def L96c86io10001_1 (n : Nat × Nat) (SS : List Int → Int → Int → Int → (List (Int × Int)) → Option R96c86io10001) (m : Nat) (a1 : Int) (i10 : Int) (j11 : Int) (v1000000000 : List Int) (v1000000001 : List (Int × Int)) : Option R96c86io10001 := loopN (F96c86io10001_6 n SS) m { tm := [.own 1000000000 none false, .c (.int .i64 a1), uu, uu, .fn 86 [.ptr 1000000001 0], uu, uu, uu, uu, uu, .c (.int .i64 i10), .c (.int .i64 j11), uu, uu, uu, uu, uu, uu, uu, uu, uu, uu, uu, uu, uu, uu, uu, uu, uu, uu, uu, uu, uu, uu, uu, uu, uu, uu, uu, uu, uu, uu, uu, uu, uu, uu, uu, uu, uu, uu, uu, uu, uu, uu, uu, uu, uu, uu, uu, uu, uu, uu, uu, uu, uu, uu, uu, uu, uu, uu, uu, uu, uu, uu, uu, uu, uu, uu, uu, uu, uu, uu, uu, uu, uu, uu, uu, uu, uu, uu, uu, uu, uu, uu, uu, uu, uu, uu, uu, uu, uu, uu, uu, uu, uu, uu, uu, uu, uu, uu, uu, uu, uu, uu, uu, uu, uu, uu, uu, uu, uu, uu, uu, uu, uu, uu, uu, uu, uu, uu, uu, uu, uu, uu, uu, uu, uu, uu, uu, uu, uu, uu, uu, uu, uu, uu, uu, uu, uu, uu, uu, uu, uu, uu, uu, uu, uu, uu, uu, uu, uu, uu, uu, uu, uu, uu, uu, uu, uu, uu, uu, uu, uu, uu, uu, uu, uu, uu, uu, uu, uu, uu, uu, uu, uu, uu, uu, uu, uu, uu, uu, uu, uu, uu, uu, uu, uu, uu, uu, uu, uu, uu, uu, uu, uu, uu, uu, uu, uu, uu, uu, uu, uu, uu, uu, uu, uu, uu, uu, uu], hp := (upd (upd emp 1000000001 (.box [.sl (.pair (.int .i64) (.int .i64)) v1000000001 false])) 1000000000 (.arr (.int .i64) v1000000000 false)) }
noncomputable def L96c86io10001_2 (n : Nat × Nat) (SS : List Int → Int → Int → Int → (List (Int × Int)) → Option R96c86io10001) (m : Nat) (m2 : Int) (i14 : Int) (j15 : Int) (v1000000000 : List Int) (v1000000001 : List (Int × Int)) : Option R96c86io10001 := loopN (F96c86io10001_12 n SS) m { tm := [.own 1000000000 none false, uu, .c (.int .i64 m2), uu, .fn 86 [.ptr 1000000001 0], uu, uu, uu, uu, uu, uu, uu, uu, uu, .c (.int .i64 i14), .c (.int .i64 j15), uu, uu, uu, uu, uu, uu, uu, uu, uu, uu, uu, uu, uu, uu, uu, uu, uu, uu, uu, uu, uu, uu, uu, uu, uu, uu, uu, uu, uu, uu, uu, uu, uu, uu, uu, uu, uu, uu, uu, uu, uu, uu, uu, uu, uu, uu, uu, uu, uu, uu, uu, uu, uu, uu, uu, uu, uu, uu, uu, uu, uu, uu, uu, uu, uu, uu, uu, uu, uu, uu, uu, uu, uu, uu, uu, uu, uu, uu, uu, uu, uu, uu, uu, uu, uu, uu, uu, uu, uu, uu, uu, uu, uu, uu, uu, uu, uu, uu, uu, uu, uu, uu, uu, uu, uu, uu, uu, uu, uu, uu, uu, uu, uu, uu, uu, uu, uu, uu, uu, uu, uu, uu, uu, uu, uu, uu, uu, uu, uu, uu, uu, uu, uu, uu, uu, uu, uu, uu, uu, uu, uu, uu, uu, uu, uu, uu, uu, uu, uu, uu, uu, uu, uu, uu, uu, uu, uu, uu, uu, uu, uu, uu, uu, uu, uu, uu, uu, uu, uu, uu, uu, uu, uu, uu, uu, uu, uu, uu, uu, uu, uu, uu, uu, uu, uu, uu, uu, uu, uu, uu, uu, uu, uu, uu, uu, uu, uu, uu, uu, uu, uu, uu, uu, uu], hp := (upd (upd emp 1000000001 (.box [.sl (.pair (.int .i64) (.int .i64)) v1000000001 false])) 1000000000 (.arr (.int .i64) v1000000000 false)) }
noncomputable def L96c86io10001_3 (n : Nat × Nat) (SS : List Int → Int → Int → Int → (List (Int × Int)) → Option R96c86io10001) (m : Nat) (a1 : Int) (m2 : Int) (b3 : Int) (mid18 : Int) (v19 : Int) (start20 : Int) (r21 : Int) (p22 : Int) (v1000000000 : List Int) (v1000000001 : List (Int × Int)) : Option R96c86io10001 := loopN (F96c86io10001_18 n SS) m { tm := [.own 1000000000 none false, .c (.int .i64 a1), .c (.int .i64 m2), .c (.int .i64 b3), .fn 86 [.ptr 1000000001 0], uu, uu, uu, uu, uu, uu, uu, uu, uu, uu, uu, uu, uu, .c (.int .i64 mid18), .c (.int .i64 v19), .c (.int .i64 start20), .c (.int .i64 r21), .c (.int .i64 p22), uu, uu, uu, uu, uu, uu, uu, uu, uu, uu, uu, uu, uu, uu, uu, uu, uu, uu, uu, uu, uu, uu, uu, uu, uu, uu, uu, uu, uu, uu, uu, uu, uu, uu, uu, uu, uu, uu, uu, uu, uu, uu, uu, uu, uu, uu, uu, uu, uu, uu, uu, uu, uu, uu, uu, uu, uu, uu, uu, uu, uu, uu, uu, uu, uu, uu, uu, uu, uu, uu, uu, uu, uu, uu, uu, uu, uu, uu, uu, uu, uu, uu, uu, uu, uu, uu, uu, uu, uu, uu, uu, uu, uu, uu, uu, uu, uu, uu, uu, uu, uu, uu, uu, uu, uu, uu, uu, uu, uu, uu, uu, uu, uu, uu, uu, uu, uu, uu, uu, uu, uu, uu, uu, uu, uu, uu, uu, uu, uu, uu, uu, uu, uu, uu, uu, uu, uu, uu, uu, uu, uu, uu, uu, uu, uu, uu, uu, uu, uu, uu, uu, uu, uu, uu, uu, uu, uu, uu, uu, uu, uu, uu, uu, uu, uu, uu, uu, uu, uu, uu, uu, uu, uu, uu, uu, uu, uu, uu, uu, uu, uu, uu, uu, uu, uu, uu, uu, uu, uu, uu, uu, uu, uu, uu, uu, uu, uu], hp := (upd (upd emp 1000000001 (.box [.sl (.pair (.int .i64) (.int .i64)) v1000000001 false])) 1000000000 (.arr (.int .i64) v1000000000 false)) }
noncomputable def L96c86io10001_4 (n : Nat × Nat) (SS : List Int → Int → Int → Int → (List (Int × Int)) → Option R96c86io10001) (m : Nat) (i10 : Int) (k13 : Int) (v1000000000 : List Int) (v1000000001 : List (Int × Int)) : Option R96c86io10001 := loopN (F96c86io10001_27 n SS) m { tm := [.own 1000000000 none false, uu, uu, uu, uu, uu, uu, uu, uu, uu, .c (.int .i64 i10), uu, uu, .c (.int .i64 k13), uu, uu, uu, uu, uu, uu, uu, uu, uu, uu, uu, uu, uu, uu, uu, uu, uu, uu, uu, uu, uu, uu, uu, uu, uu, uu, uu, uu, uu, uu, uu, uu, uu, uu, uu, uu, uu, uu, uu, uu, uu, uu, uu, uu, uu, uu, uu, uu, uu, uu, uu, uu, uu, uu, uu, uu, uu, uu, uu, uu, uu, uu, uu, uu, uu, uu, uu, uu, uu, uu, uu, uu, uu, uu, uu, uu, uu, uu, uu, uu, uu, uu, uu, uu, uu, uu, uu, uu, uu, uu, uu, uu, uu, uu, uu, uu, uu, uu, uu, uu, uu, uu, uu, uu, uu, uu, uu, uu, uu, uu, uu, uu, uu, uu, uu, uu, uu, uu, uu, uu, uu, uu, uu, uu, uu, uu, uu, uu, uu, uu, uu, uu, uu, uu, uu, uu, uu, uu, uu, uu, uu, uu, uu, uu, uu, uu, uu, uu, uu, uu, uu, uu, uu, uu, uu, uu, uu, uu, uu, uu, uu, uu, uu, uu, uu, uu, uu, uu, uu, uu, uu, uu, uu, uu, uu, uu, uu, uu, uu, uu, uu, uu, uu, uu, uu, uu, uu, uu, uu, uu, uu, uu, uu, uu, uu, uu, uu, uu, uu, uu, uu, uu, uu, uu, uu, uu], hp := (upd (upd emp 1000000001 (.box [.sl (.pair (.int .i64) (.int .i64)) v1000000001 false])) 1000000000 (.arr (.int .i64) v1000000000 false)) }
noncomputable def L96c86io10001_5 (n : Nat × Nat) (SS : List Int → Int → Int → Int → (List (Int × Int)) → Option R96c86io10001) (m : Nat) (i14 : Int) (k17 : Int) (v1000000000 : List Int) (v1000000001 : List (Int × Int)) : Option R96c86io10001 := loopN (F96c86io10001_36 n SS) m { tm := [.own 1000000000 none false, uu, uu, uu, uu, uu, uu, uu, uu, uu, uu, uu, uu, uu, .c (.int .i64 i14), uu, uu, .c (.int .i64 k17), uu, uu, uu, uu, uu, uu, uu, uu, uu, uu, uu, uu, uu, uu, uu, uu, uu, uu, uu, uu, uu, uu, uu, uu, uu, uu, uu, uu, uu, uu, uu, uu, uu, uu, uu, uu, uu, uu, uu, uu, uu, uu, uu, uu, uu, uu, uu, uu, uu, uu, uu, uu, uu, uu, uu, uu, uu, uu, uu, uu, uu, uu, uu, uu, uu, uu, uu, uu, uu, uu, uu, uu, uu, uu, uu, uu, uu, uu, uu, uu, uu, uu, uu, uu, uu, uu, uu, uu, uu, uu, uu, uu, uu, uu, uu, uu, uu, uu, uu, uu, uu, uu, uu, uu, uu, uu, uu, uu, uu, uu, uu, uu, uu, uu, uu, uu, uu, uu, uu, uu, uu, uu, uu, uu, uu, uu, uu, uu, uu, uu, uu, uu, uu, uu, uu, uu, uu, uu, uu, uu, uu, uu, uu, uu, uu, uu, uu, uu, uu, uu, uu, uu, uu, uu, uu, uu, uu, uu, uu, uu, uu, uu, uu, uu, uu, uu, uu, uu, uu, uu, uu, uu, uu, uu, uu, uu, uu, uu, uu, uu, uu, uu, uu, uu, uu, uu, uu, uu, uu, uu, uu, uu, uu, uu, uu, uu, uu, uu, uu, uu, uu, uu], hp := (upd (upd emp 1000000001 (.box [.sl (.pair (.int .i64) (.int .i64)) v1000000001 false])) 1000000000 (.arr (.int .i64) v1000000000 false)) }
theorem L96c86io10001_1_eq (n : Nat × Nat) (SS : List Int → Int → Int → Int → (List (Int × Int)) → Option R96c86io10001) (m1 : Nat) (a1 : Int) (i10 : Int) (j11 : Int) (v1000000000 : List Int) (v1000000001 : List (Int × Int)) : L96c86io10001_1 n SS (m1 + 1) a1 i10 j11 v1000000000 v1000000001 =
    (bif decide (i10 < j11) then (bif decide (1 < 0) then none
      else (bif inB (wr .i64 (Int.fdiv (wr .u64 (wr .i64 (i10 + j11))) (2 ^ (min (Int.toNat 1) (IntKind.bits .u64))))) v1000000000.length then (idx v1000000000 (wr .i64 (Int.fdiv (wr .u64 (wr .i64 (i10 + j11))) (2 ^ (min (Int.toNat 1) (IntKind.bits .u64)))))).bind fun x1' =>
          (bif inB a1 v1000000000.length then (idx v1000000000 a1).bind fun x2' =>
            (S86 n x1' x2' v1000000001).bind fun r3' =>
            (bif decide (r3' < 0) then L96c86io10001_1 n SS m1 a1 (wr .i64 ((wr .i64 (Int.fdiv (wr .u64 (wr .i64 (i10 + j11))) (2 ^ (min (Int.toNat 1) (IntKind.bits .u64))))) + 1)) j11 v1000000000 v1000000001
            else L96c86io10001_1 n SS m1 a1 i10 (wr .i64 (Int.fdiv (wr .u64 (wr .i64 (i10 + j11))) (2 ^ (min (Int.toNat 1) (IntKind.bits .u64))))) v1000000000 v1000000001)
          else none)
        else none))
    else L96c86io10001_4 n SS n.1 i10 a1 v1000000000 v1000000001) := by kernel_rfl
theorem L96c86io10001_2_eq (n : Nat × Nat) (SS : List Int → Int → Int → Int → (List (Int × Int)) → Option R96c86io10001) (m1 : Nat) (m2 : Int) (i14 : Int) (j15 : Int) (v1000000000 : List Int) (v1000000001 : List (Int × Int)) : L96c86io10001_2 n SS (m1 + 1) m2 i14 j15 v1000000000 v1000000001 =
    (bif decide (i14 < j15) then (bif decide (1 < 0) then none
      else (bif inB m2 v1000000000.length then (idx v1000000000 m2).bind fun x4' =>
          (bif inB (wr .i64 (Int.fdiv (wr .u64 (wr .i64 (i14 + j15))) (2 ^ (min (Int.toNat 1) (IntKind.bits .u64))))) v1000000000.length then (idx v1000000000 (wr .i64 (Int.fdiv (wr .u64 (wr .i64 (i14 + j15))) (2 ^ (min (Int.toNat 1) (IntKind.bits .u64)))))).bind fun x5' =>
            (S86 n x4' x5' v1000000001).bind fun r6' =>
            (bif (!(decide (r6' < 0))) then L96c86io10001_2 n SS m1 m2 (wr .i64 ((wr .i64 (Int.fdiv (wr .u64 (wr .i64 (i14 + j15))) (2 ^ (min (Int.toNat 1) (IntKind.bits .u64))))) + 1)) j15 v1000000000 v1000000001
            else L96c86io10001_2 n SS m1 m2 i14 (wr .i64 (Int.fdiv (wr .u64 (wr .i64 (i14 + j15))) (2 ^ (min (Int.toNat 1) (IntKind.bits .u64))))) v1000000000 v1000000001)
          else none)
        else none))
    else L96c86io10001_5 n SS n.1 i14 m2 v1000000000 v1000000001) := by kernel_rfl
theorem L96c86io10001_3_eq (n : Nat × Nat) (SS : List Int → Int → Int → Int → (List (Int × Int)) → Option R96c86io10001) (m1 : Nat) (a1 : Int) (m2 : Int) (b3 : Int) (mid18 : Int) (v19 : Int) (start20 : Int) (r21 : Int) (p22 : Int) (v1000000000 : List Int) (v1000000001 : List (Int × Int)) : L96c86io10001_3 n SS (m1 + 1) a1 m2 b3 mid18 v19 start20 r21 p22 v1000000000 v1000000001 =
    (bif decide (start20 < r21) then (bif decide (1 < 0) then none
      else (bif inB (wr .i64 (p22 - (wr .i64 (Int.fdiv (wr .u64 (wr .i64 (start20 + r21))) (2 ^ (min (Int.toNat 1) (IntKind.bits .u64))))))) v1000000000.length then (idx v1000000000 (wr .i64 (p22 - (wr .i64 (Int.fdiv (wr .u64 (wr .i64 (start20 + r21))) (2 ^ (min (Int.toNat 1) (IntKind.bits .u64)))))))).bind fun x7' =>
          (bif inB (wr .i64 (Int.fdiv (wr .u64 (wr .i64 (start20 + r21))) (2 ^ (min (Int.toNat 1) (IntKind.bits .u64))))) v1000000000.length then (idx v1000000000 (wr .i64 (Int.fdiv (wr .u64 (wr .i64 (start20 + r21))) (2 ^ (min (Int.toNat 1) (IntKind.bits .u64)))))).bind fun x8' =>
            (S86 n x7' x8' v1000000001).bind fun r9' =>
            (bif (!(decide (r9' < 0))) then L96c86io10001_3 n SS m1 a1 m2 b3 mid18 v19 (wr .i64 ((wr .i64 (Int.fdiv (wr .u64 (wr .i64 (start20 + r21))) (2 ^ (min (Int.toNat 1) (IntKind.bits .u64))))) + 1)) r21 p22 v1000000000 v1000000001
            else L96c86io10001_3 n SS m1 a1 m2 b3 mid18 v19 start20 (wr .i64 (Int.fdiv (wr .u64 (wr .i64 (start20 + r21))) (2 ^ (min (Int.toNat 1) (IntKind.bits .u64))))) p22 v1000000000 v1000000001)
          else none)
        else none))
    else ((bif (decide (start20 < m2) == true) then some (decide (m2 < wr .i64 (v19 - start20)))
        else some false)).bind fun b10' =>
      (bif b10' then (S97c86io10001 n v1000000000 start20 m2 (wr .i64 (v19 - start20)) v1000000001).bind fun r11' =>
        (bif Nat.beq r11'.2.1.length v1000000000.length then ((bif (decide (a1 < start20) == true) then some (decide (start20 < mid18))
            else some false)).bind fun b12' =>
          (bif b12' then (SS r11'.2.1 a1 start20 mid18 r11'.2.2.1).bind fun r13' =>
            (bif Nat.beq r13'.2.1.length r11'.2.1.length then ((bif (decide (mid18 < wr .i64 (v19 - start20)) == true) then some (decide (wr .i64 (v19 - start20) < b3))
                else some false)).bind fun b14' =>
              (bif b14' then (SS r13'.2.1 mid18 (wr .i64 (v19 - start20)) b3 r13'.2.2.1).bind fun r15' =>
                (bif Nat.beq r15'.2.1.length r13'.2.1.length then some ((), r15'.2.1, r15'.2.2.1, ())
                else none)
              else some ((), r13'.2.1, r13'.2.2.1, ()))
            else none)
          else ((bif (decide (mid18 < wr .i64 (v19 - start20)) == true) then some (decide (wr .i64 (v19 - start20) < b3))
              else some false)).bind fun b16' =>
            (bif b16' then (SS r11'.2.1 mid18 (wr .i64 (v19 - start20)) b3 r11'.2.2.1).bind fun r17' =>
              (bif Nat.beq r17'.2.1.length r11'.2.1.length then some ((), r17'.2.1, r17'.2.2.1, ())
              else none)
            else some ((), r11'.2.1, r11'.2.2.1, ())))
        else none)
      else ((bif (decide (a1 < start20) == true) then some (decide (start20 < mid18))
          else some false)).bind fun b18' =>
        (bif b18' then (SS v1000000000 a1 start20 mid18 v1000000001).bind fun r19' =>
          (bif Nat.beq r19'.2.1.length v1000000000.length then ((bif (decide (mid18 < wr .i64 (v19 - start20)) == true) then some (decide (wr .i64 (v19 - start20) < b3))
              else some false)).bind fun b20' =>
            (bif b20' then (SS r19'.2.1 mid18 (wr .i64 (v19 - start20)) b3 r19'.2.2.1).bind fun r21' =>
              (bif Nat.beq r21'.2.1.length r19'.2.1.length then some ((), r21'.2.1, r21'.2.2.1, ())
              else none)
            else some ((), r19'.2.1, r19'.2.2.1, ()))
          else none)
        else ((bif (decide (mid18 < wr .i64 (v19 - start20)) == true) then some (decide (wr .i64 (v19 - start20) < b3))
            else some false)).bind fun b22' =>
          (bif b22' then (SS v1000000000 mid18 (wr .i64 (v19 - start20)) b3 v1000000001).bind fun r23' =>
            (bif Nat.beq r23'.2.1.length v1000000000.length then some ((), r23'.2.1, r23'.2.2.1, ())
            else none)
          else some ((), v1000000000, v1000000001, ()))))) := by kernel_rfl
theorem L96c86io10001_4_eq (n : Nat × Nat) (SS : List Int → Int → Int → Int → (List (Int × Int)) → Option R96c86io10001) (m1 : Nat) (i10 : Int) (k13 : Int) (v1000000000 : List Int) (v1000000001 : List (Int × Int)) : L96c86io10001_4 n SS (m1 + 1) i10 k13 v1000000000 v1000000001 =
    (bif decide (k13 < wr .i64 (i10 - 1)) then (bif inB (wr .i64 (k13 + 1)) v1000000000.length then (idx v1000000000 (wr .i64 (k13 + 1))).bind fun x24' =>
        (bif inB k13 v1000000000.length then (idx v1000000000 k13).bind fun x25' =>
          (bif inB k13 v1000000000.length then (idx v1000000000 k13).bind fun x26' =>
            (bif inB (wr .i64 (k13 + 1)) (v1000000000.set (Int.toNat k13) x24').length then (idx (v1000000000.set (Int.toNat k13) x24') (wr .i64 (k13 + 1))).bind fun x27' =>
              L96c86io10001_4 n SS m1 i10 (wr .i64 (k13 + 1)) ((v1000000000.set (Int.toNat k13) x24').set (Int.toNat (wr .i64 (k13 + 1))) x25') v1000000001
            else none)
          else none)
        else none)
      else none)
    else some ((), v1000000000, v1000000001, ())) := by kernel_rfl
theorem L96c86io10001_5_eq (n : Nat × Nat) (SS : List Int → Int → Int → Int → (List (Int × Int)) → Option R96c86io10001) (m1 : Nat) (i14 : Int) (k17 : Int) (v1000000000 : List Int) (v1000000001 : List (Int × Int)) : L96c86io10001_5 n SS (m1 + 1) i14 k17 v1000000000 v1000000001 =
    (bif decide (k17 > i14) then (bif inB (wr .i64 (k17 - 1)) v1000000000.length then (idx v1000000000 (wr .i64 (k17 - 1))).bind fun x28' =>
        (bif inB k17 v1000000000.length then (idx v1000000000 k17).bind fun x29' =>
          (bif inB k17 v1000000000.length then (idx v1000000000 k17).bind fun x30' =>
            (bif inB (wr .i64 (k17 - 1)) (v1000000000.set (Int.toNat k17) x28').length then (idx (v1000000000.set (Int.toNat k17) x28') (wr .i64 (k17 - 1))).bind fun x31' =>
              L96c86io10001_5 n SS m1 i14 (wr .i64 (k17 - 1)) ((v1000000000.set (Int.toNat k17) x28').set (Int.toNat (wr .i64 (k17 - 1))) x29') v1000000001
            else none)
          else none)
        else none)
      else none)
    else some ((), v1000000000, v1000000001, ())) := by kernel_rfl
noncomputable def B96c86io10001 (n : Nat × Nat) (SS : List Int → Int → Int → Int → (List (Int × Int)) → Option R96c86io10001) (data0 : List Int) (a1 : Int) (m2 : Int) (b3 : Int) (cp_4_0 : List (Int × Int)) : Option R96c86io10001 := run (E96c86io10001 n SS) c96c86io10001 an96c86io10001 rt96c86io10001 (fun _ _ => none) rt96c86io10001 { tm := [.own 1000000000 none false, .c (.int .i64 a1), .c (.int .i64 m2), .c (.int .i64 b3), .fn 86 [.ptr 1000000001 0], uu, uu, uu, uu, uu, uu, uu, uu, uu, uu, uu, uu, uu, uu, uu, uu, uu, uu, uu, uu, uu, uu, uu, uu, uu, uu, uu, uu, uu, uu, uu, uu, uu, uu, uu, uu, uu, uu, uu, uu, uu, uu, uu, uu, uu, uu, uu, uu, uu, uu, uu, uu, uu, uu, uu, uu, uu, uu, uu, uu, uu, uu, uu, uu, uu, uu, uu, uu, uu, uu, uu, uu, uu, uu, uu, uu, uu, uu, uu, uu, uu, uu, uu, uu, uu, uu, uu, uu, uu, uu, uu, uu, uu, uu, uu, uu, uu, uu, uu, uu, uu, uu, uu, uu, uu, uu, uu, uu, uu, uu, uu, uu, uu, uu, uu, uu, uu, uu, uu, uu, uu, uu, uu, uu, uu, uu, uu, uu, uu, uu, uu, uu, uu, uu, uu, uu, uu, uu, uu, uu, uu, uu, uu, uu, uu, uu, uu, uu, uu, uu, uu, uu, uu, uu, uu, uu, uu, uu, uu, uu, uu, uu, uu, uu, uu, uu, uu, uu, uu, uu, uu, uu, uu, uu, uu, uu, uu, uu, uu, uu, uu, uu, uu, uu, uu, uu, uu, uu, uu, uu, uu, uu, uu, uu, uu, uu, uu, uu, uu, uu, uu, uu, uu, uu, uu, uu, uu, uu, uu, uu, uu, uu, uu, uu, uu], hp := (upd (upd emp 1000000001 (.box [.sl (.pair (.int .i64) (.int .i64)) cp_4_0 false])) 1000000000 (.arr (.int .i64) data0 false)) }
theorem B96c86io10001_eq (n : Nat × Nat) (SS : List Int → Int → Int → Int → (List (Int × Int)) → Option R96c86io10001) (data0 : List Int) (a1 : Int) (m2 : Int) (b3 : Int) (cp_4_0 : List (Int × Int)) : B96c86io10001 n SS data0 a1 m2 b3 cp_4_0 =
    (bif ((wr .i64 (m2 - a1)) == 1) then L96c86io10001_1 n SS n.1 a1 m2 b3 data0 cp_4_0
    else (bif ((wr .i64 (b3 - m2)) == 1) then L96c86io10001_2 n SS n.1 m2 a1 m2 data0 cp_4_0
      else (bif decide (1 < 0) then none
        else (bif decide (m2 > wr .i64 (Int.fdiv (wr .u64 (wr .i64 (a1 + b3))) (2 ^ (min (Int.toNat 1) (IntKind.bits .u64))))) then L96c86io10001_3 n SS n.1 a1 m2 b3 (wr .i64 (Int.fdiv (wr .u64 (wr .i64 (a1 + b3))) (2 ^ (min (Int.toNat 1) (IntKind.bits .u64))))) (wr .i64 ((wr .i64 (Int.fdiv (wr .u64 (wr .i64 (a1 + b3))) (2 ^ (min (Int.toNat 1) (IntKind.bits .u64))))) + m2)) (wr .i64 ((wr .i64 ((wr .i64 (Int.fdiv (wr .u64 (wr .i64 (a1 + b3))) (2 ^ (min (Int.toNat 1) (IntKind.bits .u64))))) + m2)) - b3)) (wr .i64 (Int.fdiv (wr .u64 (wr .i64 (a1 + b3))) (2 ^ (min (Int.toNat 1) (IntKind.bits .u64))))) (wr .i64 ((wr .i64 ((wr .i64 (Int.fdiv (wr .u64 (wr .i64 (a1 + b3))) (2 ^ (min (Int.toNat 1) (IntKind.bits .u64))))) + m2)) - 1)) data0 cp_4_0
          else L96c86io10001_3 n SS n.1 a1 m2 b3 (wr .i64 (Int.fdiv (wr .u64 (wr .i64 (a1 + b3))) (2 ^ (min (Int.toNat 1) (IntKind.bits .u64))))) (wr .i64 ((wr .i64 (Int.fdiv (wr .u64 (wr .i64 (a1 + b3))) (2 ^ (min (Int.toNat 1) (IntKind.bits .u64))))) + m2)) a1 m2 (wr .i64 ((wr .i64 ((wr .i64 (Int.fdiv (wr .u64 (wr .i64 (a1 + b3))) (2 ^ (min (Int.toNat 1) (IntKind.bits .u64))))) + m2)) - 1)) data0 cp_4_0)))) := by kernel_rfl
noncomputable def T96c86io10001 (n : Nat × Nat) : Nat → List Int → Int → Int → Int → (List (Int × Int)) → Option R96c86io10001
  | 0 => fun _ _ _ _ _ => none
  | d + 1 => B96c86io10001 n (T96c86io10001 n d)
theorem T96c86io10001_eq (n : Nat × Nat) (d : Nat) (data0 : List Int) (a1 : Int) (m2 : Int) (b3 : Int) (cp_4_0 : List (Int × Int)) : T96c86io10001 n (d + 1) data0 a1 m2 b3 cp_4_0 = B96c86io10001 n (T96c86io10001 n d) data0 a1 m2 b3 cp_4_0 := rfl
noncomputable def S96c86io10001 (n : Nat × Nat) (data0 : List Int) (a1 : Int) (m2 : Int) (b3 : Int) (cp_4_0 : List (Int × Int)) : Option R96c86io10001 := T96c86io10001 n n.1 data0 a1 m2 b3 cp_4_0
theorem B96c86io10001_run (n : Nat × Nat) (SS : List Int → Int → Int → Int → (List (Int × Int)) → Option R96c86io10001) (xs : qksDen pk96c86io10001) : B96c86io10001 n SS xs.1 xs.2.1 xs.2.2.1 xs.2.2.2.1 xs.2.2.2.2.1.1 = runG (E96c86io10001 n SS) noScope c96c86io10001 an96c86io10001 (rtIO rk96c86io10001 (pk96c86io10001.flatMap QK.ods)) (fun _ _ => none) (rtIO rk96c86io10001 (pk96c86io10001.flatMap QK.ods)) (st1 pk96c86io10001 xs Try.f96.ntmps) := by kernel_rfl
noncomputable def P96c86io10001 (n : Nat × Nat) := phioOf pk96c86io10001 rk96c86io10001 (pk96c86io10001.flatMap QK.ods) (fun xs => S96c86io10001 n xs.1 xs.2.1 xs.2.2.1 xs.2.2.2.1 xs.2.2.2.2.1.1)
theorem call96 : CallOK Try.prog 96 := callOK_of Try.func96 (by kernel_rfl) (by kernel_rfl)
theorem env96c86io10001 (n : Nat × Nat) (SS : List Int → Int → Int → Int → (List (Int × Int)) → Option R96c86io10001) (hSS : FCios Try.prog 96 (pk96c86io10001.map QK.flag) (phioOf pk96c86io10001 rk96c86io10001 (pk96c86io10001.flatMap QK.ods) (fun xs => SS xs.1 xs.2.1 xs.2.2.1 xs.2.2.2.1 xs.2.2.2.2.1.1))) : EnvOK Try.prog (E96c86io10001 n SS) := envOK (l := io96c86io10001 n SS) (consPhi_ok (FC86 n) call86 noPhi_ok) rfl rfl (by kernel_rfl) ⟨FC97c86io10001 n, call97, hSS, call96, trivial⟩
theorem par96c86io10001 (n : Nat × Nat) (SS : List Int → Int → Int → Int → (List (Int × Int)) → Option R96c86io10001) : EnvPar (E96c86io10001 n SS) := envPar (l := io96c86io10001 n SS) (consPhi_par phiOf_Par1 noPhi_par) rfl ⟨phioOf_Pario1, phioOf_Pario1, trivial⟩
theorem FCT96c86io10001 (n : Nat × Nat) : ∀ d : Nat, FCios Try.prog 96 (pk96c86io10001.map QK.flag) (phioOf pk96c86io10001 rk96c86io10001 (pk96c86io10001.flatMap QK.ods) (fun xs => T96c86io10001 n d xs.1 xs.2.1 xs.2.2.1 xs.2.2.2.1 xs.2.2.2.2.1.1))
  | 0 => phioOf_FCios fun xs r h => by cases h
  | d + 1 => phioOf_FCios fun xs r h vs hv => FCio.of_runG tabOK eqsOK (env96c86io10001 n (T96c86io10001 n d) (FCT96c86io10001 n d)) (par96c86io10001 n (T96c86io10001 n d)) mixed (fun _ => noScope_ok) Try.func96 (c := c96c86io10001) (an := an96c86io10001) (qks := pk96c86io10001) (rks := rk96c86io10001) (by kernel_rfl) (by kernel_rfl) hv ((B96c86io10001_run n (T96c86io10001 n d) xs).symm.trans h)
theorem FC96c86io10001 (n : Nat × Nat) : FCios Try.prog 96 (pk96c86io10001.map QK.flag) (P96c86io10001 n) := FCT96c86io10001 n n.1
end Go.Proofs.Ytnlbhjmbaedadaa
set_option linter.unusedVariables false
set_option linter.unusedSimpArgs false
set_option maxRecDepth 100000
namespace Go.Proofs.Ytnlbhjmbaedadaa
open Go.Vi
/- slices.stableCmpFunc[int] -/
abbrev R94c86io101 := (Unit) × (List Int) × (List (Int × Int)) × Unit
noncomputable def c94c86io101 : Code := bodyOf Try.f94
noncomputable def an94c86io101 : Ann := (.s .l (.s .l (.s (.j [0, 1, 2, 6, 7, 1000000000, 1000000001] (.j [0, 1, 2, 6, 7, 8, 1000000000, 1000000001] (.s (.s .l (.j [0, 1, 2, 6, 7, 8, 1000000000, 1000000001] .l .l)) (.j [0, 1, 2, 6, 7, 8, 1000000000, 1000000001] .l .l)) .l) .l) (.s .l (.j [1000000000, 1000000001] (.j [0, 1, 2, 6, 1000000000, 1000000001] (.s (.s .l (.j [0, 1, 2, 6, 1000000000, 1000000001] .l .l)) (.j [0, 1, 2, 6, 1000000000, 1000000001] (.s .l (.s (.j [0, 1, 2, 6, 7, 1000000000, 1000000001] (.j [0, 1, 2, 6, 7, 8, 1000000000, 1000000001] (.s (.s .l (.j [0, 1, 2, 6, 7, 8, 1000000000, 1000000001] .l .l)) (.j [0, 1, 2, 6, 7, 8, 1000000000, 1000000001] .l .l)) .l) .l) (.s (.s .l (.s .l (.j [0, 1, 2, 6, 1000000000, 1000000001] .l .l))) .l))) .l)) .l) .l)))))
def pk94c86io101 : List QK := [.oa (.int .i64), .pl (.c (.int .i64)), .of 86 [(.sl (.pair (.int .i64) (.int .i64)))]]
def rk94c86io101 : List RK := []
noncomputable def rt94c86io101 (st : St) : Option R94c86io101 := rtIO rk94c86io101 (pk94c86io101.flatMap QK.ods) st
noncomputable def io94c86io101 (n : Nat × Nat) : List IoE := [⟨95, (isFns [none, none, none, some 86]), pk95c86io1001.map QK.flag, P95c86io1001 n⟩, ⟨96, (isFns [none, none, none, none, some 86]), pk96c86io10001.map QK.flag, P96c86io10001 n⟩]
noncomputable def E94c86io101 (n : Nat × Nat) : Env := { T := tab, phi := noPhi, eff := fun _ => false, fuel := n.1, hold := n.2, phio := phioL (io94c86io101 n), iop := iopL (io94c86io101 n) }
noncomputable def kq94c86io101_1 (n : Nat × Nat) : St → Option R94c86io101 := run (E94c86io101 n) (cB (cB (cB c94c86io101))) (Ann.snd (Ann.snd (Ann.snd an94c86io101))) rt94c86io101 (fun _ _ => none) rt94c86io101
noncomputable def kc94c86io101_2 (n : Nat × Nat) : St → Option R94c86io101 := fun s => normC [0, 1, 2, 6, 7, 1000000000, 1000000001] s (kq94c86io101_1 n)
noncomputable def xb94c86io101_3 (n : Nat × Nat) : Nat → St → Option R94c86io101 := fun j s => bif Nat.beq j 0 then normC [0, 1, 2, 6, 7, 1000000000, 1000000001] s (kq94c86io101_1 n) else (fun _ _ => none) j s
noncomputable def F94c86io101_4 (n : Nat × Nat) : (St → Option R94c86io101) → St → Option R94c86io101 := fun K s => run (E94c86io101 n) (cA (cA (cA (cB (cB c94c86io101))))) (Ann.fst (Ann.fst (Ann.fst (Ann.snd (Ann.snd an94c86io101))))) (fun s => normC [0, 1, 2, 6, 7, 8, 1000000000, 1000000001] s K) (xb94c86io101_3 n) rt94c86io101 s
noncomputable def kq94c86io101_5 (n : Nat × Nat) (m1 : Nat) : St → Option R94c86io101 := run (E94c86io101 n) (cB (cA (cA (cA (cB (cB c94c86io101)))))) (Ann.snd (Ann.fst (Ann.fst (Ann.fst (Ann.snd (Ann.snd an94c86io101)))))) (fun s => normC [0, 1, 2, 6, 7, 8, 1000000000, 1000000001] s (loopN (F94c86io101_4 n) m1)) (xb94c86io101_3 n) rt94c86io101
noncomputable def kc94c86io101_6 (n : Nat × Nat) (m1 : Nat) : St → Option R94c86io101 := fun s => normC [0, 1, 2, 6, 7, 8, 1000000000, 1000000001] s (kq94c86io101_5 n m1)
noncomputable def kc94c86io101_7 (n : Nat × Nat) (m1 : Nat) : St → Option R94c86io101 := fun s => normC [0, 1, 2, 6, 7, 8, 1000000000, 1000000001] s (fun s => normC [0, 1, 2, 6, 7, 8, 1000000000, 1000000001] s (loopN (F94c86io101_4 n) m1))
noncomputable def xb94c86io101_8 (n : Nat × Nat) (m1 : Nat) : Nat → St → Option R94c86io101 := fun j s => bif Nat.beq j 1 then normC [0, 1, 2, 6, 7, 8, 1000000000, 1000000001] s (fun s => normC [0, 1, 2, 6, 7, 8, 1000000000, 1000000001] s (loopN (F94c86io101_4 n) m1)) else (xb94c86io101_3 n) j s
noncomputable def kc94c86io101_9 (n : Nat × Nat) : St → Option R94c86io101 := fun s => normC [1000000000, 1000000001] s rt94c86io101
noncomputable def xb94c86io101_10 (n : Nat × Nat) : Nat → St → Option R94c86io101 := fun j s => bif Nat.beq j 2 then normC [1000000000, 1000000001] s rt94c86io101 else (fun _ _ => none) j s
noncomputable def F94c86io101_11 (n : Nat × Nat) : (St → Option R94c86io101) → St → Option R94c86io101 := fun K s => run (E94c86io101 n) (cA (cA (cB (cB (cB (cB c94c86io101)))))) (Ann.fst (Ann.fst (Ann.snd (Ann.snd (Ann.snd (Ann.snd an94c86io101)))))) (fun s => normC [0, 1, 2, 6, 1000000000, 1000000001] s K) (xb94c86io101_10 n) rt94c86io101 s
noncomputable def kq94c86io101_12 (n : Nat × Nat) (m1 : Nat) : St → Option R94c86io101 := run (E94c86io101 n) (cB (cA (cA (cB (cB (cB (cB c94c86io101))))))) (Ann.snd (Ann.fst (Ann.fst (Ann.snd (Ann.snd (Ann.snd (Ann.snd an94c86io101))))))) (fun s => normC [0, 1, 2, 6, 1000000000, 1000000001] s (loopN (F94c86io101_11 n) m1)) (xb94c86io101_10 n) rt94c86io101
noncomputable def kc94c86io101_13 (n : Nat × Nat) (m1 : Nat) : St → Option R94c86io101 := fun s => normC [0, 1, 2, 6, 1000000000, 1000000001] s (kq94c86io101_12 n m1)
noncomputable def kc94c86io101_14 (n : Nat × Nat) (m1 : Nat) : St → Option R94c86io101 := fun s => normC [0, 1, 2, 6, 1000000000, 1000000001] s (fun s => normC [0, 1, 2, 6, 1000000000, 1000000001] s (loopN (F94c86io101_11 n) m1))
noncomputable def xb94c86io101_15 (n : Nat × Nat) (m1 : Nat) : Nat → St → Option R94c86io101 := fun j s => bif Nat.beq j 3 then normC [0, 1, 2, 6, 1000000000, 1000000001] s (fun s => normC [0, 1, 2, 6, 1000000000, 1000000001] s (loopN (F94c86io101_11 n) m1)) else (xb94c86io101_10 n) j s
noncomputable def kq94c86io101_16 (n : Nat × Nat) (m1 : Nat) : St → Option R94c86io101 := run (E94c86io101 n) (cB (cB (cA (cB (cA (cA (cB (cB (cB (cB c94c86io101)))))))))) (Ann.snd (Ann.snd (Ann.fst (Ann.snd (Ann.fst (Ann.fst (Ann.snd (Ann.snd (Ann.snd (Ann.snd an94c86io101)))))))))) (kc94c86io101_14 n m1) (xb94c86io101_15 n m1) rt94c86io101
noncomputable def kc94c86io101_17 (n : Nat × Nat) (m1 : Nat) : St → Option R94c86io101 := fun s => normC [0, 1, 2, 6, 7, 1000000000, 1000000001] s (kq94c86io101_16 n m1)
noncomputable def xb94c86io101_18 (n : Nat × Nat) (m1 : Nat) : Nat → St → Option R94c86io101 := fun j s => bif Nat.beq j 4 then normC [0, 1, 2, 6, 7, 1000000000, 1000000001] s (kq94c86io101_16 n m1) else (xb94c86io101_15 n m1) j s
noncomputable def F94c86io101_19 (n : Nat × Nat) (m1 : Nat) : (St → Option R94c86io101) → St → Option R94c86io101 := fun K s => run (E94c86io101 n) (cA (cA (cA (cB (cA (cB (cA (cA (cB (cB (cB (cB c94c86io101)))))))))))) (Ann.fst (Ann.fst (Ann.fst (Ann.snd (Ann.fst (Ann.snd (Ann.fst (Ann.fst (Ann.snd (Ann.snd (Ann.snd (Ann.snd an94c86io101)))))))))))) (fun s => normC [0, 1, 2, 6, 7, 8, 1000000000, 1000000001] s K) (xb94c86io101_18 n m1) rt94c86io101 s
noncomputable def kq94c86io101_20 (n : Nat × Nat) (m1 m2 : Nat) : St → Option R94c86io101 := run (E94c86io101 n) (cB (cA (cA (cA (cB (cA (cB (cA (cA (cB (cB (cB (cB c94c86io101))))))))))))) (Ann.snd (Ann.fst (Ann.fst (Ann.fst (Ann.snd (Ann.fst (Ann.snd (Ann.fst (Ann.fst (Ann.snd (Ann.snd (Ann.snd (Ann.snd an94c86io101))))))))))))) (fun s => normC [0, 1, 2, 6, 7, 8, 1000000000, 1000000001] s (loopN (F94c86io101_19 n m1) m2)) (xb94c86io101_18 n m1) rt94c86io101
noncomputable def kc94c86io101_21 (n : Nat × Nat) (m1 m2 : Nat) : St → Option R94c86io101 := fun s => normC [0, 1, 2, 6, 7, 8, 1000000000, 1000000001] s (kq94c86io101_20 n m1 m2)
noncomputable def kc94c86io101_22 (n : Nat × Nat) (m1 m2 : Nat) : St → Option R94c86io101 := fun s => normC [0, 1, 2, 6, 7, 8, 1000000000, 1000000001] s (fun s => normC [0, 1, 2, 6, 7, 8, 1000000000, 1000000001] s (loopN (F94c86io101_19 n m1) m2))
noncomputable def xb94c86io101_23 (n : Nat × Nat) (m1 m2 : Nat) : Nat → St → Option R94c86io101 := fun j s => bif Nat.beq j 5 then normC [0, 1, 2, 6, 7, 8, 1000000000, 1000000001] s (fun s => normC [0, 1, 2, 6, 7, 8, 1000000000, 1000000001] s (loopN (F94c86io101_19 n m1) m2)) else (xb94c86io101_18 n m1) j s
noncomputable def kq94c86io101_24 (n : Nat × Nat) (m1 : Nat) : St → Option R94c86io101 := run (E94c86io101 n) (cB (cB (cB (cA (cB (cA (cA (cB (cB (cB (cB c94c86io101))))))))))) (Ann.snd (Ann.snd (Ann.snd (Ann.fst (Ann.snd (Ann.fst (Ann.fst (Ann.snd (Ann.snd (Ann.snd (Ann.snd an94c86io101))))))))))) (kc94c86io101_14 n m1) (xb94c86io101_15 n m1) rt94c86io101
noncomputable def kc94c86io101_25 (n : Nat × Nat) (m1 : Nat) : St → Option R94c86io101 := fun s => normC [0, 1, 2, 6, 1000000000, 1000000001] s (kq94c86io101_24 n m1)
noncomputable def L94c86io101_1 (n : Nat × Nat) (m : Nat) (v1 : Int) (blockSize6 : Int) (a7 : Int) (b8 : Int) (v1000000000 : List Int) (v1000000001 : List (Int × Int)) : Option R94c86io101 := loopN (F94c86io101_4 n) m { tm := [.own 1000000000 none false, .c (.int .i64 v1), .fn 86 [.ptr 1000000001 0], uu, uu, uu, .c (.int .i64 blockSize6), .c (.int .i64 a7), .c (.int .i64 b8), uu, uu, uu, uu, uu, uu, uu, uu, uu, uu, uu, uu, uu, uu, uu, uu, uu, uu, uu, uu, uu, uu, uu, uu, uu, uu, uu, uu, uu, uu, uu, uu, uu, uu, uu, uu, uu, uu, uu, uu, uu, uu, uu, uu, uu, uu, uu, uu, uu, uu, uu, uu, uu, uu], hp := (upd (upd emp 1000000001 (.box [.sl (.pair (.int .i64) (.int .i64)) v1000000001 false])) 1000000000 (.arr (.int .i64) v1000000000 false)) }
noncomputable def L94c86io101_2 (n : Nat × Nat) (m : Nat) (v1 : Int) (blockSize6 : Int) (v1000000000 : List Int) (v1000000001 : List (Int × Int)) : Option R94c86io101 := loopN (F94c86io101_11 n) m { tm := [.own 1000000000 none false, .c (.int .i64 v1), .fn 86 [.ptr 1000000001 0], uu, uu, uu, .c (.int .i64 blockSize6), uu, uu, uu, uu, uu, uu, uu, uu, uu, uu, uu, uu, uu, uu, uu, uu, uu, uu, uu, uu, uu, uu, uu, uu, uu, uu, uu, uu, uu, uu, uu, uu, uu, uu, uu, uu, uu, uu, uu, uu, uu, uu, uu, uu, uu, uu, uu, uu, uu, uu, uu, uu, uu, uu, uu, uu], hp := (upd (upd emp 1000000001 (.box [.sl (.pair (.int .i64) (.int .i64)) v1000000001 false])) 1000000000 (.arr (.int .i64) v1000000000 false)) }
noncomputable def L94c86io101_3 (n : Nat × Nat) (m1 : Nat) (m : Nat) (v1 : Int) (blockSize6 : Int) (a7 : Int) (b8 : Int) (v1000000000 : List Int) (v1000000001 : List (Int × Int)) : Option R94c86io101 := loopN (F94c86io101_19 n m1) m { tm := [.own 1000000000 none false, .c (.int .i64 v1), .fn 86 [.ptr 1000000001 0], uu, uu, uu, .c (.int .i64 blockSize6), .c (.int .i64 a7), .c (.int .i64 b8), uu, uu, uu, uu, uu, uu, uu, uu, uu, uu, uu, uu, uu, uu, uu, uu, uu, uu, uu, uu, uu, uu, uu, uu, uu, uu, uu, uu, uu, uu, uu, uu, uu, uu, uu, uu, uu, uu, uu, uu, uu, uu, uu, uu, uu, uu, uu, uu, uu, uu, uu, uu, uu, uu], hp := (upd (upd emp 1000000001 (.box [.sl (.pair (.int .i64) (.int .i64)) v1000000001 false])) 1000000000 (.arr (.int .i64) v1000000000 false)) }
theorem L94c86io101_1_eq (n : Nat × Nat) (m1 : Nat) (v1 : Int) (blockSize6 : Int) (a7 : Int) (b8 : Int) (v1000000000 : List Int) (v1000000001 : List (Int × Int)) : L94c86io101_1 n (m1 + 1) v1 blockSize6 a7 b8 v1000000000 v1000000001 =
    (bif decide (b8 ≤ v1) then (S95c86io1001 n v1000000000 a7 b8 v1000000001).bind fun r1' =>
      (bif Nat.beq r1'.2.1.length v1000000000.length then L94c86io101_1 n m1 v1 blockSize6 b8 (wr .i64 (b8 + blockSize6)) r1'.2.1 r1'.2.2.1
      else none)
    else (S95c86io1001 n v1000000000 a7 v1 v1000000001).bind fun r2' =>
      (bif Nat.beq r2'.2.1.length v1000000000.length then L94c86io101_2 n n.1 v1 blockSize6 r2'.2.1 r2'.2.2.1
      else none)) := by kernel_rfl
theorem L94c86io101_2_eq (n : Nat × Nat) (m1 : Nat) (v1 : Int) (blockSize6 : Int) (v1000000000 : List Int) (v1000000001 : List (Int × Int)) : L94c86io101_2 n (m1 + 1) v1 blockSize6 v1000000000 v1000000001 =
    (bif decide (blockSize6 < v1) then L94c86io101_3 n m1 n.1 v1 blockSize6 0 (wr .i64 (2 * blockSize6)) v1000000000 v1000000001
    else some ((), v1000000000, v1000000001, ())) := by kernel_rfl
theorem L94c86io101_3_eq (n : Nat × Nat) (m1 m2 : Nat) (v1 : Int) (blockSize6 : Int) (a7 : Int) (b8 : Int) (v1000000000 : List Int) (v1000000001 : List (Int × Int)) : L94c86io101_3 n m1 (m2 + 1) v1 blockSize6 a7 b8 v1000000000 v1000000001 =
    (bif decide (b8 ≤ v1) then (S96c86io10001 n v1000000000 a7 (wr .i64 (a7 + blockSize6)) b8 v1000000001).bind fun r3' =>
      (bif Nat.beq r3'.2.1.length v1000000000.length then L94c86io101_3 n m1 m2 v1 blockSize6 b8 (wr .i64 (b8 + (wr .i64 (2 * blockSize6)))) r3'.2.1 r3'.2.2.1
      else none)
    else (bif decide (wr .i64 (a7 + blockSize6) < v1) then (S96c86io10001 n v1000000000 a7 (wr .i64 (a7 + blockSize6)) v1 v1000000001).bind fun r4' =>
        (bif Nat.beq r4'.2.1.length v1000000000.length then L94c86io101_2 n m1 v1 (wr .i64 (blockSize6 * 2)) r4'.2.1 r4'.2.2.1
        else none)
      else L94c86io101_2 n m1 v1 (wr .i64 (blockSize6 * 2)) v1000000000 v1000000001)) := by kernel_rfl
noncomputable def S94c86io101 (n : Nat × Nat) (data0 : List Int) (v1 : Int) (cp_2_0 : List (Int × Int)) : Option R94c86io101 := run (E94c86io101 n) c94c86io101 an94c86io101 rt94c86io101 (fun _ _ => none) rt94c86io101 { tm := [.own 1000000000 none false, .c (.int .i64 v1), .fn 86 [.ptr 1000000001 0], uu, uu, uu, uu, uu, uu, uu, uu, uu, uu, uu, uu, uu, uu, uu, uu, uu, uu, uu, uu, uu, uu, uu, uu, uu, uu, uu, uu, uu, uu, uu, uu, uu, uu, uu, uu, uu, uu, uu, uu, uu, uu, uu, uu, uu, uu, uu, uu, uu, uu, uu, uu, uu, uu, uu, uu, uu, uu, uu, uu], hp := (upd (upd emp 1000000001 (.box [.sl (.pair (.int .i64) (.int .i64)) cp_2_0 false])) 1000000000 (.arr (.int .i64) data0 false)) }
theorem S94c86io101_eq (n : Nat × Nat) (data0 : List Int) (v1 : Int) (cp_2_0 : List (Int × Int)) : S94c86io101 n data0 v1 cp_2_0 =
    L94c86io101_1 n n.1 v1 20 0 20 data0 cp_2_0 := by kernel_rfl
theorem S94c86io101_run (n : Nat × Nat) (xs : qksDen pk94c86io101) : S94c86io101 n xs.1 xs.2.1 xs.2.2.1.1 = runG (E94c86io101 n) noScope c94c86io101 an94c86io101 (rtIO rk94c86io101 (pk94c86io101.flatMap QK.ods)) (fun _ _ => none) (rtIO rk94c86io101 (pk94c86io101.flatMap QK.ods)) (st1 pk94c86io101 xs Try.f94.ntmps) := by kernel_rfl
noncomputable def P94c86io101 (n : Nat × Nat) := phioOf pk94c86io101 rk94c86io101 (pk94c86io101.flatMap QK.ods) (fun xs => S94c86io101 n xs.1 xs.2.1 xs.2.2.1.1)
theorem call94 : CallOK Try.prog 94 := callOK_of Try.func94 (by kernel_rfl) (by kernel_rfl)
theorem env94c86io101 (n : Nat × Nat) : EnvOK Try.prog (E94c86io101 n) := envOK (l := io94c86io101 n) noPhi_ok rfl rfl (by kernel_rfl) ⟨FC95c86io1001 n, call95, FC96c86io10001 n, call96, trivial⟩
theorem par94c86io101 (n : Nat × Nat) : EnvPar (E94c86io101 n) := envPar (l := io94c86io101 n) noPhi_par rfl ⟨phioOf_Pario1, phioOf_Pario1, trivial⟩
theorem FC94c86io101 (n : Nat × Nat) : FCios Try.prog 94 (pk94c86io101.map QK.flag) (P94c86io101 n) := phioOf_FCios fun xs r h vs hv => FCio.of_runG tabOK eqsOK (env94c86io101 n) (par94c86io101 n) mixed (fun _ => noScope_ok) Try.func94 (c := c94c86io101) (an := an94c86io101) (qks := pk94c86io101) (rks := rk94c86io101) (by kernel_rfl) (by kernel_rfl) hv ((S94c86io101_run n xs).symm.trans h)
end Go.Proofs.Ytnlbhjmbaedadaa
set_option linter.unusedVariables false
set_option linter.unusedSimpArgs false
set_option maxRecDepth 100000
namespace Go.Proofs.Ytnlbhjmbaedadaa
open Go.Vi
/- slices.SortStableFunc[[]int,int] -/
abbrev R85c86io11 := (Unit) × (List Int) × (List (Int × Int)) × Unit
noncomputable def c85c86io11 : Code := bodyOf Try.f85
noncomputable def an85c86io11 : Ann := .l
def pk85c86io11 : List QK := [.oa (.int .i64), .of 86 [(.sl (.pair (.int .i64) (.int .i64)))]]
def rk85c86io11 : List RK := []
noncomputable def rt85c86io11 (st : St) : Option R85c86io11 := rtIO rk85c86io11 (pk85c86io11.flatMap QK.ods) st
noncomputable def io85c86io11 (n : Nat × Nat) : List IoE := [⟨94, (isFns [none, none, some 86]), pk94c86io101.map QK.flag, P94c86io101 n⟩]
noncomputable def E85c86io11 (n : Nat × Nat) : Env := { T := tab, phi := noPhi, eff := fun _ => false, fuel := n.1, hold := n.2, phio := phioL (io85c86io11 n), iop := iopL (io85c86io11 n) }
noncomputable def S85c86io11 (n : Nat × Nat) (x0 : List Int) (cp_1_0 : List (Int × Int)) : Option R85c86io11 := run (E85c86io11 n) c85c86io11 an85c86io11 rt85c86io11 (fun _ _ => none) rt85c86io11 { tm := [.own 1000000000 none false, .fn 86 [.ptr 1000000001 0], uu, uu, uu, uu, uu, uu, uu], hp := (upd (upd emp 1000000001 (.box [.sl (.pair (.int .i64) (.int .i64)) cp_1_0 false])) 1000000000 (.arr (.int .i64) x0 false)) }
theorem S85c86io11_eq (n : Nat × Nat) (x0 : List Int) (cp_1_0 : List (Int × Int)) : S85c86io11 n x0 cp_1_0 =
    (S94c86io101 n x0 (x0.length : Int) cp_1_0).bind fun r1' =>
    (bif Nat.beq r1'.2.1.length x0.length then some ((), r1'.2.1, r1'.2.2.1, ())
    else none) := by kernel_rfl
theorem S85c86io11_run (n : Nat × Nat) (xs : qksDen pk85c86io11) : S85c86io11 n xs.1 xs.2.1.1 = runG (E85c86io11 n) noScope c85c86io11 an85c86io11 (rtIO rk85c86io11 (pk85c86io11.flatMap QK.ods)) (fun _ _ => none) (rtIO rk85c86io11 (pk85c86io11.flatMap QK.ods)) (st1 pk85c86io11 xs Try.f85.ntmps) := by kernel_rfl
noncomputable def P85c86io11 (n : Nat × Nat) := phioOf pk85c86io11 rk85c86io11 (pk85c86io11.flatMap QK.ods) (fun xs => S85c86io11 n xs.1 xs.2.1.1)
theorem call85 : CallOK Try.prog 85 := callOK_of Try.func85 (by kernel_rfl) (by kernel_rfl)
theorem env85c86io11 (n : Nat × Nat) : EnvOK Try.prog (E85c86io11 n) := envOK (l := io85c86io11 n) noPhi_ok rfl rfl (by kernel_rfl) ⟨FC94c86io101 n, call94, trivial⟩
theorem par85c86io11 (n : Nat × Nat) : EnvPar (E85c86io11 n) := envPar (l := io85c86io11 n) noPhi_par rfl ⟨phioOf_Pario1, trivial⟩
theorem FC85c86io11 (n : Nat × Nat) : FCios Try.prog 85 (pk85c86io11.map QK.flag) (P85c86io11 n) := phioOf_FCios fun xs r h vs hv => FCio.of_runG tabOK eqsOK (env85c86io11 n) (par85c86io11 n) mixed (fun _ => noScope_ok) Try.func85 (c := c85c86io11) (an := an85c86io11) (qks := pk85c86io11) (rks := rk85c86io11) (by kernel_rfl) (by kernel_rfl) hv ((S85c86io11_run n xs).symm.trans h)
end Go.Proofs.Ytnlbhjmbaedadaa
set_option linter.unusedVariables false
set_option linter.unusedSimpArgs false
set_option maxRecDepth 100000
namespace Go.Proofs.Ytnlbhjmbaedadaa
open Go.Vi
/- headword/press.rule$2 -/
abbrev R87 := Int
noncomputable def c87 : Code := bodyOf Try.f87
noncomputable def an87 : Ann := .l
def pk87 : List PK := [.c (.int .i64), .c (.int .i64), .p (.sl (.pair (.int .i64) (.int .i64)))]
def rk87 : List RK := [.c (.int .i64) 5]
noncomputable def rt87 (st : St) : Option R87 := rtG rk87 st
noncomputable def E87 (n : Nat × Nat) : Env := { T := tab, phi := noPhi, eff := fun _ => false, fuel := n.1, hold := n.2 }
noncomputable def S87 (n : Nat × Nat) (i0 : Int) (j1 : Int) (v2 : List (Int × Int)) : Option R87 := run (E87 n) c87 an87 rt87 (fun _ _ => none) rt87 { tm := [.c (.int .i64 i0), .c (.int .i64 j1), .iptr [.sl (.pair (.int .i64) (.int .i64)) v2 false], uu, uu, uu, uu, uu, uu, uu, uu, uu, uu, uu, uu, uu, uu], hp := emp }
theorem S87_eq (n : Nat × Nat) (i0 : Int) (j1 : Int) (v2 : List (Int × Int)) : S87 n i0 j1 v2 =
    (idx v2 j1).bind fun x1' =>
    (idx v2 i0).bind fun x2' =>
    some (wr .i64 (x1'.2 - x2'.2)) := by kernel_rfl
theorem S87_run (n : Nat × Nat) (xs : pksDen pk87) : S87 n xs.1 xs.2.1 xs.2.2.1 = runG (E87 n) noScope c87 an87 (rtG rk87) (fun _ _ => none) (rtG rk87) (st0 pk87 xs Try.f87.ntmps) := by kernel_rfl
noncomputable def P87 (n : Nat × Nat) := phiOf pk87 rk87 (fun xs => S87 n xs.1 xs.2.1 xs.2.2.1)
theorem call87 : CallOK Try.prog 87 := callOK_of Try.func87 (by kernel_rfl) (by kernel_rfl)
theorem env87 (n : Nat × Nat) : EnvOK Try.prog (E87 n) := envOK0 noPhi_ok rfl rfl
theorem par87 (n : Nat × Nat) : EnvPar (E87 n) := envPar0 noPhi_par rfl
theorem FC87 (n : Nat × Nat) : FCs Try.prog 87 (P87 n) := phiOf_FCs fun xs r h vs hv => FC.of_runG tabOK eqsOK (env87 n) (par87 n) mixed (fun _ => noScope_ok) Try.func87 (c := c87) (an := an87) (pks := pk87) (rks := rk87) (by kernel_rfl) (by kernel_rfl) hv ((S87_run n xs).symm.trans h)
end Go.Proofs.Ytnlbhjmbaedadaa
set_option linter.unusedVariables false
set_option linter.unusedSimpArgs false
set_option maxRecDepth 100000
namespace Go.Proofs.Ytnlbhjmbaedadaa
open Go.Vi
/- slices.insertionSortCmpFunc[int] -/
abbrev R95c87io1001 := (Unit) × (List Int) × (List (Int × Int)) × Unit
noncomputable def c95c87io1001 : Code := bodyOf Try.f95
noncomputable def an95c87io1001 : Ann := (.s .l (.j [1000000000, 1000000001] (.j [0, 1, 2, 3, 8, 22, 23, 24, 25, 26, 27, 28, 29, 30, 31, 32, 33, 1000000000, 1000000001] (.s (.s .l (.j [0, 1, 2, 3, 8, 22, 23, 24, 25, 26, 27, 28, 29, 30, 31, 32, 33, 1000000000, 1000000001] .l .l)) (.s (.j [0, 1, 2, 3, 8, 22, 23, 24, 25, 26, 27, 28, 29, 30, 31, 32, 33, 1000000000, 1000000001] (.s .l (.j [0, 1, 2, 3, 8, 22, 23, 24, 25, 26, 27, 28, 29, 30, 31, 32, 33, 1000000000, 1000000001] (.j [0, 1, 2, 3, 8, 9, 22, 23, 24, 25, 26, 27, 28, 29, 30, 31, 32, 33, 1000000000, 1000000001] (.s (.s .l (.j [0, 1, 2, 3, 8, 9, 22, 23, 24, 25, 26, 27, 28, 29, 30, 31, 32, 33, 1000000000, 1000000001] .l .l)) (.s (.j [0, 1, 2, 3, 8, 9, 22, 23, 24, 25, 26, 27, 28, 29, 30, 31, 32, 33, 1000000000, 1000000001] .l .l) .l)) .l) .l)) .l) .l)) .l) .l))
def pk95c87io1001 : List QK := [.oa (.int .i64), .pl (.c (.int .i64)), .pl (.c (.int .i64)), .of 87 [(.sl (.pair (.int .i64) (.int .i64)))]]
def rk95c87io1001 : List RK := []
noncomputable def rt95c87io1001 (st : St) : Option R95c87io1001 := rtIO rk95c87io1001 (pk95c87io1001.flatMap QK.ods) st
noncomputable def E95c87io1001 (n : Nat × Nat) : Env := { T := tab, phi := (consPhi 87 (fun _ => true) (P87 n) noPhi), eff := fun _ => false, fuel := n.1, hold := n.2, pcl := [22] }
noncomputable def kc95c87io1001_1 (n : Nat × Nat) : St → Option R95c87io1001 := fun s => normC [1000000000, 1000000001] s rt95c87io1001
noncomputable def xb95c87io1001_2 (n : Nat × Nat) : Nat → St → Option R95c87io1001 := fun j s => bif Nat.beq j 0 then normC [1000000000, 1000000001] s rt95c87io1001 else (fun _ _ => none) j s
noncomputable def F95c87io1001_3 (n : Nat × Nat) : (St → Option R95c87io1001) → St → Option R95c87io1001 := fun K s => run (E95c87io1001 n) (cA (cA (cB c95c87io1001))) (Ann.fst (Ann.fst (Ann.snd an95c87io1001))) (fun s => normC [0, 1, 2, 3, 8, 22, 23, 24, 25, 26, 27, 28, 29, 30, 31, 32, 33, 1000000000, 1000000001] s K) (xb95c87io1001_2 n) rt95c87io1001 s
noncomputable def kq95c87io1001_4 (n : Nat × Nat) (m1 : Nat) : St → Option R95c87io1001 := run (E95c87io1001 n) (cB (cA (cA (cB c95c87io1001)))) (Ann.snd (Ann.fst (Ann.fst (Ann.snd an95c87io1001)))) (fun s => normC [0, 1, 2, 3, 8, 22, 23, 24, 25, 26, 27, 28, 29, 30, 31, 32, 33, 1000000000, 1000000001] s (loopN (F95c87io1001_3 n) m1)) (xb95c87io1001_2 n) rt95c87io1001
noncomputable def kc95c87io1001_5 (n : Nat × Nat) (m1 : Nat) : St → Option R95c87io1001 := fun s => normC [0, 1, 2, 3, 8, 22, 23, 24, 25, 26, 27, 28, 29, 30, 31, 32, 33, 1000000000, 1000000001] s (kq95c87io1001_4 n m1)
noncomputable def kq95c87io1001_6 (n : Nat × Nat) (m1 : Nat) : St → Option R95c87io1001 := run (E95c87io1001 n) (cB (cB (cA (cA (cB c95c87io1001))))) (Ann.snd (Ann.snd (Ann.fst (Ann.fst (Ann.snd an95c87io1001))))) (fun s => normC [0, 1, 2, 3, 8, 22, 23, 24, 25, 26, 27, 28, 29, 30, 31, 32, 33, 1000000000, 1000000001] s (loopN (F95c87io1001_3 n) m1)) (xb95c87io1001_2 n) rt95c87io1001
noncomputable def kc95c87io1001_7 (n : Nat × Nat) (m1 : Nat) : St → Option R95c87io1001 := fun s => normC [0, 1, 2, 3, 8, 22, 23, 24, 25, 26, 27, 28, 29, 30, 31, 32, 33, 1000000000, 1000000001] s (kq95c87io1001_6 n m1)
noncomputable def xb95c87io1001_8 (n : Nat × Nat) (m1 : Nat) : Nat → St → Option R95c87io1001 := fun j s => bif Nat.beq j 1 then normC [0, 1, 2, 3, 8, 22, 23, 24, 25, 26, 27, 28, 29, 30, 31, 32, 33, 1000000000, 1000000001] s (kq95c87io1001_6 n m1) else (xb95c87io1001_2 n) j s
noncomputable def kc95c87io1001_9 (n : Nat × Nat) (m1 : Nat) : St → Option R95c87io1001 := fun s => normC [0, 1, 2, 3, 8, 22, 23, 24, 25, 26, 27, 28, 29, 30, 31, 32, 33, 1000000000, 1000000001] s (kc95c87io1001_7 n m1)
noncomputable def xb95c87io1001_10 (n : Nat × Nat) (m1 : Nat) : Nat → St → Option R95c87io1001 := fun j s => bif Nat.beq j 2 then normC [0, 1, 2, 3, 8, 22, 23, 24, 25, 26, 27, 28, 29, 30, 31, 32, 33, 1000000000, 1000000001] s (kc95c87io1001_7 n m1) else (xb95c87io1001_8 n m1) j s
noncomputable def F95c87io1001_11 (n : Nat × Nat) (m1 : Nat) : (St → Option R95c87io1001) → St → Option R95c87io1001 := fun K s => run (E95c87io1001 n) (cA (cA (cB (cA (cA (cB (cA (cA (cB c95c87io1001))))))))) (Ann.fst (Ann.fst (Ann.snd (Ann.fst (Ann.fst (Ann.snd (Ann.fst (Ann.fst (Ann.snd an95c87io1001))))))))) (fun s => normC [0, 1, 2, 3, 8, 9, 22, 23, 24, 25, 26, 27, 28, 29, 30, 31, 32, 33, 1000000000, 1000000001] s K) (xb95c87io1001_10 n m1) rt95c87io1001 s
noncomputable def kq95c87io1001_12 (n : Nat × Nat) (m1 m2 : Nat) : St → Option R95c87io1001 := run (E95c87io1001 n) (cB (cA (cA (cB (cA (cA (cB (cA (cA (cB c95c87io1001)))))))))) (Ann.snd (Ann.fst (Ann.fst (Ann.snd (Ann.fst (Ann.fst (Ann.snd (Ann.fst (Ann.fst (Ann.snd an95c87io1001)))))))))) (fun s => normC [0, 1, 2, 3, 8, 9, 22, 23, 24, 25, 26, 27, 28, 29, 30, 31, 32, 33, 1000000000, 1000000001] s (loopN (F95c87io1001_11 n m1) m2)) (xb95c87io1001_10 n m1) rt95c87io1001
noncomputable def kc95c87io1001_13 (n : Nat × Nat) (m1 m2 : Nat) : St → Option R95c87io1001 := fun s => normC [0, 1, 2, 3, 8, 9, 22, 23, 24, 25, 26, 27, 28, 29, 30, 31, 32, 33, 1000000000, 1000000001] s (kq95c87io1001_12 n m1 m2)
noncomputable def kq95c87io1001_14 (n : Nat × Nat) (m1 m2 : Nat) : St → Option R95c87io1001 := run (E95c87io1001 n) (cB (cB (cA (cA (cB (cA (cA (cB (cA (cA (cB c95c87io1001))))))))))) (Ann.snd (Ann.snd (Ann.fst (Ann.fst (Ann.snd (Ann.fst (Ann.fst (Ann.snd (Ann.fst (Ann.fst (Ann.snd an95c87io1001))))))))))) (fun s => normC [0, 1, 2, 3, 8, 9, 22, 23, 24, 25, 26, 27, 28, 29, 30, 31, 32, 33, 1000000000, 1000000001] s (loopN (F95c87io1001_11 n m1) m2)) (xb95c87io1001_10 n m1) rt95c87io1001
noncomputable def kc95c87io1001_15 (n : Nat × Nat) (m1 m2 : Nat) : St → Option R95c87io1001 := fun s => normC [0, 1, 2, 3, 8, 9, 22, 23, 24, 25, 26, 27, 28, 29, 30, 31, 32, 33, 1000000000, 1000000001] s (kq95c87io1001_14 n m1 m2)
noncomputable def xb95c87io1001_16 (n : Nat × Nat) (m1 m2 : Nat) : Nat → St → Option R95c87io1001 := fun j s => bif Nat.beq j 3 then normC [0, 1, 2, 3, 8, 9, 22, 23, 24, 25, 26, 27, 28, 29, 30, 31, 32, 33, 1000000000, 1000000001] s (kq95c87io1001_14 n m1 m2) else (xb95c87io1001_10 n m1) j s
noncomputable def L95c87io1001_1 (n : Nat × Nat) (m : Nat) (a1 : Int) (b2 : Int) (i8 : Int) (v1000000000 : List Int) (v1000000001 : List (Int × Int)) : Option R95c87io1001 := loopN (F95c87io1001_3 n) m { tm := [.own 1000000000 none false, .c (.int .i64 a1), .c (.int .i64 b2), .fn 87 [.ptr 1000000001 0], uu, uu, uu, uu, .c (.int .i64 i8), uu, uu, uu, uu, uu, uu, uu, uu, uu, uu, uu, uu, uu, uu, uu, uu, uu, uu, uu, uu, uu, uu, uu, uu, uu, uu, uu, uu, uu, uu, uu, uu, uu, uu, uu, uu, uu, uu, uu, uu, uu, uu, uu, uu], hp := (upd (upd emp 1000000001 (.box [.sl (.pair (.int .i64) (.int .i64)) v1000000001 false])) 1000000000 (.arr (.int .i64) v1000000000 false)) }
noncomputable def L95c87io1001_2 (n : Nat × Nat) (m1 : Nat) (m : Nat) (a1 : Int) (b2 : Int) (i8 : Int) (j9 : Int) (v1000000000 : List Int) (v1000000001 : List (Int × Int)) : Option R95c87io1001 := loopN (F95c87io1001_11 n m1) m { tm := [.own 1000000000 none false, .c (.int .i64 a1), .c (.int .i64 b2), .fn 87 [.ptr 1000000001 0], uu, uu, uu, uu, .c (.int .i64 i8), .c (.int .i64 j9), uu, uu, uu, uu, uu, uu, uu, uu, uu, uu, uu, uu, uu, uu, uu, uu, uu, uu, uu, uu, uu, uu, uu, uu, uu, uu, uu, uu, uu, uu, uu, uu, uu, uu, uu, uu, uu, uu, uu, uu, uu, uu, uu], hp := (upd (upd emp 1000000001 (.box [.sl (.pair (.int .i64) (.int .i64)) v1000000001 false])) 1000000000 (.arr (.int .i64) v1000000000 false)) }
theorem L95c87io1001_1_eq (n : Nat × Nat) (m1 : Nat) (a1 : Int) (b2 : Int) (i8 : Int) (v1000000000 : List Int) (v1000000001 : List (Int × Int)) : L95c87io1001_1 n (m1 + 1) a1 b2 i8 v1000000000 v1000000001 =
    (bif decide (i8 < b2) then L95c87io1001_2 n m1 n.1 a1 b2 i8 i8 v1000000000 v1000000001
    else some ((), v1000000000, v1000000001, ())) := by kernel_rfl
theorem L95c87io1001_2_eq (n : Nat × Nat) (m1 m2 : Nat) (a1 : Int) (b2 : Int) (i8 : Int) (j9 : Int) (v1000000000 : List Int) (v1000000001 : List (Int × Int)) : L95c87io1001_2 n m1 (m2 + 1) a1 b2 i8 j9 v1000000000 v1000000001 =
    ((bif (decide (j9 > a1) == true) then (bif inB j9 v1000000000.length then (idx v1000000000 j9).bind fun x1' =>
          (bif inB (wr .i64 (j9 - 1)) v1000000000.length then (idx v1000000000 (wr .i64 (j9 - 1))).bind fun x2' =>
            (S87 n x1' x2' v1000000001).bind fun r3' =>
            some (decide (r3' < 0))
          else none)
        else none)
      else some false)).bind fun b4' =>
    (bif b4' then (bif inB (wr .i64 (j9 - 1)) v1000000000.length then (idx v1000000000 (wr .i64 (j9 - 1))).bind fun x5' =>
        (bif inB j9 v1000000000.length then (idx v1000000000 j9).bind fun x6' =>
          (bif inB j9 v1000000000.length then (idx v1000000000 j9).bind fun x7' =>
            (bif inB (wr .i64 (j9 - 1)) (v1000000000.set (Int.toNat j9) x5').length then (idx (v1000000000.set (Int.toNat j9) x5') (wr .i64 (j9 - 1))).bind fun x8' =>
              L95c87io1001_2 n m1 m2 a1 b2 i8 (wr .i64 (j9 - 1)) ((v1000000000.set (Int.toNat j9) x5').set (Int.toNat (wr .i64 (j9 - 1))) x6') v1000000001
            else none)
          else none)
        else none)
      else none)
    else L95c87io1001_1 n m1 a1 b2 (wr .i64 (i8 + 1)) v1000000000 v1000000001) := by kernel_rfl
noncomputable def S95c87io1001 (n : Nat × Nat) (data0 : List Int) (a1 : Int) (b2 : Int) (cp_3_0 : List (Int × Int)) : Option R95c87io1001 := run (E95c87io1001 n) c95c87io1001 an95c87io1001 rt95c87io1001 (fun _ _ => none) rt95c87io1001 { tm := [.own 1000000000 none false, .c (.int .i64 a1), .c (.int .i64 b2), .fn 87 [.ptr 1000000001 0], uu, uu, uu, uu, uu, uu, uu, uu, uu, uu, uu, uu, uu, uu, uu, uu, uu, uu, uu, uu, uu, uu, uu, uu, uu, uu, uu, uu, uu, uu, uu, uu, uu, uu, uu, uu, uu, uu, uu, uu, uu, uu, uu, uu, uu, uu, uu, uu, uu], hp := (upd (upd emp 1000000001 (.box [.sl (.pair (.int .i64) (.int .i64)) cp_3_0 false])) 1000000000 (.arr (.int .i64) data0 false)) }
theorem S95c87io1001_eq (n : Nat × Nat) (data0 : List Int) (a1 : Int) (b2 : Int) (cp_3_0 : List (Int × Int)) : S95c87io1001 n data0 a1 b2 cp_3_0 =
    L95c87io1001_1 n n.1 a1 b2 (wr .i64 (a1 + 1)) data0 cp_3_0 := by kernel_rfl
theorem S95c87io1001_run (n : Nat × Nat) (xs : qksDen pk95c87io1001) : S95c87io1001 n xs.1 xs.2.1 xs.2.2.1 xs.2.2.2.1.1 = runG (E95c87io1001 n) noScope c95c87io1001 an95c87io1001 (rtIO rk95c87io1001 (pk95c87io1001.flatMap QK.ods)) (fun _ _ => none) (rtIO rk95c87io1001 (pk95c87io1001.flatMap QK.ods)) (st1 pk95c87io1001 xs Try.f95.ntmps) := by kernel_rfl
noncomputable def P95c87io1001 (n : Nat × Nat) := phioOf pk95c87io1001 rk95c87io1001 (pk95c87io1001.flatMap QK.ods) (fun xs => S95c87io1001 n xs.1 xs.2.1 xs.2.2.1 xs.2.2.2.1.1)
theorem env95c87io1001 (n : Nat × Nat) : EnvOK Try.prog (E95c87io1001 n) := envOK0 (consPhi_ok (FC87 n) call87 noPhi_ok) rfl rfl
theorem par95c87io1001 (n : Nat × Nat) : EnvPar (E95c87io1001 n) := envPar0 (consPhi_par phiOf_Par1 noPhi_par) rfl
theorem FC95c87io1001 (n : Nat × Nat) : FCios Try.prog 95 (pk95c87io1001.map QK.flag) (P95c87io1001 n) := phioOf_FCios fun xs r h vs hv => FCio.of_runG tabOK eqsOK (env95c87io1001 n) (par95c87io1001 n) mixed (fun _ => noScope_ok) Try.func95 (c := c95c87io1001) (an := an95c87io1001) (qks := pk95c87io1001) (rks := rk95c87io1001) (by kernel_rfl) (by kernel_rfl) hv ((S95c87io1001_run n xs).symm.trans h)
end Go.Proofs.Ytnlbhjmbaedadaa
set_option linter.unusedVariables false
set_option linter.unusedSimpArgs false
set_option maxRecDepth 100000
namespace Go.Proofs.Ytnlbhjmbaedadaa
open Go.Vi
/- slices.swapRangeCmpFunc[int] -/
abbrev R98c87io10001 := (Unit) × (List Int) × (List (Int × Int)) × Unit
noncomputable def c98c87io10001 : Code := bodyOf Try.f98
noncomputable def an98c87io10001 : Ann := (.s .l (.j [1000000000, 1000000001] (.j [0, 1, 2, 3, 10, 1000000000, 1000000001] (.s (.s .l (.j [0, 1, 2, 3, 10, 1000000000, 1000000001] .l .l)) (.s (.j [0, 1, 2, 3, 10, 1000000000, 1000000001] .l .l) .l)) .l) .l))
def pk98c87io10001 : List QK := [.oa (.int .i64), .pl (.c (.int .i64)), .pl (.c (.int .i64)), .pl (.c (.int .i64)), .of 87 [(.sl (.pair (.int .i64) (.int .i64)))]]
def rk98c87io10001 : List RK := []
noncomputable def rt98c87io10001 (st : St) : Option R98c87io10001 := rtIO rk98c87io10001 (pk98c87io10001.flatMap QK.ods) st
noncomputable def E98c87io10001 (n : Nat × Nat) : Env := { T := tab, phi := noPhi, eff := fun _ => false, fuel := n.1, hold := n.2 }
noncomputable def kc98c87io10001_1 (n : Nat × Nat) : St → Option R98c87io10001 := fun s => normC [1000000000, 1000000001] s rt98c87io10001
noncomputable def xb98c87io10001_2 (n : Nat × Nat) : Nat → St → Option R98c87io10001 := fun j s => bif Nat.beq j 0 then normC [1000000000, 1000000001] s rt98c87io10001 else (fun _ _ => none) j s
noncomputable def F98c87io10001_3 (n : Nat × Nat) : (St → Option R98c87io10001) → St → Option R98c87io10001 := fun K s => run (E98c87io10001 n) (cA (cA (cB c98c87io10001))) (Ann.fst (Ann.fst (Ann.snd an98c87io10001))) (fun s => normC [0, 1, 2, 3, 10, 1000000000, 1000000001] s K) (xb98c87io10001_2 n) rt98c87io10001 s
noncomputable def kq98c87io10001_4 (n : Nat × Nat) (m1 : Nat) : St → Option R98c87io10001 := run (E98c87io10001 n) (cB (cA (cA (cB c98c87io10001)))) (Ann.snd (Ann.fst (Ann.fst (Ann.snd an98c87io10001)))) (fun s => normC [0, 1, 2, 3, 10, 1000000000, 1000000001] s (loopN (F98c87io10001_3 n) m1)) (xb98c87io10001_2 n) rt98c87io10001
noncomputable def kc98c87io10001_5 (n : Nat × Nat) (m1 : Nat) : St → Option R98c87io10001 := fun s => normC [0, 1, 2, 3, 10, 1000000000, 1000000001] s (kq98c87io10001_4 n m1)
noncomputable def kq98c87io10001_6 (n : Nat × Nat) (m1 : Nat) : St → Option R98c87io10001 := run (E98c87io10001 n) (cB (cB (cA (cA (cB c98c87io10001))))) (Ann.snd (Ann.snd (Ann.fst (Ann.fst (Ann.snd an98c87io10001))))) (fun s => normC [0, 1, 2, 3, 10, 1000000000, 1000000001] s (loopN (F98c87io10001_3 n) m1)) (xb98c87io10001_2 n) rt98c87io10001
noncomputable def kc98c87io10001_7 (n : Nat × Nat) (m1 : Nat) : St → Option R98c87io10001 := fun s => normC [0, 1, 2, 3, 10, 1000000000, 1000000001] s (kq98c87io10001_6 n m1)
noncomputable def xb98c87io10001_8 (n : Nat × Nat) (m1 : Nat) : Nat → St → Option R98c87io10001 := fun j s => bif Nat.beq j 1 then normC [0, 1, 2, 3, 10, 1000000000, 1000000001] s (kq98c87io10001_6 n m1) else (xb98c87io10001_2 n) j s
noncomputable def L98c87io10001_1 (n : Nat × Nat) (m : Nat) (a1 : Int) (b2 : Int) (v3 : Int) (i10 : Int) (v1000000000 : List Int) (v1000000001 : List (Int × Int)) : Option R98c87io10001 := loopN (F98c87io10001_3 n) m { tm := [.own 1000000000 none false, .c (.int .i64 a1), .c (.int .i64 b2), .c (.int .i64 v3), uu, uu, uu, uu, uu, uu, .c (.int .i64 i10), uu, uu, uu, uu, uu, uu, uu, uu, uu, uu, uu, uu, uu, uu, uu, uu, uu, uu, uu, uu, uu, uu, uu, uu, uu, uu, uu], hp := (upd (upd emp 1000000001 (.box [.sl (.pair (.int .i64) (.int .i64)) v1000000001 false])) 1000000000 (.arr (.int .i64) v1000000000 false)) }
theorem L98c87io10001_1_eq (n : Nat × Nat) (m1 : Nat) (a1 : Int) (b2 : Int) (v3 : Int) (i10 : Int) (v1000000000 : List Int) (v1000000001 : List (Int × Int)) : L98c87io10001_1 n (m1 + 1) a1 b2 v3 i10 v1000000000 v1000000001 =
    (bif decide (i10 < v3) then (bif inB (wr .i64 (b2 + i10)) v1000000000.length then (idx v1000000000 (wr .i64 (b2 + i10))).bind fun x1' =>
        (bif inB (wr .i64 (a1 + i10)) v1000000000.length then (idx v1000000000 (wr .i64 (a1 + i10))).bind fun x2' =>
          (bif inB (wr .i64 (a1 + i10)) v1000000000.length then (idx v1000000000 (wr .i64 (a1 + i10))).bind fun x3' =>
            (bif inB (wr .i64 (b2 + i10)) (v1000000000.set (Int.toNat (wr .i64 (a1 + i10))) x1').length then (idx (v1000000000.set (Int.toNat (wr .i64 (a1 + i10))) x1') (wr .i64 (b2 + i10))).bind fun x4' =>
              L98c87io10001_1 n m1 a1 b2 v3 (wr .i64 (i10 + 1)) ((v1000000000.set (Int.toNat (wr .i64 (a1 + i10))) x1').set (Int.toNat (wr .i64 (b2 + i10))) x2') v1000000001
            else none)
          else none)
        else none)
      else none)
    else some ((), v1000000000, v1000000001, ())) := by kernel_rfl
noncomputable def S98c87io10001 (n : Nat × Nat) (data0 : List Int) (a1 : Int) (b2 : Int) (v3 : Int) (cp_4_0 : List (Int × Int)) : Option R98c87io10001 := run (E98c87io10001 n) c98c87io10001 an98c87io10001 rt98c87io10001 (fun _ _ => none) rt98c87io10001 { tm := [.own 1000000000 none false, .c (.int .i64 a1), .c (.int .i64 b2), .c (.int .i64 v3), .fn 87 [.ptr 1000000001 0], uu, uu, uu, uu, uu, uu, uu, uu, uu, uu, uu, uu, uu, uu, uu, uu, uu, uu, uu, uu, uu, uu, uu, uu, uu, uu, uu, uu, uu, uu, uu, uu, uu], hp := (upd (upd emp 1000000001 (.box [.sl (.pair (.int .i64) (.int .i64)) cp_4_0 false])) 1000000000 (.arr (.int .i64) data0 false)) }
theorem S98c87io10001_eq (n : Nat × Nat) (data0 : List Int) (a1 : Int) (b2 : Int) (v3 : Int) (cp_4_0 : List (Int × Int)) : S98c87io10001 n data0 a1 b2 v3 cp_4_0 =
    L98c87io10001_1 n n.1 a1 b2 v3 0 data0 cp_4_0 := by kernel_rfl
theorem S98c87io10001_run (n : Nat × Nat) (xs : qksDen pk98c87io10001) : S98c87io10001 n xs.1 xs.2.1 xs.2.2.1 xs.2.2.2.1 xs.2.2.2.2.1.1 = runG (E98c87io10001 n) noScope c98c87io10001 an98c87io10001 (rtIO rk98c87io10001 (pk98c87io10001.flatMap QK.ods)) (fun _ _ => none) (rtIO rk98c87io10001 (pk98c87io10001.flatMap QK.ods)) (st1 pk98c87io10001 xs Try.f98.ntmps) := by kernel_rfl
noncomputable def P98c87io10001 (n : Nat × Nat) := phioOf pk98c87io10001 rk98c87io10001 (pk98c87io10001.flatMap QK.ods) (fun xs => S98c87io10001 n xs.1 xs.2.1 xs.2.2.1 xs.2.2.2.1 xs.2.2.2.2.1.1)
theorem env98c87io10001 (n : Nat × Nat) : EnvOK Try.prog (E98c87io10001 n) := envOK0 noPhi_ok rfl rfl
theorem par98c87io10001 (n : Nat × Nat) : EnvPar (E98c87io10001 n) := envPar0 noPhi_par rfl
theorem FC98c87io10001 (n : Nat × Nat) : FCios Try.prog 98 (pk98c87io10001.map QK.flag) (P98c87io10001 n) := phioOf_FCios fun xs r h vs hv => FCio.of_runG tabOK eqsOK (env98c87io10001 n) (par98c87io10001 n) mixed (fun _ => noScope_ok) Try.func98 (c := c98c87io10001) (an := an98c87io10001) (qks := pk98c87io10001) (rks := rk98c87io10001) (by kernel_rfl) (by kernel_rfl) hv ((S98c87io10001_run n xs).symm.trans h)
end Go.Proofs.Ytnlbhjmbaedadaa
set_option linter.unusedVariables false
set_option linter.unusedSimpArgs false
set_option maxRecDepth 100000
namespace Go.Proofs.Ytnlbhjmbaedadaa
open Go.Vi
/- slices.rotateCmpFunc[int] -/
abbrev R97c87io10001 := (Unit) × (List Int) × (List (Int × Int)) × Unit
noncomputable def c97c87io10001 : Code := bodyOf Try.f97
noncomputable def an97c87io10001 : Ann := (.s .l (.s .l (.s (.j [0, 2, 4, 10, 1000000000, 1000000001] (.j [0, 2, 4, 10, 11, 1000000000, 1000000001] (.s (.s .l (.j [0, 2, 4, 10, 11, 1000000000, 1000000001] .l .l)) (.j [0, 2, 4, 10, 11, 1000000000, 1000000001] (.s .l (.j [0, 2, 4, 10, 11, 1000000000, 1000000001] .l .l)) .l)) .l) .l) .l)))
def pk97c87io10001 : List QK := [.oa (.int .i64), .pl (.c (.int .i64)), .pl (.c (.int .i64)), .pl (.c (.int .i64)), .of 87 [(.sl (.pair (.int .i64) (.int .i64)))]]
def rk97c87io10001 : List RK := []
noncomputable def rt97c87io10001 (st : St) : Option R97c87io10001 := rtIO rk97c87io10001 (pk97c87io10001.flatMap QK.ods) st
noncomputable def io97c87io10001 (n : Nat × Nat) : List IoE := [⟨98, (isFns [none, none, none, none, some 87]), pk98c87io10001.map QK.flag, P98c87io10001 n⟩]
noncomputable def E97c87io10001 (n : Nat × Nat) : Env := { T := tab, phi := noPhi, eff := fun _ => false, fuel := n.1, hold := n.2, phio := phioL (io97c87io10001 n), iop := iopL (io97c87io10001 n) }
noncomputable def kq97c87io10001_1 (n : Nat × Nat) : St → Option R97c87io10001 := run (E97c87io10001 n) (cB (cB (cB c97c87io10001))) (Ann.snd (Ann.snd (Ann.snd an97c87io10001))) rt97c87io10001 (fun _ _ => none) rt97c87io10001
noncomputable def kc97c87io10001_2 (n : Nat × Nat) : St → Option R97c87io10001 := fun s => normC [0, 2, 4, 10, 1000000000, 1000000001] s (kq97c87io10001_1 n)
noncomputable def xb97c87io10001_3 (n : Nat × Nat) : Nat → St → Option R97c87io10001 := fun j s => bif Nat.beq j 0 then normC [0, 2, 4, 10, 1000000000, 1000000001] s (kq97c87io10001_1 n) else (fun _ _ => none) j s
noncomputable def F97c87io10001_4 (n : Nat × Nat) : (St → Option R97c87io10001) → St → Option R97c87io10001 := fun K s => run (E97c87io10001 n) (cA (cA (cA (cB (cB c97c87io10001))))) (Ann.fst (Ann.fst (Ann.fst (Ann.snd (Ann.snd an97c87io10001))))) (fun s => normC [0, 2, 4, 10, 11, 1000000000, 1000000001] s K) (xb97c87io10001_3 n) rt97c87io10001 s
noncomputable def kq97c87io10001_5 (n : Nat × Nat) (m1 : Nat) : St → Option R97c87io10001 := run (E97c87io10001 n) (cB (cA (cA (cA (cB (cB c97c87io10001)))))) (Ann.snd (Ann.fst (Ann.fst (Ann.fst (Ann.snd (Ann.snd an97c87io10001)))))) (fun s => normC [0, 2, 4, 10, 11, 1000000000, 1000000001] s (loopN (F97c87io10001_4 n) m1)) (xb97c87io10001_3 n) rt97c87io10001
noncomputable def kc97c87io10001_6 (n : Nat × Nat) (m1 : Nat) : St → Option R97c87io10001 := fun s => normC [0, 2, 4, 10, 11, 1000000000, 1000000001] s (kq97c87io10001_5 n m1)
noncomputable def kc97c87io10001_7 (n : Nat × Nat) (m1 : Nat) : St → Option R97c87io10001 := fun s => normC [0, 2, 4, 10, 11, 1000000000, 1000000001] s (fun s => normC [0, 2, 4, 10, 11, 1000000000, 1000000001] s (loopN (F97c87io10001_4 n) m1))
noncomputable def xb97c87io10001_8 (n : Nat × Nat) (m1 : Nat) : Nat → St → Option R97c87io10001 := fun j s => bif Nat.beq j 1 then normC [0, 2, 4, 10, 11, 1000000000, 1000000001] s (fun s => normC [0, 2, 4, 10, 11, 1000000000, 1000000001] s (loopN (F97c87io10001_4 n) m1)) else (xb97c87io10001_3 n) j s
noncomputable def kc97c87io10001_9 (n : Nat × Nat) (m1 : Nat) : St → Option R97c87io10001 := fun s => normC [0, 2, 4, 10, 11, 1000000000, 1000000001] s (kc97c87io10001_7 n m1)
noncomputable def L97c87io10001_1 (n : Nat × Nat) (m : Nat) (m2 : Int) (i10 : Int) (j11 : Int) (v1000000000 : List Int) (v1000000001 : List (Int × Int)) : Option R97c87io10001 := loopN (F97c87io10001_4 n) m { tm := [.own 1000000000 none false, uu, .c (.int .i64 m2), uu, .fn 87 [.ptr 1000000001 0], uu, uu, uu, uu, uu, .c (.int .i64 i10), .c (.int .i64 j11), uu, uu, uu, uu, uu, uu, uu, uu, uu, uu, uu, uu, uu, uu, uu, uu, uu, uu, uu, uu, uu, uu, uu, uu, uu, uu, uu, uu, uu, uu, uu, uu, uu, uu, uu, uu, uu, uu, uu, uu, uu, uu, uu, uu, uu, uu], hp := (upd (upd emp 1000000001 (.box [.sl (.pair (.int .i64) (.int .i64)) v1000000001 false])) 1000000000 (.arr (.int .i64) v1000000000 false)) }
theorem L97c87io10001_1_eq (n : Nat × Nat) (m1 : Nat) (m2 : Int) (i10 : Int) (j11 : Int) (v1000000000 : List Int) (v1000000001 : List (Int × Int)) : L97c87io10001_1 n (m1 + 1) m2 i10 j11 v1000000000 v1000000001 =
    (bif (i10 != j11) then (bif decide (i10 > j11) then (S98c87io10001 n v1000000000 (wr .i64 (m2 - i10)) m2 j11 v1000000001).bind fun r1' =>
        (bif Nat.beq r1'.2.1.length v1000000000.length then L97c87io10001_1 n m1 m2 (wr .i64 (i10 - j11)) j11 r1'.2.1 r1'.2.2.1
        else none)
      else (S98c87io10001 n v1000000000 (wr .i64 (m2 - i10)) (wr .i64 ((wr .i64 (m2 + j11)) - i10)) i10 v1000000001).bind fun r2' =>
        (bif Nat.beq r2'.2.1.length v1000000000.length then L97c87io10001_1 n m1 m2 i10 (wr .i64 (j11 - i10)) r2'.2.1 r2'.2.2.1
        else none))
    else (S98c87io10001 n v1000000000 (wr .i64 (m2 - i10)) m2 i10 v1000000001).bind fun r3' =>
      (bif Nat.beq r3'.2.1.length v1000000000.length then some ((), r3'.2.1, r3'.2.2.1, ())
      else none)) := by kernel_rfl
noncomputable def S97c87io10001 (n : Nat × Nat) (data0 : List Int) (a1 : Int) (m2 : Int) (b3 : Int) (cp_4_0 : List (Int × Int)) : Option R97c87io10001 := run (E97c87io10001 n) c97c87io10001 an97c87io10001 rt97c87io10001 (fun _ _ => none) rt97c87io10001 { tm := [.own 1000000000 none false, .c (.int .i64 a1), .c (.int .i64 m2), .c (.int .i64 b3), .fn 87 [.ptr 1000000001 0], uu, uu, uu, uu, uu, uu, uu, uu, uu, uu, uu, uu, uu, uu, uu, uu, uu, uu, uu, uu, uu, uu, uu, uu, uu, uu, uu, uu, uu, uu, uu, uu, uu, uu, uu, uu, uu, uu, uu, uu, uu, uu, uu, uu, uu, uu, uu, uu, uu, uu, uu, uu, uu], hp := (upd (upd emp 1000000001 (.box [.sl (.pair (.int .i64) (.int .i64)) cp_4_0 false])) 1000000000 (.arr (.int .i64) data0 false)) }
theorem S97c87io10001_eq (n : Nat × Nat) (data0 : List Int) (a1 : Int) (m2 : Int) (b3 : Int) (cp_4_0 : List (Int × Int)) : S97c87io10001 n data0 a1 m2 b3 cp_4_0 =
    L97c87io10001_1 n n.1 m2 (wr .i64 (m2 - a1)) (wr .i64 (b3 - m2)) data0 cp_4_0 := by kernel_rfl
theorem S97c87io10001_run (n : Nat × Nat) (xs : qksDen pk97c87io10001) : S97c87io10001 n xs.1 xs.2.1 xs.2.2.1 xs.2.2.2.1 xs.2.2.2.2.1.1 = runG (E97c87io10001 n) noScope c97c87io10001 an97c87io10001 (rtIO rk97c87io10001 (pk97c87io10001.flatMap QK.ods)) (fun _ _ => none) (rtIO rk97c87io10001 (pk97c87io10001.flatMap QK.ods)) (st1 pk97c87io10001 xs Try.f97.ntmps) := by kernel_rfl
noncomputable def P97c87io10001 (n : Nat × Nat) := phioOf pk97c87io10001 rk97c87io10001 (pk97c87io10001.flatMap QK.ods) (fun xs => S97c87io10001 n xs.1 xs.2.1 xs.2.2.1 xs.2.2.2.1 xs.2.2.2.2.1.1)
theorem env97c87io10001 (n : Nat × Nat) : EnvOK Try.prog (E97c87io10001 n) := envOK (l := io97c87io10001 n) noPhi_ok rfl rfl (by kernel_rfl) ⟨FC98c87io10001 n, call98, trivial⟩
theorem par97c87io10001 (n : Nat × Nat) : EnvPar (E97c87io10001 n) := envPar (l := io97c87io10001 n) noPhi_par rfl ⟨phioOf_Pario1, trivial⟩
theorem FC97c87io10001 (n : Nat × Nat) : FCios Try.prog 97 (pk97c87io10001.map QK.flag) (P97c87io10001 n) := phioOf_FCios fun xs r h vs hv => FCio.of_runG tabOK eqsOK (env97c87io10001 n) (par97c87io10001 n) mixed (fun _ => noScope_ok) Try.func97 (c := c97c87io10001) (an := an97c87io10001) (qks := pk97c87io10001) (rks := rk97c87io10001) (by kernel_rfl) (by kernel_rfl) hv ((S97c87io10001_run n xs).symm.trans h)
end Go.Proofs.Ytnlbhjmbaedadaa
set_option linter.unusedVariables false
set_option linter.unusedSimpArgs false
set_option maxRecDepth 100000
namespace Go.Proofs.Ytnlbhjmbaedadaa
open Go.Vi
/- slices.symMergeCmpFunc[int] -/
abbrev R96c87io10001 := (Unit) × (List Int) × (List (Int × Int)) × Unit
noncomputable def c96c87io10001 : Code := bodyOf Try.f96
noncomputable def an96c87io10001 : Ann := (.s (.s .l (.j [0, 1, 2, 3, 4, 182, 183, 184, 196, 197, 198, 210, 211, 212, 1000000000, 1000000001] (.s .l (.s .l (.s (.j [0, 1, 10, 1000000000, 1000000001] (.j [0, 1, 4, 10, 11, 1000000000, 1000000001] (.s (.s .l (.j [0, 1, 4, 10, 11, 1000000000, 1000000001] .l .l)) (.j [0, 1, 4, 10, 11, 1000000000, 1000000001] (.s .l (.s .l (.j [0, 1, 4, 10, 11, 1000000000, 1000000001] .l .l))) .l)) .l) .l) (.s (.s .l (.j [1000000000, 1000000001] (.j [0, 10, 13, 1000000000, 1000000001] (.s (.s .l (.j [0, 10, 13, 1000000000, 1000000001] .l .l)) (.s (.j [0, 10, 13, 1000000000, 1000000001] .l .l) .l)) .l) .l)) .l)))) .l)) (.s (.s .l (.j [0, 1, 2, 3, 4, 182, 183, 184, 196, 197, 198, 210, 211, 212, 1000000000, 1000000001] (.s .l (.s .l (.s (.j [0, 2, 14, 1000000000, 1000000001] (.j [0, 2, 4, 14, 15, 1000000000, 1000000001] (.s (.s .l (.j [0, 2, 4, 14, 15, 1000000000, 1000000001] .l .l)) (.j [0, 2, 4, 14, 15, 1000000000, 1000000001] (.s .l (.s .l (.j [0, 2, 4, 14, 15, 1000000000, 1000000001] .l .l))) .l)) .l) .l) (.s (.s .l (.j [1000000000, 1000000001] (.j [0, 14, 17, 1000000000, 1000000001] (.s (.s .l (.j [0, 14, 17, 1000000000, 1000000001] .l .l)) (.s (.j [0, 14, 17, 1000000000, 1000000001] .l .l) .l)) .l) .l)) .l)))) .l)) (.s .l (.s .l (.s .l (.s (.s .l (.j [0, 1, 2, 3, 4, 18, 19, 20, 21, 182, 183, 184, 196, 197, 198, 210, 211, 212, 1000000000, 1000000001] .l .l)) (.s .l (.s (.j [0, 1, 2, 3, 4, 18, 19, 20, 182, 183, 184, 196, 197, 198, 210, 211, 212, 1000000000, 1000000001] (.j [0, 1, 2, 3, 4, 18, 19, 20, 21, 22, 182, 183, 184, 196, 197, 198, 210, 211, 212, 1000000000, 1000000001] (.s (.s .l (.j [0, 1, 2, 3, 4, 18, 19, 20, 21, 22, 182, 183, 184, 196, 197, 198, 210, 211, 212, 1000000000, 1000000001] .l .l)) (.j [0, 1, 2, 3, 4, 18, 19, 20, 21, 22, 182, 183, 184, 196, 197, 198, 210, 211, 212, 1000000000, 1000000001] (.s .l (.s .l (.j [0, 1, 2, 3, 4, 18, 19, 20, 21, 22, 182, 183, 184, 196, 197, 198, 210, 211, 212, 1000000000, 1000000001] .l .l))) .l)) .l) .l) (.s .l (.s (.s .l (.j [0, 1, 3, 4, 18, 20, 24, 196, 197, 198, 210, 211, 212, 1000000000, 1000000001] .l .l)) (.s (.s .l (.j [0, 3, 4, 18, 24, 210, 211, 212, 1000000000, 1000000001] .l .l)) (.s .l (.j [1000000000, 1000000001] .l .l)))))))))))))
def pk96c87io10001 : List QK := [.oa (.int .i64), .pl (.c (.int .i64)), .pl (.c (.int .i64)), .pl (.c (.int .i64)), .of 87 [(.sl (.pair (.int .i64) (.int .i64)))]]
def rk96c87io10001 : List RK := []
noncomputable def rt96c87io10001 (st : St) : Option R96c87io10001 := rtIO rk96c87io10001 (pk96c87io10001.flatMap QK.ods) st
noncomputable def io96c87io10001 (n : Nat × Nat) (SS : List Int → Int → Int → Int → (List (Int × Int)) → Option R96c87io10001) : List IoE := [⟨97, (isFns [none, none, none, none, some 87]), pk97c87io10001.map QK.flag, P97c87io10001 n⟩, ⟨96, (fun _ => true), pk96c87io10001.map QK.flag, (phioOf pk96c87io10001 rk96c87io10001 (pk96c87io10001.flatMap QK.ods) (fun xs => SS xs.1 xs.2.1 xs.2.2.1 xs.2.2.2.1 xs.2.2.2.2.1.1))⟩]
noncomputable def E96c87io10001 (n : Nat × Nat) (SS : List Int → Int → Int → Int → (List (Int × Int)) → Option R96c87io10001) : Env := { T := tab, phi := (consPhi 87 (fun _ => true) (P87 n) noPhi), eff := fun _ => false, fuel := n.1, hold := n.2, phio := phioL (io96c87io10001 n SS), iop := iopL (io96c87io10001 n SS), pcl := [40, 92, 158] }
noncomputable def kq96c87io10001_1 (n : Nat × Nat) (SS : List Int → Int → Int → Int → (List (Int × Int)) → Option R96c87io10001) : St → Option R96c87io10001 := run (E96c87io10001 n SS) (cB c96c87io10001) (Ann.snd an96c87io10001) rt96c87io10001 (fun _ _ => none) rt96c87io10001
noncomputable def kc96c87io10001_2 (n : Nat × Nat) (SS : List Int → Int → Int → Int → (List (Int × Int)) → Option R96c87io10001) : St → Option R96c87io10001 := fun s => normC [0, 1, 2, 3, 4, 182, 183, 184, 196, 197, 198, 210, 211, 212, 1000000000, 1000000001] s (kq96c87io10001_1 n SS)
noncomputable def kq96c87io10001_3 (n : Nat × Nat) (SS : List Int → Int → Int → Int → (List (Int × Int)) → Option R96c87io10001) : St → Option R96c87io10001 := run (E96c87io10001 n SS) (cB (cB (cB (cA (cB (cA c96c87io10001)))))) (Ann.snd (Ann.snd (Ann.snd (Ann.fst (Ann.snd (Ann.fst an96c87io10001)))))) (kc96c87io10001_2 n SS) (fun _ _ => none) rt96c87io10001
noncomputable def kc96c87io10001_4 (n : Nat × Nat) (SS : List Int → Int → Int → Int → (List (Int × Int)) → Option R96c87io10001) : St → Option R96c87io10001 := fun s => normC [0, 1, 10, 1000000000, 1000000001] s (kq96c87io10001_3 n SS)
noncomputable def xb96c87io10001_5 (n : Nat × Nat) (SS : List Int → Int → Int → Int → (List (Int × Int)) → Option R96c87io10001) : Nat → St → Option R96c87io10001 := fun j s => bif Nat.beq j 0 then normC [0, 1, 10, 1000000000, 1000000001] s (kq96c87io10001_3 n SS) else (fun _ _ => none) j s
noncomputable def F96c87io10001_6 (n : Nat × Nat) (SS : List Int → Int → Int → Int → (List (Int × Int)) → Option R96c87io10001) : (St → Option R96c87io10001) → St → Option R96c87io10001 := fun K s => run (E96c87io10001 n SS) (cA (cA (cA (cB (cB (cA (cB (cA c96c87io10001)))))))) (Ann.fst (Ann.fst (Ann.fst (Ann.snd (Ann.snd (Ann.fst (Ann.snd (Ann.fst an96c87io10001)))))))) (fun s => normC [0, 1, 4, 10, 11, 1000000000, 1000000001] s K) (xb96c87io10001_5 n SS) rt96c87io10001 s
noncomputable def kq96c87io10001_7 (n : Nat × Nat) (SS : List Int → Int → Int → Int → (List (Int × Int)) → Option R96c87io10001) : St → Option R96c87io10001 := run (E96c87io10001 n SS) (cB (cB c96c87io10001)) (Ann.snd (Ann.snd an96c87io10001)) rt96c87io10001 (fun _ _ => none) rt96c87io10001
noncomputable def kc96c87io10001_8 (n : Nat × Nat) (SS : List Int → Int → Int → Int → (List (Int × Int)) → Option R96c87io10001) : St → Option R96c87io10001 := fun s => normC [0, 1, 2, 3, 4, 182, 183, 184, 196, 197, 198, 210, 211, 212, 1000000000, 1000000001] s (kq96c87io10001_7 n SS)
noncomputable def kq96c87io10001_9 (n : Nat × Nat) (SS : List Int → Int → Int → Int → (List (Int × Int)) → Option R96c87io10001) : St → Option R96c87io10001 := run (E96c87io10001 n SS) (cB (cB (cB (cA (cB (cA (cB c96c87io10001))))))) (Ann.snd (Ann.snd (Ann.snd (Ann.fst (Ann.snd (Ann.fst (Ann.snd an96c87io10001))))))) (kc96c87io10001_8 n SS) (fun _ _ => none) rt96c87io10001
noncomputable def kc96c87io10001_10 (n : Nat × Nat) (SS : List Int → Int → Int → Int → (List (Int × Int)) → Option R96c87io10001) : St → Option R96c87io10001 := fun s => normC [0, 2, 14, 1000000000, 1000000001] s (kq96c87io10001_9 n SS)
noncomputable def xb96c87io10001_11 (n : Nat × Nat) (SS : List Int → Int → Int → Int → (List (Int × Int)) → Option R96c87io10001) : Nat → St → Option R96c87io10001 := fun j s => bif Nat.beq j 4 then normC [0, 2, 14, 1000000000, 1000000001] s (kq96c87io10001_9 n SS) else (fun _ _ => none) j s
noncomputable def F96c87io10001_12 (n : Nat × Nat) (SS : List Int → Int → Int → Int → (List (Int × Int)) → Option R96c87io10001) : (St → Option R96c87io10001) → St → Option R96c87io10001 := fun K s => run (E96c87io10001 n SS) (cA (cA (cA (cB (cB (cA (cB (cA (cB c96c87io10001))))))))) (Ann.fst (Ann.fst (Ann.fst (Ann.snd (Ann.snd (Ann.fst (Ann.snd (Ann.fst (Ann.snd an96c87io10001))))))))) (fun s => normC [0, 2, 4, 14, 15, 1000000000, 1000000001] s K) (xb96c87io10001_11 n SS) rt96c87io10001 s
noncomputable def kq96c87io10001_13 (n : Nat × Nat) (SS : List Int → Int → Int → Int → (List (Int × Int)) → Option R96c87io10001) : St → Option R96c87io10001 := run (E96c87io10001 n SS) (cB (cB (cB (cB (cB (cB c96c87io10001)))))) (Ann.snd (Ann.snd (Ann.snd (Ann.snd (Ann.snd (Ann.snd an96c87io10001)))))) rt96c87io10001 (fun _ _ => none) rt96c87io10001
noncomputable def kc96c87io10001_14 (n : Nat × Nat) (SS : List Int → Int → Int → Int → (List (Int × Int)) → Option R96c87io10001) : St → Option R96c87io10001 := fun s => normC [0, 1, 2, 3, 4, 18, 19, 20, 21, 182, 183, 184, 196, 197, 198, 210, 211, 212, 1000000000, 1000000001] s (kq96c87io10001_13 n SS)
noncomputable def kq96c87io10001_15 (n : Nat × Nat) (SS : List Int → Int → Int → Int → (List (Int × Int)) → Option R96c87io10001) : St → Option R96c87io10001 := run (E96c87io10001 n SS) (cB (cB (cB (cB (cB (cB (cB (cB c96c87io10001)))))))) (Ann.snd (Ann.snd (Ann.snd (Ann.snd (Ann.snd (Ann.snd (Ann.snd (Ann.snd an96c87io10001)))))))) rt96c87io10001 (fun _ _ => none) rt96c87io10001
noncomputable def kc96c87io10001_16 (n : Nat × Nat) (SS : List Int → Int → Int → Int → (List (Int × Int)) → Option R96c87io10001) : St → Option R96c87io10001 := fun s => normC [0, 1, 2, 3, 4, 18, 19, 20, 182, 183, 184, 196, 197, 198, 210, 211, 212, 1000000000, 1000000001] s (kq96c87io10001_15 n SS)
noncomputable def xb96c87io10001_17 (n : Nat × Nat) (SS : List Int → Int → Int → Int → (List (Int × Int)) → Option R96c87io10001) : Nat → St → Option R96c87io10001 := fun j s => bif Nat.beq j 8 then normC [0, 1, 2, 3, 4, 18, 19, 20, 182, 183, 184, 196, 197, 198, 210, 211, 212, 1000000000, 1000000001] s (kq96c87io10001_15 n SS) else (fun _ _ => none) j s
noncomputable def F96c87io10001_18 (n : Nat × Nat) (SS : List Int → Int → Int → Int → (List (Int × Int)) → Option R96c87io10001) : (St → Option R96c87io10001) → St → Option R96c87io10001 := fun K s => run (E96c87io10001 n SS) (cA (cA (cA (cB (cB (cB (cB (cB (cB (cB c96c87io10001)))))))))) (Ann.fst (Ann.fst (Ann.fst (Ann.snd (Ann.snd (Ann.snd (Ann.snd (Ann.snd (Ann.snd (Ann.snd an96c87io10001)))))))))) (fun s => normC [0, 1, 2, 3, 4, 18, 19, 20, 21, 22, 182, 183, 184, 196, 197, 198, 210, 211, 212, 1000000000, 1000000001] s K) (xb96c87io10001_17 n SS) rt96c87io10001 s
noncomputable def kq96c87io10001_19 (n : Nat × Nat) (SS : List Int → Int → Int → Int → (List (Int × Int)) → Option R96c87io10001) (m1 : Nat) : St → Option R96c87io10001 := run (E96c87io10001 n SS) (cB (cA (cA (cA (cB (cB (cA (cB (cA c96c87io10001))))))))) (Ann.snd (Ann.fst (Ann.fst (Ann.fst (Ann.snd (Ann.snd (Ann.fst (Ann.snd (Ann.fst an96c87io10001))))))))) (fun s => normC [0, 1, 4, 10, 11, 1000000000, 1000000001] s (loopN (F96c87io10001_6 n SS) m1)) (xb96c87io10001_5 n SS) rt96c87io10001
noncomputable def kc96c87io10001_20 (n : Nat × Nat) (SS : List Int → Int → Int → Int → (List (Int × Int)) → Option R96c87io10001) (m1 : Nat) : St → Option R96c87io10001 := fun s => normC [0, 1, 4, 10, 11, 1000000000, 1000000001] s (kq96c87io10001_19 n SS m1)
noncomputable def kc96c87io10001_21 (n : Nat × Nat) (SS : List Int → Int → Int → Int → (List (Int × Int)) → Option R96c87io10001) (m1 : Nat) : St → Option R96c87io10001 := fun s => normC [0, 1, 4, 10, 11, 1000000000, 1000000001] s (fun s => normC [0, 1, 4, 10, 11, 1000000000, 1000000001] s (loopN (F96c87io10001_6 n SS) m1))
noncomputable def xb96c87io10001_22 (n : Nat × Nat) (SS : List Int → Int → Int → Int → (List (Int × Int)) → Option R96c87io10001) (m1 : Nat) : Nat → St → Option R96c87io10001 := fun j s => bif Nat.beq j 1 then normC [0, 1, 4, 10, 11, 1000000000, 1000000001] s (fun s => normC [0, 1, 4, 10, 11, 1000000000, 1000000001] s (loopN (F96c87io10001_6 n SS) m1)) else (xb96c87io10001_5 n SS) j s
noncomputable def kc96c87io10001_23 (n : Nat × Nat) (SS : List Int → Int → Int → Int → (List (Int × Int)) → Option R96c87io10001) (m1 : Nat) : St → Option R96c87io10001 := fun s => normC [0, 1, 4, 10, 11, 1000000000, 1000000001] s (kc96c87io10001_21 n SS m1)
noncomputable def kq96c87io10001_24 (n : Nat × Nat) (SS : List Int → Int → Int → Int → (List (Int × Int)) → Option R96c87io10001) : St → Option R96c87io10001 := run (E96c87io10001 n SS) (cB (cB (cB (cB (cA (cB (cA c96c87io10001))))))) (Ann.snd (Ann.snd (Ann.snd (Ann.snd (Ann.fst (Ann.snd (Ann.fst an96c87io10001))))))) (kc96c87io10001_2 n SS) (fun _ _ => none) rt96c87io10001
noncomputable def kc96c87io10001_25 (n : Nat × Nat) (SS : List Int → Int → Int → Int → (List (Int × Int)) → Option R96c87io10001) : St → Option R96c87io10001 := fun s => normC [1000000000, 1000000001] s (kq96c87io10001_24 n SS)
noncomputable def xb96c87io10001_26 (n : Nat × Nat) (SS : List Int → Int → Int → Int → (List (Int × Int)) → Option R96c87io10001) : Nat → St → Option R96c87io10001 := fun j s => bif Nat.beq j 2 then normC [1000000000, 1000000001] s (kq96c87io10001_24 n SS) else (fun _ _ => none) j s
noncomputable def F96c87io10001_27 (n : Nat × Nat) (SS : List Int → Int → Int → Int → (List (Int × Int)) → Option R96c87io10001) : (St → Option R96c87io10001) → St → Option R96c87io10001 := fun K s => run (E96c87io10001 n SS) (cA (cA (cB (cA (cB (cB (cB (cA (cB (cA c96c87io10001)))))))))) (Ann.fst (Ann.fst (Ann.snd (Ann.fst (Ann.snd (Ann.snd (Ann.snd (Ann.fst (Ann.snd (Ann.fst an96c87io10001)))))))))) (fun s => normC [0, 10, 13, 1000000000, 1000000001] s K) (xb96c87io10001_26 n SS) rt96c87io10001 s
noncomputable def kq96c87io10001_28 (n : Nat × Nat) (SS : List Int → Int → Int → Int → (List (Int × Int)) → Option R96c87io10001) (m1 : Nat) : St → Option R96c87io10001 := run (E96c87io10001 n SS) (cB (cA (cA (cA (cB (cB (cA (cB (cA (cB c96c87io10001)))))))))) (Ann.snd (Ann.fst (Ann.fst (Ann.fst (Ann.snd (Ann.snd (Ann.fst (Ann.snd (Ann.fst (Ann.snd an96c87io10001)))))))))) (fun s => normC [0, 2, 4, 14, 15, 1000000000, 1000000001] s (loopN (F96c87io10001_12 n SS) m1)) (xb96c87io10001_11 n SS) rt96c87io10001
noncomputable def kc96c87io10001_29 (n : Nat × Nat) (SS : List Int → Int → Int → Int → (List (Int × Int)) → Option R96c87io10001) (m1 : Nat) : St → Option R96c87io10001 := fun s => normC [0, 2, 4, 14, 15, 1000000000, 1000000001] s (kq96c87io10001_28 n SS m1)
noncomputable def kc96c87io10001_30 (n : Nat × Nat) (SS : List Int → Int → Int → Int → (List (Int × Int)) → Option R96c87io10001) (m1 : Nat) : St → Option R96c87io10001 := fun s => normC [0, 2, 4, 14, 15, 1000000000, 1000000001] s (fun s => normC [0, 2, 4, 14, 15, 1000000000, 1000000001] s (loopN (F96c87io10001_12 n SS) m1))
noncomputable def xb96c87io10001_31 (n : Nat × Nat) (SS : List Int → Int → Int → Int → (List (Int × Int)) → Option R96c87io10001) (m1 : Nat) : Nat → St → Option R96c87io10001 := fun j s => bif Nat.beq j 5 then normC [0, 2, 4, 14, 15, 1000000000, 1000000001] s (fun s => normC [0, 2, 4, 14, 15, 1000000000, 1000000001] s (loopN (F96c87io10001_12 n SS) m1)) else (xb96c87io10001_11 n SS) j s
noncomputable def kc96c87io10001_32 (n : Nat × Nat) (SS : List Int → Int → Int → Int → (List (Int × Int)) → Option R96c87io10001) (m1 : Nat) : St → Option R96c87io10001 := fun s => normC [0, 2, 4, 14, 15, 1000000000, 1000000001] s (kc96c87io10001_30 n SS m1)
noncomputable def kq96c87io10001_33 (n : Nat × Nat) (SS : List Int → Int → Int → Int → (List (Int × Int)) → Option R96c87io10001) : St → Option R96c87io10001 := run (E96c87io10001 n SS) (cB (cB (cB (cB (cA (cB (cA (cB c96c87io10001)))))))) (Ann.snd (Ann.snd (Ann.snd (Ann.snd (Ann.fst (Ann.snd (Ann.fst (Ann.snd an96c87io10001)))))))) (kc96c87io10001_8 n SS) (fun _ _ => none) rt96c87io10001
noncomputable def kc96c87io10001_34 (n : Nat × Nat) (SS : List Int → Int → Int → Int → (List (Int × Int)) → Option R96c87io10001) : St → Option R96c87io10001 := fun s => normC [1000000000, 1000000001] s (kq96c87io10001_33 n SS)
noncomputable def xb96c87io10001_35 (n : Nat × Nat) (SS : List Int → Int → Int → Int → (List (Int × Int)) → Option R96c87io10001) : Nat → St → Option R96c87io10001 := fun j s => bif Nat.beq j 6 then normC [1000000000, 1000000001] s (kq96c87io10001_33 n SS) else (fun _ _ => none) j s
noncomputable def F96c87io10001_36 (n : Nat × Nat) (SS : List Int → Int → Int → Int → (List (Int × Int)) → Option R96c87io10001) : (St → Option R96c87io10001) → St → Option R96c87io10001 := fun K s => run (E96c87io10001 n SS) (cA (cA (cB (cA (cB (cB (cB (cA (cB (cA (cB c96c87io10001))))))))))) (Ann.fst (Ann.fst (Ann.snd (Ann.fst (Ann.snd (Ann.snd (Ann.snd (Ann.fst (Ann.snd (Ann.fst (Ann.snd an96c87io10001))))))))))) (fun s => normC [0, 14, 17, 1000000000, 1000000001] s K) (xb96c87io10001_35 n SS) rt96c87io10001 s
noncomputable def kq96c87io10001_37 (n : Nat × Nat) (SS : List Int → Int → Int → Int → (List (Int × Int)) → Option R96c87io10001) (m1 : Nat) : St → Option R96c87io10001 := run (E96c87io10001 n SS) (cB (cA (cA (cA (cB (cB (cB (cB (cB (cB (cB c96c87io10001))))))))))) (Ann.snd (Ann.fst (Ann.fst (Ann.fst (Ann.snd (Ann.snd (Ann.snd (Ann.snd (Ann.snd (Ann.snd (Ann.snd an96c87io10001))))))))))) (fun s => normC [0, 1, 2, 3, 4, 18, 19, 20, 21, 22, 182, 183, 184, 196, 197, 198, 210, 211, 212, 1000000000, 1000000001] s (loopN (F96c87io10001_18 n SS) m1)) (xb96c87io10001_17 n SS) rt96c87io10001
noncomputable def kc96c87io10001_38 (n : Nat × Nat) (SS : List Int → Int → Int → Int → (List (Int × Int)) → Option R96c87io10001) (m1 : Nat) : St → Option R96c87io10001 := fun s => normC [0, 1, 2, 3, 4, 18, 19, 20, 21, 22, 182, 183, 184, 196, 197, 198, 210, 211, 212, 1000000000, 1000000001] s (kq96c87io10001_37 n SS m1)
noncomputable def kc96c87io10001_39 (n : Nat × Nat) (SS : List Int → Int → Int → Int → (List (Int × Int)) → Option R96c87io10001) (m1 : Nat) : St → Option R96c87io10001 := fun s => normC [0, 1, 2, 3, 4, 18, 19, 20, 21, 22, 182, 183, 184, 196, 197, 198, 210, 211, 212, 1000000000, 1000000001] s (fun s => normC [0, 1, 2, 3, 4, 18, 19, 20, 21, 22, 182, 183, 184, 196, 197, 198, 210, 211, 212, 1000000000, 1000000001] s (loopN (F96c87io10001_18 n SS) m1))
noncomputable def xb96c87io10001_40 (n : Nat × Nat) (SS : List Int → Int → Int → Int → (List (Int × Int)) → Option R96c87io10001) (m1 : Nat) : Nat → St → Option R96c87io10001 := fun j s => bif Nat.beq j 9 then normC [0, 1, 2, 3, 4, 18, 19, 20, 21, 22, 182, 183, 184, 196, 197, 198, 210, 211, 212, 1000000000, 1000000001] s (fun s => normC [0, 1, 2, 3, 4, 18, 19, 20, 21, 22, 182, 183, 184, 196, 197, 198, 210, 211, 212, 1000000000, 1000000001] s (loopN (F96c87io10001_18 n SS) m1)) else (xb96c87io10001_17 n SS) j s
noncomputable def kc96c87io10001_41 (n : Nat × Nat) (SS : List Int → Int → Int → Int → (List (Int × Int)) → Option R96c87io10001) (m1 : Nat) : St → Option R96c87io10001 := fun s => normC [0, 1, 2, 3, 4, 18, 19, 20, 21, 22, 182, 183, 184, 196, 197, 198, 210, 211, 212, 1000000000, 1000000001] s (kc96c87io10001_39 n SS m1)
noncomputable def kq96c87io10001_42 (n : Nat × Nat) (SS : List Int → Int → Int → Int → (List (Int × Int)) → Option R96c87io10001) : St → Option R96c87io10001 := run (E96c87io10001 n SS) (cB (cB (cB (cB (cB (cB (cB (cB (cB (cB c96c87io10001)))))))))) (Ann.snd (Ann.snd (Ann.snd (Ann.snd (Ann.snd (Ann.snd (Ann.snd (Ann.snd (Ann.snd (Ann.snd an96c87io10001)))))))))) rt96c87io10001 (fun _ _ => none) rt96c87io10001
noncomputable def kc96c87io10001_43 (n : Nat × Nat) (SS : List Int → Int → Int → Int → (List (Int × Int)) → Option R96c87io10001) : St → Option R96c87io10001 := fun s => normC [0, 1, 3, 4, 18, 20, 24, 196, 197, 198, 210, 211, 212, 1000000000, 1000000001] s (kq96c87io10001_42 n SS)
noncomputable def kq96c87io10001_44 (n : Nat × Nat) (SS : List Int → Int → Int → Int → (List (Int × Int)) → Option R96c87io10001) : St → Option R96c87io10001 := run (E96c87io10001 n SS) (cB (cB (cB (cB (cB (cB (cB (cB (cB (cB (cB c96c87io10001))))))))))) (Ann.snd (Ann.snd (Ann.snd (Ann.snd (Ann.snd (Ann.snd (Ann.snd (Ann.snd (Ann.snd (Ann.snd (Ann.snd an96c87io10001))))))))))) rt96c87io10001 (fun _ _ => none) rt96c87io10001
noncomputable def kc96c87io10001_45 (n : Nat × Nat) (SS : List Int → Int → Int → Int → (List (Int × Int)) → Option R96c87io10001) : St → Option R96c87io10001 := fun s => normC [0, 3, 4, 18, 24, 210, 211, 212, 1000000000, 1000000001] s (kq96c87io10001_44 n SS)
noncomputable def kc96c87io10001_46 (n : Nat × Nat) (SS : List Int → Int → Int → Int → (List (Int × Int)) → Option R96c87io10001) : St → Option R96c87io10001 := fun s => normC [1000000000, 1000000001] s rt96c87io10001
noncomputable def kq96c87io10001_47 (n : Nat × Nat) (SS : List Int → Int → Int → Int → (List (Int × Int)) → Option R96c87io10001) (m1 : Nat) : St → Option R96c87io10001 := run (E96c87io10001 n SS) (cB (cA (cA (cB (cA (cB (cB (cB (cA (cB (cA c96c87io10001))))))))))) (Ann.snd (Ann.fst (Ann.fst (Ann.snd (Ann.fst (Ann.snd (Ann.snd (Ann.snd (Ann.fst (Ann.snd (Ann.fst an96c87io10001))))))))))) (fun s => normC [0, 10, 13, 1000000000, 1000000001] s (loopN (F96c87io10001_27 n SS) m1)) (xb96c87io10001_26 n SS) rt96c87io10001
noncomputable def kc96c87io10001_48 (n : Nat × Nat) (SS : List Int → Int → Int → Int → (List (Int × Int)) → Option R96c87io10001) (m1 : Nat) : St → Option R96c87io10001 := fun s => normC [0, 10, 13, 1000000000, 1000000001] s (kq96c87io10001_47 n SS m1)
noncomputable def kq96c87io10001_49 (n : Nat × Nat) (SS : List Int → Int → Int → Int → (List (Int × Int)) → Option R96c87io10001) (m1 : Nat) : St → Option R96c87io10001 := run (E96c87io10001 n SS) (cB (cB (cA (cA (cB (cA (cB (cB (cB (cA (cB (cA c96c87io10001)))))))))))) (Ann.snd (Ann.snd (Ann.fst (Ann.fst (Ann.snd (Ann.fst (Ann.snd (Ann.snd (Ann.snd (Ann.fst (Ann.snd (Ann.fst an96c87io10001)))))))))))) (fun s => normC [0, 10, 13, 1000000000, 1000000001] s (loopN (F96c87io10001_27 n SS) m1)) (xb96c87io10001_26 n SS) rt96c87io10001
noncomputable def kc96c87io10001_50 (n : Nat × Nat) (SS : List Int → Int → Int → Int → (List (Int × Int)) → Option R96c87io10001) (m1 : Nat) : St → Option R96c87io10001 := fun s => normC [0, 10, 13, 1000000000, 1000000001] s (kq96c87io10001_49 n SS m1)
noncomputable def xb96c87io10001_51 (n : Nat × Nat) (SS : List Int → Int → Int → Int → (List (Int × Int)) → Option R96c87io10001) (m1 : Nat) : Nat → St → Option R96c87io10001 := fun j s => bif Nat.beq j 3 then normC [0, 10, 13, 1000000000, 1000000001] s (kq96c87io10001_49 n SS m1) else (xb96c87io10001_26 n SS) j s
noncomputable def kq96c87io10001_52 (n : Nat × Nat) (SS : List Int → Int → Int → Int → (List (Int × Int)) → Option R96c87io10001) (m1 : Nat) : St → Option R96c87io10001 := run (E96c87io10001 n SS) (cB (cA (cA (cB (cA (cB (cB (cB (cA (cB (cA (cB c96c87io10001)))))))))))) (Ann.snd (Ann.fst (Ann.fst (Ann.snd (Ann.fst (Ann.snd (Ann.snd (Ann.snd (Ann.fst (Ann.snd (Ann.fst (Ann.snd an96c87io10001)))))))))))) (fun s => normC [0, 14, 17, 1000000000, 1000000001] s (loopN (F96c87io10001_36 n SS) m1)) (xb96c87io10001_35 n SS) rt96c87io10001
noncomputable def kc96c87io10001_53 (n : Nat × Nat) (SS : List Int → Int → Int → Int → (List (Int × Int)) → Option R96c87io10001) (m1 : Nat) : St → Option R96c87io10001 := fun s => normC [0, 14, 17, 1000000000, 1000000001] s (kq96c87io10001_52 n SS m1)
noncomputable def kq96c87io10001_54 (n : Nat × Nat) (SS : List Int → Int → Int → Int → (List (Int × Int)) → Option R96c87io10001) (m1 : Nat) : St → Option R96c87io10001 := run (E96c87io10001 n SS) (cB (cB (cA (cA (cB (cA (cB (cB (cB (cA (cB (cA (cB c96c87io10001))))))))))))) (Ann.snd (Ann.snd (Ann.fst (Ann.fst (Ann.snd (Ann.fst (Ann.snd (Ann.snd (Ann.snd (Ann.fst (Ann.snd (Ann.fst (Ann.snd an96c87io10001))))))))))))) (fun s => normC [0, 14, 17, 1000000000, 1000000001] s (loopN (F96c87io10001_36 n SS) m1)) (xb96c87io10001_35 n SS) rt96c87io10001
noncomputable def kc96c87io10001_55 (n : Nat × Nat) (SS : List Int → Int → Int → Int → (List (Int × Int)) → Option R96c87io10001) (m1 : Nat) : St → Option R96c87io10001 := fun s => normC [0, 14, 17, 1000000000, 1000000001] s (kq96c87io10001_54 n SS m1)
noncomputable def xb96c87io10001_56 (n : Nat × Nat) (SS : List Int → Int → Int → Int → (List (Int × Int)) → Option R96c87io10001) (m1 : Nat) : Nat → St → Option R96c87io10001 := fun j s => bif Nat.beq j 7 then normC [0, 14, 17, 1000000000, 1000000001] s (kq96c87io10001_54 n SS m1) else (xb96c87io10001_35 n SS) j s
noncomputable def L96c87io10001_1 (n : Nat × Nat) (SS : List Int → Int → Int → Int → (List (Int × Int)) → Option R96c87io10001) (m : Nat) (a1 : Int) (i10 : Int) (j11 : Int) (v1000000000 : List Int) (v1000000001 : List (Int × Int)) : Option R96c87io10001 := loopN (F96c87io10001_6 n SS) m { tm := [.own 1000000000 none false, .c (.int .i64 a1), uu, uu, .fn 87 [.ptr 1000000001 0], uu, uu, uu, uu, uu, .c (.int .i64 i10), .c (.int .i64 j11), uu, uu, uu, uu, uu, uu, uu, uu, uu, uu, uu, uu, uu, uu, uu, uu, uu, uu, uu, uu, uu, uu, uu, uu, uu, uu, uu, uu, uu, uu, uu, uu, uu, uu, uu, uu, uu, uu, uu, uu, uu, uu, uu, uu, uu, uu, uu, uu, uu, uu, uu, uu, uu, uu, uu, uu, uu, uu, uu, uu, uu, uu, uu, uu, uu, uu, uu, uu, uu, uu, uu, uu, uu, uu, uu, uu, uu, uu, uu, uu, uu, uu, uu, uu, uu, uu, uu, uu, uu, uu, uu, uu, uu, uu, uu, uu, uu, uu, uu, uu, uu, uu, uu, uu, uu, uu, uu, uu, uu, uu, uu, uu, uu, uu, uu, uu, uu, uu, uu, uu, uu, uu, uu, uu, uu, uu, uu, uu, uu, uu, uu, uu, uu, uu, uu, uu, uu, uu, uu, uu, uu, uu, uu, uu, uu, uu, uu, uu, uu, uu, uu, uu, uu, uu, uu, uu, uu, uu, uu, uu, uu, uu, uu, uu, uu, uu, uu, uu, uu, uu, uu, uu, uu, uu, uu, uu, uu, uu, uu, uu, uu, uu, uu, uu, uu, uu, uu, uu, uu, uu, uu, uu, uu, uu, uu, uu, uu, uu, uu, uu, uu, uu, uu, uu, uu, uu, uu, uu], hp := (upd (upd emp 1000000001 (.box [.sl (.pair (.int .i64) (.int .i64)) v1000000001 false])) 1000000000 (.arr (.int .i64) v1000000000 false)) }
noncomputable def L96c87io10001_2 (n : Nat × Nat) (SS : List Int → Int → Int → Int → (List (Int × Int)) → Option R96c87io10001) (m : Nat) (m2 : Int) (i14 : Int) (j15 : Int) (v1000000000 : List Int) (v1000000001 : List (Int × Int)) : Option R96c87io10001 := loopN (F96c87io10001_12 n SS) m { tm := [.own 1000000000 none false, uu, .c (.int .i64 m2), uu, .fn 87 [.ptr 1000000001 0], uu, uu, uu, uu, uu, uu, uu, uu, uu, .c (.int .i64 i14), .c (.int .i64 j15), uu, uu, uu, uu, uu, uu, uu, uu, uu, uu, uu, uu, uu, uu, uu, uu, uu, uu, uu, uu, uu, uu, uu, uu, uu, uu, uu, uu, uu, uu, uu, uu, uu, uu, uu, uu, uu, uu, uu, uu, uu, uu, uu, uu, uu, uu, uu, uu, uu, uu, uu, uu, uu, uu, uu, uu, uu, uu, uu, uu, uu, uu, uu, uu, uu, uu, uu, uu, uu, uu, uu, uu, uu, uu, uu, uu, uu, uu, uu, uu, uu, uu, uu, uu, uu, uu, uu, uu, uu, uu, uu, uu, uu, uu, uu, uu, uu, uu, uu, uu, uu, uu, uu, uu, uu, uu, uu, uu, uu, uu, uu, uu, uu, uu, uu, uu, uu, uu, uu, uu, uu, uu, uu, uu, uu, uu, uu, uu, uu, uu, uu, uu, uu, uu, uu, uu, uu, uu, uu, uu, uu, uu, uu, uu, uu, uu, uu, uu, uu, uu, uu, uu, uu, uu, uu, uu, uu, uu, uu, uu, uu, uu, uu, uu, uu, uu, uu, uu, uu, uu, uu, uu, uu, uu, uu, uu, uu, uu, uu, uu, uu, uu, uu, uu, uu, uu, uu, uu, uu, uu, uu, uu, uu, uu, uu, uu, uu, uu, uu, uu, uu, uu, uu, uu], hp := (upd (upd emp 1000000001 (.box [.sl (.pair (.int .i64) (.int .i64)) v1000000001 false])) 1000000000 (.arr (.int .i64) v1000000000 false)) }
noncomputable def L96c87io10001_3 (n : Nat × Nat) (SS : List Int → Int → Int → Int → (List (Int × Int)) → Option R96c87io10001) (m : Nat) (a1 : Int) (m2 : Int) (b3 : Int) (mid18 : Int) (v19 : Int) (start20 : Int) (r21 : Int) (p22 : Int) (v1000000000 : List Int) (v1000000001 : List (Int × Int)) : Option R96c87io10001 := loopN (F96c87io10001_18 n SS) m { tm := [.own 1000000000 none false, .c (.int .i64 a1), .c (.int .i64 m2), .c (.int .i64 b3), .fn 87 [.ptr 1000000001 0], uu, uu, uu, uu, uu, uu, uu, uu, uu, uu, uu, uu, uu, .c (.int .i64 mid18), .c (.int .i64 v19), .c (.int .i64 start20), .c (.int .i64 r21), .c (.int .i64 p22), uu, uu, uu, uu, uu, uu, uu, uu, uu, uu, uu, uu, uu, uu, uu, uu, uu, uu, uu, uu, uu, uu, uu, uu, uu, uu, uu, uu, uu, uu, uu, uu, uu, uu, uu, uu, uu, uu, uu, uu, uu, uu, uu, uu, uu, uu, uu, uu, uu, uu, uu, uu, uu, uu, uu, uu, uu, uu, uu, uu, uu, uu, uu, uu, uu, uu, uu, uu, uu, uu, uu, uu, uu, uu, uu, uu, uu, uu, uu, uu, uu, uu, uu, uu, uu, uu, uu, uu, uu, uu, uu, uu, uu, uu, uu, uu, uu, uu, uu, uu, uu, uu, uu, uu, uu, uu, uu, uu, uu, uu, uu, uu, uu, uu, uu, uu, uu, uu, uu, uu, uu, uu, uu, uu, uu, uu, uu, uu, uu, uu, uu, uu, uu, uu, uu, uu, uu, uu, uu, uu, uu, uu, uu, uu, uu, uu, uu, uu, uu, uu, uu, uu, uu, uu, uu, uu, uu, uu, uu, uu, uu, uu, uu, uu, uu, uu, uu, uu, uu, uu, uu, uu, uu, uu, uu, uu, uu, uu, uu, uu, uu, uu, uu, uu, uu, uu, uu, uu, uu, uu, uu, uu, uu, uu, uu, uu, uu], hp := (upd (upd emp 1000000001 (.box [.sl (.pair (.int .i64) (.int .i64)) v1000000001 false])) 1000000000 (.arr (.int .i64) v1000000000 false)) }
noncomputable def L96c87io10001_4 (n : Nat × Nat) (SS : List Int → Int → Int → Int → (List (Int × Int)) → Option R96c87io10001) (m : Nat) (i10 : Int) (k13 : Int) (v1000000000 : List Int) (v1000000001 : List (Int × Int)) : Option R96c87io10001 := loopN (F96c87io10001_27 n SS) m { tm := [.own 1000000000 none false, uu, uu, uu, uu, uu, uu, uu, uu, uu, .c (.int .i64 i10), uu, uu, .c (.int .i64 k13), uu, uu, uu, uu, uu, uu, uu, uu, uu, uu, uu, uu, uu, uu, uu, uu, uu, uu, uu, uu, uu, uu, uu, uu, uu, uu, uu, uu, uu, uu, uu, uu, uu, uu, uu, uu, uu, uu, uu, uu, uu, uu, uu, uu, uu, uu, uu, uu, uu, uu, uu, uu, uu, uu, uu, uu, uu, uu, uu, uu, uu, uu, uu, uu, uu, uu, uu, uu, uu, uu, uu, uu, uu, uu, uu, uu, uu, uu, uu, uu, uu, uu, uu, uu, uu, uu, uu, uu, uu, uu, uu, uu, uu, uu, uu, uu, uu, uu, uu, uu, uu, uu, uu, uu, uu, uu, uu, uu, uu, uu, uu, uu, uu, uu, uu, uu, uu, uu, uu, uu, uu, uu, uu, uu, uu, uu, uu, uu, uu, uu, uu, uu, uu, uu, uu, uu, uu, uu, uu, uu, uu, uu, uu, uu, uu, uu, uu, uu, uu, uu, uu, uu, uu, uu, uu, uu, uu, uu, uu, uu, uu, uu, uu, uu, uu, uu, uu, uu, uu, uu, uu, uu, uu, uu, uu, uu, uu, uu, uu, uu, uu, uu, uu, uu, uu, uu, uu, uu, uu, uu, uu, uu, uu, uu, uu, uu, uu, uu, uu, uu, uu, uu, uu, uu, uu, uu], hp := (upd (upd emp 1000000001 (.box [.sl (.pair (.int .i64) (.int .i64)) v1000000001 false])) 1000000000 (.arr (.int .i64) v1000000000 false)) }
noncomputable def L96c87io10001_5 (n : Nat × Nat) (SS : List Int → Int → Int → Int → (List (Int × Int)) → Option R96c87io10001) (m : Nat) (i14 : Int) (k17 : Int) (v1000000000 : List Int) (v1000000001 : List (Int × Int)) : Option R96c87io10001 := loopN (F96c87io10001_36 n SS) m { tm := [.own 1000000000 none false, uu, uu, uu, uu, uu, uu, uu, uu, uu, uu, uu, uu, uu, .c (.int .i64 i14), uu, uu, .c (.int .i64 k17), uu, uu, uu, uu, uu, uu, uu, uu, uu, uu, uu, uu, uu, uu, uu, uu, uu, uu, uu, uu, uu, uu, uu, uu, uu, uu, uu, uu, uu, uu, uu, uu, uu, uu, uu, uu, uu, uu, uu, uu, uu, uu, uu, uu, uu, uu, uu, uu, uu, uu, uu, uu, uu, uu, uu, uu, uu, uu, uu, uu, uu, uu, uu, uu, uu, uu, uu, uu, uu, uu, uu, uu, uu, uu, uu, uu, uu, uu, uu, uu, uu, uu, uu, uu, uu, uu, uu, uu, uu, uu, uu, uu, uu, uu, uu, uu, uu, uu, uu, uu, uu, uu, uu, uu, uu, uu, uu, uu, uu, uu, uu, uu, uu, uu, uu, uu, uu, uu, uu, uu, uu, uu, uu, uu, uu, uu, uu, uu, uu, uu, uu, uu, uu, uu, uu, uu, uu, uu, uu, uu, uu, uu, uu, uu, uu, uu, uu, uu, uu, uu, uu, uu, uu, uu, uu, uu, uu, uu, uu, uu, uu, uu, uu, uu, uu, uu, uu, uu, uu, uu, uu, uu, uu, uu, uu, uu, uu, uu, uu, uu, uu, uu, uu, uu, uu, uu, uu, uu, uu, uu, uu, uu, uu, uu, uu, uu, uu, uu, uu, uu, uu, uu], hp := (upd (upd emp 1000000001 (.box [.sl (.pair (.int .i64) (.int .i64)) v1000000001 false])) 1000000000 (.arr (.int .i64) v1000000000 false)) }
theorem L96c87io10001_1_eq (n : Nat × Nat) (SS : List Int → Int → Int → Int → (List (Int × Int)) → Option R96c87io10001) (m1 : Nat) (a1 : Int) (i10 : Int) (j11 : Int) (v1000000000 : List Int) (v1000000001 : List (Int × Int)) : L96c87io10001_1 n SS (m1 + 1) a1 i10 j11 v1000000000 v1000000001 =
    (bif decide (i10 < j11) then (bif decide (1 < 0) then none
      else (bif inB (wr .i64 (Int.fdiv (wr .u64 (wr .i64 (i10 + j11))) (2 ^ (min (Int.toNat 1) (IntKind.bits .u64))))) v1000000000.length then (idx v1000000000 (wr .i64 (Int.fdiv (wr .u64 (wr .i64 (i10 + j11))) (2 ^ (min (Int.toNat 1) (IntKind.bits .u64)))))).bind fun x1' =>
          (bif inB a1 v1000000000.length then (idx v1000000000 a1).bind fun x2' =>
            (S87 n x1' x2' v1000000001).bind fun r3' =>
            (bif decide (r3' < 0) then L96c87io10001_1 n SS m1 a1 (wr .i64 ((wr .i64 (Int.fdiv (wr .u64 (wr .i64 (i10 + j11))) (2 ^ (min (Int.toNat 1) (IntKind.bits .u64))))) + 1)) j11 v1000000000 v1000000001
            else L96c87io10001_1 n SS m1 a1 i10 (wr .i64 (Int.fdiv (wr .u64 (wr .i64 (i10 + j11))) (2 ^ (min (Int.toNat 1) (IntKind.bits .u64))))) v1000000000 v1000000001)
          else none)
        else none))
    else L96c87io10001_4 n SS n.1 i10 a1 v1000000000 v1000000001) := by kernel_rfl
theorem L96c87io10001_2_eq (n : Nat × Nat) (SS : List Int → Int → Int → Int → (List (Int × Int)) → Option R96c87io10001) (m1 : Nat) (m2 : Int) (i14 : Int) (j15 : Int) (v1000000000 : List Int) (v1000000001 : List (Int × Int)) : L96c87io10001_2 n SS (m1 + 1) m2 i14 j15 v1000000000 v1000000001 =
    (bif decide (i14 < j15) then (bif decide (1 < 0) then none
      else (bif inB m2 v1000000000.length then (idx v1000000000 m2).bind fun x4' =>
          (bif inB (wr .i64 (Int.fdiv (wr .u64 (wr .i64 (i14 + j15))) (2 ^ (min (Int.toNat 1) (IntKind.bits .u64))))) v1000000000.length then (idx v1000000000 (wr .i64 (Int.fdiv (wr .u64 (wr .i64 (i14 + j15))) (2 ^ (min (Int.toNat 1) (IntKind.bits .u64)))))).bind fun x5' =>
            (S87 n x4' x5' v1000000001).bind fun r6' =>
            (bif (!(decide (r6' < 0))) then L96c87io10001_2 n SS m1 m2 (wr .i64 ((wr .i64 (Int.fdiv (wr .u64 (wr .i64 (i14 + j15))) (2 ^ (min (Int.toNat 1) (IntKind.bits .u64))))) + 1)) j15 v1000000000 v1000000001
            else L96c87io10001_2 n SS m1 m2 i14 (wr .i64 (Int.fdiv (wr .u64 (wr .i64 (i14 + j15))) (2 ^ (min (Int.toNat 1) (IntKind.bits .u64))))) v1000000000 v1000000001)
          else none)
        else none))
    else L96c87io10001_5 n SS n.1 i14 m2 v1000000000 v1000000001) := by kernel_rfl
theorem L96c87io10001_3_eq (n : Nat × Nat) (SS : List Int → Int → Int → Int → (List (Int × Int)) → Option R96c87io10001) (m1 : Nat) (a1 : Int) (m2 : Int) (b3 : Int) (mid18 : Int) (v19 : Int) (start20 : Int) (r21 : Int) (p22 : Int) (v1000000000 : List Int) (v1000000001 : List (Int × Int)) : L96c87io10001_3 n SS (m1 + 1) a1 m2 b3 mid18 v19 start20 r21 p22 v1000000000 v1000000001 =
    (bif decide (start20 < r21) then (bif decide (1 < 0) then none
      else (bif inB (wr .i64 (p22 - (wr .i64 (Int.fdiv (wr .u64 (wr .i64 (start20 + r21))) (2 ^ (min (Int.toNat 1) (IntKind.bits .u64))))))) v1000000000.length then (idx v1000000000 (wr .i64 (p22 - (wr .i64 (Int.fdiv (wr .u64 (wr .i64 (start20 + r21))) (2 ^ (min (Int.toNat 1) (IntKind.bits .u64)))))))).bind fun x7' =>
          (bif inB (wr .i64 (Int.fdiv (wr .u64 (wr .i64 (start20 + r21))) (2 ^ (min (Int.toNat 1) (IntKind.bits .u64))))) v1000000000.length then (idx v1000000000 (wr .i64 (Int.fdiv (wr .u64 (wr .i64 (start20 + r21))) (2 ^ (min (Int.toNat 1) (IntKind.bits .u64)))))).bind fun x8' =>
            (S87 n x7' x8' v1000000001).bind fun r9' =>
            (bif (!(decide (r9' < 0))) then L96c87io10001_3 n SS m1 a1 m2 b3 mid18 v19 (wr .i64 ((wr .i64 (Int.fdiv (wr .u64 (wr .i64 (start20 + r21))) (2 ^ (min (Int.toNat 1) (IntKind.bits .u64))))) + 1)) r21 p22 v1000000000 v1000000001
            else L96c87io10001_3 n SS m1 a1 m2 b3 mid18 v19 start20 (wr .i64 (Int.fdiv (wr .u64 (wr .i64 (start20 + r21))) (2 ^ (min (Int.toNat 1) (IntKind.bits .u64))))) p22 v1000000000 v1000000001)
          else none)
        else none))
    else ((bif (decide (start20 < m2) == true) then some (decide (m2 < wr .i64 (v19 - start20)))
        else some false)).bind fun b10' =>
      (bif b10' then (S97c87io10001 n v1000000000 start20 m2 (wr .i64 (v19 - start20)) v1000000001).bind fun r11' =>
        (bif Nat.beq r11'.2.1.length v1000000000.length then ((bif (decide (a1 < start20) == true) then some (decide (start20 < mid18))
            else some false)).bind fun b12' =>
          (bif b12' then (SS r11'.2.1 a1 start20 mid18 r11'.2.2.1).bind fun r13' =>
            (bif Nat.beq r13'.2.1.length r11'.2.1.length then ((bif (decide (mid18 < wr .i64 (v19 - start20)) == true) then some (decide (wr .i64 (v19 - start20) < b3))
                else some false)).bind fun b14' =>
              (bif b14' then (SS r13'.2.1 mid18 (wr .i64 (v19 - start20)) b3 r13'.2.2.1).bind fun r15' =>
                (bif Nat.beq r15'.2.1.length r13'.2.1.length then some ((), r15'.2.1, r15'.2.2.1, ())
                else none)
              else some ((), r13'.2.1, r13'.2.2.1, ()))
            else none)
          else ((bif (decide (mid18 < wr .i64 (v19 - start20)) == true) then some (decide (wr .i64 (v19 - start20) < b3))
              else some false)).bind fun b16' =>
            (bif b16' then (SS r11'.2.1 mid18 (wr .i64 (v19 - start20)) b3 r11'.2.2.1).bind fun r17' =>
              (bif Nat.beq r17'.2.1.length r11'.2.1.length then some ((), r17'.2.1, r17'.2.2.1, ())
              else none)
            else some ((), r11'.2.1, r11'.2.2.1, ())))
        else none)
      else ((bif (decide (a1 < start20) == true) then some (decide (start20 < mid18))
          else some false)).bind fun b18' =>
        (bif b18' then (SS v1000000000 a1 start20 mid18 v1000000001).bind fun r19' =>
          (bif Nat.beq r19'.2.1.length v1000000000.length then ((bif (decide (mid18 < wr .i64 (v19 - start20)) == true) then some (decide (wr .i64 (v19 - start20) < b3))
              else some false)).bind fun b20' =>
            (bif b20' then (SS r19'.2.1 mid18 (wr .i64 (v19 - start20)) b3 r19'.2.2.1).bind fun r21' =>
              (bif Nat.beq r21'.2.1.length r19'.2.1.length then some ((), r21'.2.1, r21'.2.2.1, ())
              else none)
            else some ((), r19'.2.1, r19'.2.2.1, ()))
          else none)
        else ((bif (decide (mid18 < wr .i64 (v19 - start20)) == true) then some (decide (wr .i64 (v19 - start20) < b3))
            else some false)).bind fun b22' =>
          (bif b22' then (SS v1000000000 mid18 (wr .i64 (v19 - start20)) b3 v1000000001).bind fun r23' =>
            (bif Nat.beq r23'.2.1.length v1000000000.length then some ((), r23'.2.1, r23'.2.2.1, ())
            else none)
          else some ((), v1000000000, v1000000001, ()))))) := by kernel_rfl
theorem L96c87io10001_4_eq (n : Nat × Nat) (SS : List Int → Int → Int → Int → (List (Int × Int)) → Option R96c87io10001) (m1 : Nat) (i10 : Int) (k13 : Int) (v1000000000 : List Int) (v1000000001 : List (Int × Int)) : L96c87io10001_4 n SS (m1 + 1) i10 k13 v1000000000 v1000000001 =
    (bif decide (k13 < wr .i64 (i10 - 1)) then (bif inB (wr .i64 (k13 + 1)) v1000000000.length then (idx v1000000000 (wr .i64 (k13 + 1))).bind fun x24' =>
        (bif inB k13 v1000000000.length then (idx v1000000000 k13).bind fun x25' =>
          (bif inB k13 v1000000000.length then (idx v1000000000 k13).bind fun x26' =>
            (bif inB (wr .i64 (k13 + 1)) (v1000000000.set (Int.toNat k13) x24').length then (idx (v1000000000.set (Int.toNat k13) x24') (wr .i64 (k13 + 1))).bind fun x27' =>
              L96c87io10001_4 n SS m1 i10 (wr .i64 (k13 + 1)) ((v1000000000.set (Int.toNat k13) x24').set (Int.toNat (wr .i64 (k13 + 1))) x25') v1000000001
            else none)
          else none)
        else none)
      else none)
    else some ((), v1000000000, v1000000001, ())) := by kernel_rfl
theorem L96c87io10001_5_eq (n : Nat × Nat) (SS : List Int → Int → Int → Int → (List (Int × Int)) → Option R96c87io10001) (m1 : Nat) (i14 : Int) (k17 : Int) (v1000000000 : List Int) (v1000000001 : List (Int × Int)) : L96c87io10001_5 n SS (m1 + 1) i14 k17 v1000000000 v1000000001 =
    (bif decide (k17 > i14) then (bif inB (wr .i64 (k17 - 1)) v1000000000.length then (idx v1000000000 (wr .i64 (k17 - 1))).bind fun x28' =>
        (bif inB k17 v1000000000.length then (idx v1000000000 k17).bind fun x29' =>
          (bif inB k17 v1000000000.length then (idx v1000000000 k17).bind fun x30' =>
            (bif inB (wr .i64 (k17 - 1)) (v1000000000.set (Int.toNat k17) x28').length then (idx (v1000000000.set (Int.toNat k17) x28') (wr .i64 (k17 - 1))).bind fun x31' =>
              L96c87io10001_5 n SS m1 i14 (wr .i64 (k17 - 1)) ((v1000000000.set (Int.toNat k17) x28').set (Int.toNat (wr .i64 (k17 - 1))) x29') v1000000001
            else none)
          else none)
        else none)
      else none)
    else some ((), v1000000000, v1000000001, ())) := by kernel_rfl
noncomputable def B96c87io10001 (n : Nat × Nat) (SS : List Int → Int → Int → Int → (List (Int × Int)) → Option R96c87io10001) (data0 : List Int) (a1 : Int) (m2 : Int) (b3 : Int) (cp_4_0 : List (Int × Int)) : Option R96c87io10001 := run (E96c87io10001 n SS) c96c87io10001 an96c87io10001 rt96c87io10001 (fun _ _ => none) rt96c87io10001 { tm := [.own 1000000000 none false, .c (.int .i64 a1), .c (.int .i64 m2), .c (.int .i64 b3), .fn 87 [.ptr 1000000001 0], uu, uu, uu, uu, uu, uu, uu, uu, uu, uu, uu, uu, uu, uu, uu, uu, uu, uu, uu, uu, uu, uu, uu, uu, uu, uu, uu, uu, uu, uu, uu, uu, uu, uu, uu, uu, uu, uu, uu, uu, uu, uu, uu, uu, uu, uu, uu, uu, uu, uu, uu, uu, uu, uu, uu, uu, uu, uu, uu, uu, uu, uu, uu, uu, uu, uu, uu, uu, uu, uu, uu, uu, uu, uu, uu, uu, uu, uu, uu, uu, uu, uu, uu, uu, uu, uu, uu, uu, uu, uu, uu, uu, uu, uu, uu, uu, uu, uu, uu, uu, uu, uu, uu, uu, uu, uu, uu, uu, uu, uu, uu, uu, uu, uu, uu, uu, uu, uu, uu, uu, uu, uu, uu, uu, uu, uu, uu, uu, uu, uu, uu, uu, uu, uu, uu, uu, uu, uu, uu, uu, uu, uu, uu, uu, uu, uu, uu, uu, uu, uu, uu, uu, uu, uu, uu, uu, uu, uu, uu, uu, uu, uu, uu, uu, uu, uu, uu, uu, uu, uu, uu, uu, uu, uu, uu, uu, uu, uu, uu, uu, uu, uu, uu, uu, uu, uu, uu, uu, uu, uu, uu, uu, uu, uu, uu, uu, uu, uu, uu, uu, uu, uu, uu, uu, uu, uu, uu, uu, uu, uu, uu, uu, uu, uu, uu], hp := (upd (upd emp 1000000001 (.box [.sl (.pair (.int .i64) (.int .i64)) cp_4_0 false])) 1000000000 (.arr (.int .i64) data0 false)) }
theorem B96c87io10001_eq (n : Nat × Nat) (SS : List Int → Int → Int → Int → (List (Int × Int)) → Option R96c87io10001) (data0 : List Int) (a1 : Int) (m2 : Int) (b3 : Int) (cp_4_0 : List (Int × Int)) : B96c87io10001 n SS data0 a1 m2 b3 cp_4_0 =
    (bif ((wr .i64 (m2 - a1)) == 1) then L96c87io10001_1 n SS n.1 a1 m2 b3 data0 cp_4_0
    else (bif ((wr .i64 (b3 - m2)) == 1) then L96c87io10001_2 n SS n.1 m2 a1 m2 data0 cp_4_0
      else (bif decide (1 < 0) then none
        else (bif decide (m2 > wr .i64 (Int.fdiv (wr .u64 (wr .i64 (a1 + b3))) (2 ^ (min (Int.toNat 1) (IntKind.bits .u64))))) then L96c87io10001_3 n SS n.1 a1 m2 b3 (wr .i64 (Int.fdiv (wr .u64 (wr .i64 (a1 + b3))) (2 ^ (min (Int.toNat 1) (IntKind.bits .u64))))) (wr .i64 ((wr .i64 (Int.fdiv (wr .u64 (wr .i64 (a1 + b3))) (2 ^ (min (Int.toNat 1) (IntKind.bits .u64))))) + m2)) (wr .i64 ((wr .i64 ((wr .i64 (Int.fdiv (wr .u64 (wr .i64 (a1 + b3))) (2 ^ (min (Int.toNat 1) (IntKind.bits .u64))))) + m2)) - b3)) (wr .i64 (Int.fdiv (wr .u64 (wr .i64 (a1 + b3))) (2 ^ (min (Int.toNat 1) (IntKind.bits .u64))))) (wr .i64 ((wr .i64 ((wr .i64 (Int.fdiv (wr .u64 (wr .i64 (a1 + b3))) (2 ^ (min (Int.toNat 1) (IntKind.bits .u64))))) + m2)) - 1)) data0 cp_4_0
          else L96c87io10001_3 n SS n.1 a1 m2 b3 (wr .i64 (Int.fdiv (wr .u64 (wr .i64 (a1 + b3))) (2 ^ (min (Int.toNat 1) (IntKind.bits .u64))))) (wr .i64 ((wr .i64 (Int.fdiv (wr .u64 (wr .i64 (a1 + b3))) (2 ^ (min (Int.toNat 1) (IntKind.bits .u64))))) + m2)) a1 m2 (wr .i64 ((wr .i64 ((wr .i64 (Int.fdiv (wr .u64 (wr .i64 (a1 + b3))) (2 ^ (min (Int.toNat 1) (IntKind.bits .u64))))) + m2)) - 1)) data0 cp_4_0)))) := by kernel_rfl
noncomputable def T96c87io10001 (n : Nat × Nat) : Nat → List Int → Int → Int → Int → (List (Int × Int)) → Option R96c87io10001
  | 0 => fun _ _ _ _ _ => none
  | d + 1 => B96c87io10001 n (T96c87io10001 n d)
theorem T96c87io10001_eq (n : Nat × Nat) (d : Nat) (data0 : List Int) (a1 : Int) (m2 : Int) (b3 : Int) (cp_4_0 : List (Int × Int)) : T96c87io10001 n (d + 1) data0 a1 m2 b3 cp_4_0 = B96c87io10001 n (T96c87io10001 n d) data0 a1 m2 b3 cp_4_0 := rfl
noncomputable def S96c87io10001 (n : Nat × Nat) (data0 : List Int) (a1 : Int) (m2 : Int) (b3 : Int) (cp_4_0 : List (Int × Int)) : Option R96c87io10001 := T96c87io10001 n n.1 data0 a1 m2 b3 cp_4_0
theorem B96c87io10001_run (n : Nat × Nat) (SS : List Int → Int → Int → Int → (List (Int × Int)) → Option R96c87io10001) (xs : qksDen pk96c87io10001) : B96c87io10001 n SS xs.1 xs.2.1 xs.2.2.1 xs.2.2.2.1 xs.2.2.2.2.1.1 = runG (E96c87io10001 n SS) noScope c96c87io10001 an96c87io10001 (rtIO rk96c87io10001 (pk96c87io10001.flatMap QK.ods)) (fun _ _ => none) (rtIO rk96c87io10001 (pk96c87io10001.flatMap QK.ods)) (st1 pk96c87io10001 xs Try.f96.ntmps) := by kernel_rfl
noncomputable def P96c87io10001 (n : Nat × Nat) := phioOf pk96c87io10001 rk96c87io10001 (pk96c87io10001.flatMap QK.ods) (fun xs => S96c87io10001 n xs.1 xs.2.1 xs.2.2.1 xs.2.2.2.1 xs.2.2.2.2.1.1)
theorem env96c87io10001 (n : Nat × Nat) (SS : List Int → Int → Int → Int → (List (Int × Int)) → Option R96c87io10001) (hSS : FCios Try.prog 96 (pk96c87io10001.map QK.flag) (phioOf pk96c87io10001 rk96c87io10001 (pk96c87io10001.flatMap QK.ods) (fun xs => SS xs.1 xs.2.1 xs.2.2.1 xs.2.2.2.1 xs.2.2.2.2.1.1))) : EnvOK Try.prog (E96c87io10001 n SS) := envOK (l := io96c87io10001 n SS) (consPhi_ok (FC87 n) call87 noPhi_ok) rfl rfl (by kernel_rfl) ⟨FC97c87io10001 n, call97, hSS, call96, trivial⟩
theorem par96c87io10001 (n : Nat × Nat) (SS : List Int → Int → Int → Int → (List (Int × Int)) → Option R96c87io10001) : EnvPar (E96c87io10001 n SS) := envPar (l := io96c87io10001 n SS) (consPhi_par phiOf_Par1 noPhi_par) rfl ⟨phioOf_Pario1, phioOf_Pario1, trivial⟩
theorem FCT96c87io10001 (n : Nat × Nat) : ∀ d : Nat, FCios Try.prog 96 (pk96c87io10001.map QK.flag) (phioOf pk96c87io10001 rk96c87io10001 (pk96c87io10001.flatMap QK.ods) (fun xs => T96c87io10001 n d xs.1 xs.2.1 xs.2.2.1 xs.2.2.2.1 xs.2.2.2.2.1.1))
  | 0 => phioOf_FCios fun xs r h => by cases h
  | d + 1 => phioOf_FCios fun xs r h vs hv => FCio.of_runG tabOK eqsOK (env96c87io10001 n (T96c87io10001 n d) (FCT96c87io10001 n d)) (par96c87io10001 n (T96c87io10001 n d)) mixed (fun _ => noScope_ok) Try.func96 (c := c96c87io10001) (an := an96c87io10001) (qks := pk96c87io10001) (rks := rk96c87io10001) (by kernel_rfl) (by kernel_rfl) hv ((B96c87io10001_run n (T96c87io10001 n d) xs).symm.trans h)
theorem FC96c87io10001 (n : Nat × Nat) : FCios Try.prog 96 (pk96c87io10001.map QK.flag) (P96c87io10001 n) := FCT96c87io10001 n n.1
end Go.Proofs.Ytnlbhjmbaedadaa
