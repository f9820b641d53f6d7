/- Texts of this claim, joined: G63 to Bk. -/
import Derived.KernelRfl
import Derived.LoopIn
import Derived.LoopNIn
import Derived.OwnWalkIn
import Derived.RangeFuncBound
import Derived.RangeFuncBox
import Derived.RangeFuncCalls
import Derived.RangeFuncLeaves
import Derived.RangeFuncNested
import Derived.Shelf.Abstract
import Derived.TacticsInMore
import Derived.Test.YtnlbhjmbaedadaaProg
import Derived.WalkKit
import Derived.Test.YtnlbhjmbaedadaaP4
set_option linter.unusedVariables false
set_option linter.unusedSimpArgs false
set_option maxRecDepth 100000
namespace Go.Proofs.Ytnlbhjmbaedadaa
open Go.Vi
abbrev R63 := Int
noncomputable def c63 : Code := bodyOf Try.f63
noncomputable def an63 : Ann := (.s .l (.s .l (.s (.s .l (.j [3] (.j [3, 6, 7, 8] (.s .l (.s (.j [3, 6, 7, 8] .l .l) (.s (.j [3, 6, 7, 8] .l .l) .l))) .l) .l)) .l)))
def pk63 : List PK := [.c (.sl (.int .i64))]
def rk63 : List RK := [.c (.int .i64) 2]
noncomputable def rt63 (st : St) : Option R63 := rtG rk63 st
noncomputable def E63 (n : Nat × Nat) : Env := { T := tab, phi := noPhi, eff := fun _ => false, fuel := n.1, hold := n.2 }
noncomputable def kq63_1 (n : Nat × Nat) : St → Option R63 := run (E63 n) (cB (cB (cB c63))) (Ann.snd (Ann.snd (Ann.snd an63))) rt63 (fun _ _ => none) rt63
noncomputable def kc63_2 (n : Nat × Nat) : St → Option R63 := fun s => normC [3] s (kq63_1 n)
noncomputable def xb63_3 (n : Nat × Nat) : Nat → St → Option R63 := fun j s => bif Nat.beq j 0 then normC [3] s (kq63_1 n) else (fun _ _ => none) j s
noncomputable def F63_4 (n : Nat × Nat) : (St → Option R63) → St → Option R63 := fun K s => run (E63 n) (cA (cA (cB (cA (cB (cB c63)))))) (Ann.fst (Ann.fst (Ann.snd (Ann.fst (Ann.snd (Ann.snd an63)))))) (fun s => normC [3, 6, 7, 8] s K) (xb63_3 n) rt63 s
noncomputable def kq63_5 (n : Nat × Nat) (m1 : Nat) : St → Option R63 := run (E63 n) (cB (cB (cA (cA (cB (cA (cB (cB c63)))))))) (Ann.snd (Ann.snd (Ann.fst (Ann.fst (Ann.snd (Ann.fst (Ann.snd (Ann.snd an63)))))))) (fun s => normC [3, 6, 7, 8] s (loopN (F63_4 n) m1)) (xb63_3 n) rt63
noncomputable def kc63_6 (n : Nat × Nat) (m1 : Nat) : St → Option R63 := fun s => normC [3, 6, 7, 8] s (kq63_5 n m1)
noncomputable def kq63_7 (n : Nat × Nat) (m1 : Nat) : St → Option R63 := run (E63 n) (cB (cB (cB (cA (cA (cB (cA (cB (cB c63))))))))) (Ann.snd (Ann.snd (Ann.snd (Ann.fst (Ann.fst (Ann.snd (Ann.fst (Ann.snd (Ann.snd an63))))))))) (fun s => normC [3, 6, 7, 8] s (loopN (F63_4 n) m1)) (xb63_3 n) rt63
noncomputable def kc63_8 (n : Nat × Nat) (m1 : Nat) : St → Option R63 := fun s => normC [3, 6, 7, 8] s (kq63_7 n m1)
noncomputable def xb63_9 (n : Nat × Nat) (m1 : Nat) : Nat → St → Option R63 := fun j s => bif Nat.beq j 1 then normC [3, 6, 7, 8] s (kq63_7 n m1) else (xb63_3 n) j s
noncomputable def L63_1 (n : Nat × Nat) (m : Nat) (v3 : Int) (v6 : List Int) (v7 : Int) (v8 : Int) : Option R63 := loopN (F63_4 n) m { tm := [uu, uu, uu, .c (.int .i64 v3), uu, uu, .c (.sl (.int .i64) v6 false), .c (.int .i64 v7), .c (.int .i64 v8), uu, uu, uu, uu, uu, uu, uu, uu], hp := emp }
theorem L63_1_eq (n : Nat × Nat) (m1 : Nat) (v3 : Int) (v6 : List Int) (v7 : Int) (v8 : Int) : L63_1 n (m1 + 1) v3 v6 v7 v8 =
    (bif decide (v8 < v7) then (idx v6 v8).bind fun x1' =>
      L63_1 n m1 (wr .i64 (v3 + x1')) v6 v7 (wr .i64 (v8 + 1))
    else some v3) := by kernel_rfl
noncomputable def S63 (n : Nat × Nat) (l0 : List Int) : Option R63 := run (E63 n) c63 an63 rt63 (fun _ _ => none) rt63 { tm := [.c (.sl (.int .i64) l0 false), uu, uu, uu, uu, uu, uu, uu, uu, uu, uu, uu, uu, uu, uu, uu, uu], hp := emp }
theorem S63_eq (n : Nat × Nat) (l0 : List Int) : S63 n l0 =
    L63_1 n n.1 0 l0 (l0.length : Int) 0 := by kernel_rfl
theorem S63_run (n : Nat × Nat) (xs : pksDen pk63) : S63 n xs.1 = runG (E63 n) noScope c63 an63 (rtG rk63) (fun _ _ => none) (rtG rk63) (st0 pk63 xs Try.f63.ntmps) := by kernel_rfl
noncomputable def P63 (n : Nat × Nat) := phiOf pk63 rk63 (fun xs => S63 n xs.1)
theorem call63 : CallOK Try.prog 63 := callOK_of Try.func63 (by kernel_rfl) (by kernel_rfl)
theorem env63 (n : Nat × Nat) : EnvOK Try.prog (E63 n) := envOK0 noPhi_ok rfl rfl
theorem par63 (n : Nat × Nat) : EnvPar (E63 n) := envPar0 noPhi_par rfl
theorem FC63 (n : Nat × Nat) : FCs Try.prog 63 (P63 n) := phiOf_FCs fun xs r h vs hv => FC.of_runG tabOK eqsOK (env63 n) (par63 n) mixed (fun _ => noScope_ok) Try.func63 (c := c63) (an := an63) (pks := pk63) (rks := rk63) (by kernel_rfl) (by kernel_rfl) hv ((S63_run n xs).symm.trans h)
abbrev R66 := List Int
noncomputable def c66 : Code := bodyOf Try.f66
noncomputable def an66 : Ann := (.s .l (.s .l (.s (.s .l (.j [3] (.j [0, 3, 6, 7] (.s .l (.s (.j [0, 3, 6, 7] .l .l) (.s (.j [0, 3, 6, 7] .l .l) .l))) .l) .l)) .l)))
def pk66 : List PK := [.c (.sl (.pair (.int .i64) (.int .i64)))]
def rk66 : List RK := [.own (.int .i64) 2]
noncomputable def rt66 (st : St) : Option R66 := rtG rk66 st
noncomputable def E66 (n : Nat × Nat) : Env := { T := tab, phi := (consPhi 63 (fun _ => true) (P63 n) (consPhi 64 (fun _ => true) (P64 n) noPhi)), eff := fun _ => false, fuel := n.1, hold := n.2 }
noncomputable def kq66_1 (n : Nat × Nat) : St → Option R66 := run (E66 n) (cB (cB (cB c66))) (Ann.snd (Ann.snd (Ann.snd an66))) rt66 (fun _ _ => none) rt66
noncomputable def kc66_2 (n : Nat × Nat) : St → Option R66 := fun s => normC [3] s (kq66_1 n)
noncomputable def xb66_3 (n : Nat × Nat) : Nat → St → Option R66 := fun j s => bif Nat.beq j 0 then normC [3] s (kq66_1 n) else (fun _ _ => none) j s
noncomputable def F66_4 (n : Nat × Nat) : (St → Option R66) → St → Option R66 := fun K s => run (E66 n) (cA (cA (cB (cA (cB (cB c66)))))) (Ann.fst (Ann.fst (Ann.snd (Ann.fst (Ann.snd (Ann.snd an66)))))) (fun s => normC [0, 3, 6, 7] s K) (xb66_3 n) rt66 s
noncomputable def kq66_5 (n : Nat × Nat) (m1 : Nat) : St → Option R66 := run (E66 n) (cB (cB (cA (cA (cB (cA (cB (cB c66)))))))) (Ann.snd (Ann.snd (Ann.fst (Ann.fst (Ann.snd (Ann.fst (Ann.snd (Ann.snd an66)))))))) (fun s => normC [0, 3, 6, 7] s (loopN (F66_4 n) m1)) (xb66_3 n) rt66
noncomputable def kc66_6 (n : Nat × Nat) (m1 : Nat) : St → Option R66 := fun s => normC [0, 3, 6, 7] s (kq66_5 n m1)
noncomputable def kq66_7 (n : Nat × Nat) (m1 : Nat) : St → Option R66 := run (E66 n) (cB (cB (cB (cA (cA (cB (cA (cB (cB c66))))))))) (Ann.snd (Ann.snd (Ann.snd (Ann.fst (Ann.fst (Ann.snd (Ann.fst (Ann.snd (Ann.snd an66))))))))) (fun s => normC [0, 3, 6, 7] s (loopN (F66_4 n) m1)) (xb66_3 n) rt66
noncomputable def kc66_8 (n : Nat × Nat) (m1 : Nat) : St → Option R66 := fun s => normC [0, 3, 6, 7] s (kq66_7 n m1)
noncomputable def xb66_9 (n : Nat × Nat) (m1 : Nat) : Nat → St → Option R66 := fun j s => bif Nat.beq j 1 then normC [0, 3, 6, 7] s (kq66_7 n m1) else (xb66_3 n) j s
noncomputable def L66_1 (n : Nat × Nat) (m : Nat) (l0 : List (Int × Int)) (v6 : Int) (v7 : Int) (out3 : List Int) : Option R66 := loopN (F66_4 n) m { tm := [.c (.sl (.pair (.int .i64) (.int .i64)) l0 false), uu, uu, .own 3 none false, uu, uu, .c (.int .i64 v6), .c (.int .i64 v7), uu, uu, uu, uu, uu, uu, uu, uu, uu, uu, uu, uu, uu, uu, uu, uu, uu, uu, uu], hp := (upd emp 3 (.arr (.int .i64) out3 true)) }
theorem L66_1_eq (n : Nat × Nat) (m1 : Nat) (l0 : List (Int × Int)) (v6 : Int) (v7 : Int) (out3 : List Int) : L66_1 n (m1 + 1) l0 v6 v7 out3 =
    (bif decide (v7 < v6) then (bif bounds none (some (wr .i64 (v7 + 1))) none l0.length then (S64 n (l0.take (Int.toNat (wr .i64 (v7 + 1)))) 0).bind fun r1' =>
        (S63 n r1').bind fun r2' =>
        (bif bounds (some v7) none none l0.length then (S64 n (l0.drop (Int.toNat v7)) 1).bind fun r3' =>
          (S63 n r3').bind fun r4' =>
          (bif decide (out3.length + [wr .i64 (r2' + r4')].length ≤ lim) then L66_1 n m1 l0 v6 (wr .i64 (v7 + 1)) (out3 ++ [wr .i64 (r2' + r4')])
          else none)
        else none)
      else none)
    else some out3) := by kernel_rfl
noncomputable def S66 (n : Nat × Nat) (l0 : List (Int × Int)) : Option R66 := run (E66 n) c66 an66 rt66 (fun _ _ => none) rt66 { tm := [.c (.sl (.pair (.int .i64) (.int .i64)) l0 false), uu, uu, uu, uu, uu, uu, uu, uu, uu, uu, uu, uu, uu, uu, uu, uu, uu, uu, uu, uu, uu, uu, uu, uu, uu, uu], hp := emp }
theorem S66_eq (n : Nat × Nat) (l0 : List (Int × Int)) : S66 n l0 =
    L66_1 n n.1 l0 (l0.length : Int) 0 [] := by kernel_rfl
theorem S66_run (n : Nat × Nat) (xs : pksDen pk66) : S66 n xs.1 = runG (E66 n) noScope c66 an66 (rtG rk66) (fun _ _ => none) (rtG rk66) (st0 pk66 xs Try.f66.ntmps) := by kernel_rfl
noncomputable def P66 (n : Nat × Nat) := phiOf pk66 rk66 (fun xs => S66 n xs.1)
theorem call66 : CallOK Try.prog 66 := callOK_of Try.func66 (by kernel_rfl) (by kernel_rfl)
theorem env66 (n : Nat × Nat) : EnvOK Try.prog (E66 n) := envOK0 (consPhi_ok (FC63 n) call63 (consPhi_ok (FC64 n) call64 noPhi_ok)) rfl rfl
theorem par66 (n : Nat × Nat) : EnvPar (E66 n) := envPar0 (consPhi_par phiOf_Par1 (consPhi_par phiOf_Par1 noPhi_par)) rfl
theorem FC66 (n : Nat × Nat) : FCs Try.prog 66 (P66 n) := phiOf_FCs fun xs r h vs hv => FC.of_runG tabOK eqsOK (env66 n) (par66 n) mixed (fun _ => noScope_ok) Try.func66 (c := c66) (an := an66) (pks := pk66) (rks := rk66) (by kernel_rfl) (by kernel_rfl) hv ((S66_run n xs).symm.trans h)
abbrev R84 := Int
noncomputable def c84 : Code := bodyOf Try.f84
noncomputable def an84 : Ann := (.s .l (.s (.s .l (.j [0] (.j [0, 7, 8, 9] (.s .l (.s (.j [0, 7, 8, 9] .l .l) (.s (.j [0, 7, 8, 9] .l .l) .l))) .l) .l)) .l))
def pk84 : List PK := [.c (.int .i64), .c (.sl (.int .i64))]
def rk84 : List RK := [.c (.int .i64) 4]
noncomputable def rt84 (st : St) : Option R84 := rtG rk84 st
noncomputable def E84 (n : Nat × Nat) : Env := { T := tab, phi := noPhi, eff := fun _ => false, fuel := n.1, hold := n.2 }
noncomputable def kq84_1 (n : Nat × Nat) : St → Option R84 := run (E84 n) (cB (cB c84)) (Ann.snd (Ann.snd an84)) rt84 (fun _ _ => none) rt84
noncomputable def kc84_2 (n : Nat × Nat) : St → Option R84 := fun s => normC [0] s (kq84_1 n)
noncomputable def xb84_3 (n : Nat × Nat) : Nat → St → Option R84 := fun j s => bif Nat.beq j 0 then normC [0] s (kq84_1 n) else (fun _ _ => none) j s
noncomputable def F84_4 (n : Nat × Nat) : (St → Option R84) → St → Option R84 := fun K s => run (E84 n) (cA (cA (cB (cA (cB c84))))) (Ann.fst (Ann.fst (Ann.snd (Ann.fst (Ann.snd an84))))) (fun s => normC [0, 7, 8, 9] s K) (xb84_3 n) rt84 s
noncomputable def kq84_5 (n : Nat × Nat) (m1 : Nat) : St → Option R84 := run (E84 n) (cB (cB (cA (cA (cB (cA (cB c84))))))) (Ann.snd (Ann.snd (Ann.fst (Ann.fst (Ann.snd (Ann.fst (Ann.snd an84))))))) (fun s => normC [0, 7, 8, 9] s (loopN (F84_4 n) m1)) (xb84_3 n) rt84
noncomputable def kc84_6 (n : Nat × Nat) (m1 : Nat) : St → Option R84 := fun s => normC [0, 7, 8, 9] s (kq84_5 n m1)
noncomputable def kq84_7 (n : Nat × Nat) (m1 : Nat) : St → Option R84 := run (E84 n) (cB (cB (cB (cA (cA (cB (cA (cB c84)))))))) (Ann.snd (Ann.snd (Ann.snd (Ann.fst (Ann.fst (Ann.snd (Ann.fst (Ann.snd an84)))))))) (fun s => normC [0, 7, 8, 9] s (loopN (F84_4 n) m1)) (xb84_3 n) rt84
noncomputable def kc84_8 (n : Nat × Nat) (m1 : Nat) : St → Option R84 := fun s => normC [0, 7, 8, 9] s (kq84_7 n m1)
noncomputable def xb84_9 (n : Nat × Nat) (m1 : Nat) : Nat → St → Option R84 := fun j s => bif Nat.beq j 1 then normC [0, 7, 8, 9] s (kq84_7 n m1) else (xb84_3 n) j s
noncomputable def L84_1 (n : Nat × Nat) (m : Nat) (first0 : Int) (v7 : List Int) (v8 : Int) (v9 : Int) : Option R84 := loopN (F84_4 n) m { tm := [.c (.int .i64 first0), uu, uu, uu, uu, uu, uu, .c (.sl (.int .i64) v7 false), .c (.int .i64 v8), .c (.int .i64 v9), uu, uu, uu, uu, uu, uu, uu, uu], hp := emp }
theorem L84_1_eq (n : Nat × Nat) (m1 : Nat) (first0 : Int) (v7 : List Int) (v8 : Int) (v9 : Int) : L84_1 n (m1 + 1) first0 v7 v8 v9 =
    (bif decide (v9 < v8) then (idx v7 v9).bind fun x1' =>
      L84_1 n m1 (if x1' > first0 then x1' else first0) v7 v8 (wr .i64 (v9 + 1))
    else some first0) := by kernel_rfl
noncomputable def S84 (n : Nat × Nat) (first0 : Int) (v1 : List Int) : Option R84 := run (E84 n) c84 an84 rt84 (fun _ _ => none) rt84 { tm := [.c (.int .i64 first0), .c (.sl (.int .i64) v1 false), uu, uu, uu, uu, uu, uu, uu, uu, uu, uu, uu, uu, uu, uu, uu, uu], hp := emp }
theorem S84_eq (n : Nat × Nat) (first0 : Int) (v1 : List Int) : S84 n first0 v1 =
    L84_1 n n.1 first0 v1 (v1.length : Int) 0 := by kernel_rfl
theorem S84_run (n : Nat × Nat) (xs : pksDen pk84) : S84 n xs.1 xs.2.1 = runG (E84 n) noScope c84 an84 (rtG rk84) (fun _ _ => none) (rtG rk84) (st0 pk84 xs Try.f84.ntmps) := by kernel_rfl
noncomputable def P84 (n : Nat × Nat) := phiOf pk84 rk84 (fun xs => S84 n xs.1 xs.2.1)
theorem call84 : CallOK Try.prog 84 := callOK_of Try.func84 (by kernel_rfl) (by kernel_rfl)
theorem env84 (n : Nat × Nat) : EnvOK Try.prog (E84 n) := envOK0 noPhi_ok rfl rfl
theorem par84 (n : Nat × Nat) : EnvPar (E84 n) := envPar0 noPhi_par rfl
theorem FC84 (n : Nat × Nat) : FCs Try.prog 84 (P84 n) := phiOf_FCs fun xs r h vs hv => FC.of_runG tabOK eqsOK (env84 n) (par84 n) mixed (fun _ => noScope_ok) Try.func84 (c := c84) (an := an84) (pks := pk84) (rks := rk84) (by kernel_rfl) (by kernel_rfl) hv ((S84_run n xs).symm.trans h)
abbrev R61 := Int
noncomputable def c61 : Code := bodyOf Try.f61
noncomputable def an61 : Ann := .l
def pk61 : List PK := [.c (.sl (.pair (.int .i64) (.int .i64)))]
def rk61 : List RK := [.c (.int .i64) 2]
noncomputable def rt61 (st : St) : Option R61 := rtG rk61 st
noncomputable def E61 (n : Nat × Nat) : Env := { T := tab, phi := (consPhi 66 (fun _ => true) (P66 n) (consPhi 84 (fun _ => true) (P84 n) noPhi)), eff := fun _ => false, fuel := n.1, hold := n.2 }
noncomputable def S61 (n : Nat × Nat) (l0 : List (Int × Int)) : Option R61 := run (E61 n) c61 an61 rt61 (fun _ _ => none) rt61 { tm := [.c (.sl (.pair (.int .i64) (.int .i64)) l0 false), uu, uu, uu, uu, uu, uu, uu, uu, uu, uu, uu], hp := emp }
theorem S61_eq (n : Nat × Nat) (l0 : List (Int × Int)) : S61 n l0 =
    (S66 n l0).bind fun r1' =>
    (bif inB 0 r1'.length then (idx r1' 0).bind fun x2' =>
      (bif bounds (some 1) none none r1'.length then (S84 n x2' ((r1'.drop (0 + (Int.toNat 1))).take (r1'.length - (Int.toNat 1)))).bind fun r3' =>
        some r3'
      else none)
    else none) := by kernel_rfl
theorem S61_run (n : Nat × Nat) (xs : pksDen pk61) : S61 n xs.1 = runG (E61 n) noScope c61 an61 (rtG rk61) (fun _ _ => none) (rtG rk61) (st0 pk61 xs Try.f61.ntmps) := by kernel_rfl
noncomputable def P61 (n : Nat × Nat) := phiOf pk61 rk61 (fun xs => S61 n xs.1)
theorem call61 : CallOK Try.prog 61 := callOK_of Try.func61 (by kernel_rfl) (by kernel_rfl)
theorem env61 (n : Nat × Nat) : EnvOK Try.prog (E61 n) := envOK0 (consPhi_ok (FC66 n) call66 (consPhi_ok (FC84 n) call84 noPhi_ok)) rfl rfl
theorem par61 (n : Nat × Nat) : EnvPar (E61 n) := envPar0 (consPhi_par phiOf_Par1 (consPhi_par phiOf_Par1 noPhi_par)) rfl
theorem FC61 (n : Nat × Nat) : FCs Try.prog 61 (P61 n) := phiOf_FCs fun xs r h vs hv => FC.of_runG tabOK eqsOK (env61 n) (par61 n) mixed (fun _ => noScope_ok) Try.func61 (c := c61) (an := an61) (pks := pk61) (rks := rk61) (by kernel_rfl) (by kernel_rfl) hv ((S61_run n xs).symm.trans h)
abbrev R19 := Int × Int
noncomputable def c19 : Code := bodyOf Try.f19
noncomputable def an19 : Ann := (.s .l (.s .l (.s (.s .l (.j [6] .l .l)) .l)))
def pk19 : List PK := [.c (.sl (.pair (.int .i64) (.int .i64))), .c (.sl (.int .i64))]
def rk19 : List RK := [.c (.int .i64) 4, .c (.int .i64) 5]
noncomputable def rt19 (st : St) : Option R19 := rtG rk19 st
noncomputable def E19 (n : Nat × Nat) : Env := { T := tab, phi := (consPhi 58 (fun _ => true) (P58 n) (consPhi 61 (fun _ => true) (P61 n) noPhi)), eff := fun _ => false, fuel := n.1, hold := n.2 }
noncomputable def kq19_1 (n : Nat × Nat) : St → Option R19 := run (E19 n) (cB (cB (cB c19))) (Ann.snd (Ann.snd (Ann.snd an19))) rt19 (fun _ _ => none) rt19
noncomputable def kc19_2 (n : Nat × Nat) : St → Option R19 := fun s => normC [6] s (kq19_1 n)
noncomputable def S19 (n : Nat × Nat) (sheets0 : List (Int × Int)) (order1 : List Int) : Option R19 := run (E19 n) c19 an19 rt19 (fun _ _ => none) rt19 { tm := [.c (.sl (.pair (.int .i64) (.int .i64)) sheets0 false), .c (.sl (.int .i64) order1 false), uu, uu, uu, uu, uu, uu, uu, uu, uu, uu, uu, uu, uu, uu, uu, uu, uu], hp := emp }
theorem S19_eq (n : Nat × Nat) (sheets0 : List (Int × Int)) (order1 : List Int) : S19 n sheets0 order1 =
    (S58 n sheets0 order1).bind fun r1' =>
    (bif (r1'.2 != 0) then some (0, r1'.2)
    else (S61 n r1'.1).bind fun r2' =>
      some (r2', 0)) := by kernel_rfl
theorem S19_run (n : Nat × Nat) (xs : pksDen pk19) : S19 n xs.1 xs.2.1 = runG (E19 n) noScope c19 an19 (rtG rk19) (fun _ _ => none) (rtG rk19) (st0 pk19 xs Try.f19.ntmps) := by kernel_rfl
noncomputable def P19 (n : Nat × Nat) := phiOf pk19 rk19 (fun xs => S19 n xs.1 xs.2.1)
theorem call19 : CallOK Try.prog 19 := callOK_of Try.func19 (by kernel_rfl) (by kernel_rfl)
theorem env19 (n : Nat × Nat) : EnvOK Try.prog (E19 n) := envOK0 (consPhi_ok (FC58 n) call58 (consPhi_ok (FC61 n) call61 noPhi_ok)) rfl rfl
theorem par19 (n : Nat × Nat) : EnvPar (E19 n) := envPar0 (consPhi_par phiOf_Par1 (consPhi_par phiOf_Par1 noPhi_par)) rfl
theorem FC19 (n : Nat × Nat) : FCs Try.prog 19 (P19 n) := phiOf_FCs fun xs r h vs hv => FC.of_runG tabOK eqsOK (env19 n) (par19 n) mixed (fun _ => noScope_ok) Try.func19 (c := c19) (an := an19) (pks := pk19) (rks := rk19) (by kernel_rfl) (by kernel_rfl) hv ((S19_run n xs).symm.trans h)
abbrev R21 := Int × Int
noncomputable def c21 : Code := bodyOf Try.f21
noncomputable def an21 : Ann := (.s .l (.s .l (.s (.s .l (.j [6] .l .l)) .l)))
def pk21 : List PK := [.c (.sl (.pair (.int .i64) (.int .i64))), .c (.sl (.int .i64))]
def rk21 : List RK := [.c (.int .i64) 4, .c (.int .i64) 5]
noncomputable def rt21 (st : St) : Option R21 := rtG rk21 st
noncomputable def E21 (n : Nat × Nat) : Env := { T := tab, phi := (consPhi 58 (fun _ => true) (P58 n) (consPhi 61 (fun _ => true) (P61 n) (consPhi 63 (fun _ => true) (P63 n) (consPhi 64 (fun _ => true) (P64 n) noPhi)))), eff := fun _ => false, fuel := n.1, hold := n.2 }
noncomputable def kq21_1 (n : Nat × Nat) : St → Option R21 := run (E21 n) (cB (cB (cB c21))) (Ann.snd (Ann.snd (Ann.snd an21))) rt21 (fun _ _ => none) rt21
noncomputable def kc21_2 (n : Nat × Nat) : St → Option R21 := fun s => normC [6] s (kq21_1 n)
noncomputable def S21 (n : Nat × Nat) (sheets0 : List (Int × Int)) (order1 : List Int) : Option R21 := run (E21 n) c21 an21 rt21 (fun _ _ => none) rt21 { tm := [.c (.sl (.pair (.int .i64) (.int .i64)) sheets0 false), .c (.sl (.int .i64) order1 false), uu, uu, uu, uu, uu, uu, uu, uu, uu, uu, uu, uu, uu, uu, uu, uu, uu, uu, uu, uu, uu], hp := emp }
theorem S21_eq (n : Nat × Nat) (sheets0 : List (Int × Int)) (order1 : List Int) : S21 n sheets0 order1 =
    (S58 n sheets0 order1).bind fun r1' =>
    (bif (r1'.2 != 0) then some (0, r1'.2)
    else (S61 n r1'.1).bind fun r2' =>
      (S64 n r1'.1 1).bind fun r3' =>
      (S63 n r3').bind fun r4' =>
      some (wr .i64 (r2' - r4'), 0)) := by kernel_rfl
theorem S21_run (n : Nat × Nat) (xs : pksDen pk21) : S21 n xs.1 xs.2.1 = runG (E21 n) noScope c21 an21 (rtG rk21) (fun _ _ => none) (rtG rk21) (st0 pk21 xs Try.f21.ntmps) := by kernel_rfl
noncomputable def P21 (n : Nat × Nat) := phiOf pk21 rk21 (fun xs => S21 n xs.1 xs.2.1)
theorem call21 : CallOK Try.prog 21 := callOK_of Try.func21 (by kernel_rfl) (by kernel_rfl)
theorem env21 (n : Nat × Nat) : EnvOK Try.prog (E21 n) := envOK0 (consPhi_ok (FC58 n) call58 (consPhi_ok (FC61 n) call61 (consPhi_ok (FC63 n) call63 (consPhi_ok (FC64 n) call64 noPhi_ok)))) rfl rfl
theorem par21 (n : Nat × Nat) : EnvPar (E21 n) := envPar0 (consPhi_par phiOf_Par1 (consPhi_par phiOf_Par1 (consPhi_par phiOf_Par1 (consPhi_par phiOf_Par1 noPhi_par)))) rfl
theorem FC21 (n : Nat × Nat) : FCs Try.prog 21 (P21 n) := phiOf_FCs fun xs r h vs hv => FC.of_runG tabOK eqsOK (env21 n) (par21 n) mixed (fun _ => noScope_ok) Try.func21 (c := c21) (an := an21) (pks := pk21) (rks := rk21) (by kernel_rfl) (by kernel_rfl) hv ((S21_run n xs).symm.trans h)
abbrev R23 := Int × Int
noncomputable def c23 : Code := bodyOf Try.f23
noncomputable def an23 : Ann := (.s .l (.s .l (.s (.s .l (.j [6] .l .l)) .l)))
def pk23 : List PK := [.c (.sl (.pair (.int .i64) (.int .i64))), .c (.sl (.int .i64))]
def rk23 : List RK := [.c (.int .i64) 4, .c (.int .i64) 5]
noncomputable def rt23 (st : St) : Option R23 := rtG rk23 st
noncomputable def E23 (n : Nat × Nat) : Env := { T := tab, phi := (consPhi 58 (fun _ => true) (P58 n) (consPhi 61 (fun _ => true) (P61 n) (consPhi 65 (fun _ => true) (P65 n) (consPhi 66 (fun _ => true) (P66 n) noPhi)))), eff := fun _ => false, fuel := n.1, hold := n.2 }
noncomputable def kq23_1 (n : Nat × Nat) : St → Option R23 := run (E23 n) (cB (cB (cB c23))) (Ann.snd (Ann.snd (Ann.snd an23))) rt23 (fun _ _ => none) rt23
noncomputable def kc23_2 (n : Nat × Nat) : St → Option R23 := fun s => normC [6] s (kq23_1 n)
noncomputable def S23 (n : Nat × Nat) (sheets0 : List (Int × Int)) (order1 : List Int) : Option R23 := run (E23 n) c23 an23 rt23 (fun _ _ => none) rt23 { tm := [.c (.sl (.pair (.int .i64) (.int .i64)) sheets0 false), .c (.sl (.int .i64) order1 false), uu, uu, uu, uu, uu, uu, uu, uu, uu, uu, uu, uu, uu, uu, uu, uu, uu, uu, uu, uu], hp := emp }
theorem S23_eq (n : Nat × Nat) (sheets0 : List (Int × Int)) (order1 : List Int) : S23 n sheets0 order1 =
    (S58 n sheets0 order1).bind fun r1' =>
    (bif (r1'.2 != 0) then some (0, r1'.2)
    else (S66 n r1'.1).bind fun r2' =>
      (S61 n r1'.1).bind fun r3' =>
      (S65 n r2' r3').bind fun r4' =>
      some (r4', 0)) := by kernel_rfl
theorem S23_run (n : Nat × Nat) (xs : pksDen pk23) : S23 n xs.1 xs.2.1 = runG (E23 n) noScope c23 an23 (rtG rk23) (fun _ _ => none) (rtG rk23) (st0 pk23 xs Try.f23.ntmps) := by kernel_rfl
noncomputable def P23 (n : Nat × Nat) := phiOf pk23 rk23 (fun xs => S23 n xs.1 xs.2.1)
theorem call23 : CallOK Try.prog 23 := callOK_of Try.func23 (by kernel_rfl) (by kernel_rfl)
theorem env23 (n : Nat × Nat) : EnvOK Try.prog (E23 n) := envOK0 (consPhi_ok (FC58 n) call58 (consPhi_ok (FC61 n) call61 (consPhi_ok (FC65 n) call65 (consPhi_ok (FC66 n) call66 noPhi_ok)))) rfl rfl
theorem par23 (n : Nat × Nat) : EnvPar (E23 n) := envPar0 (consPhi_par phiOf_Par1 (consPhi_par phiOf_Par1 (consPhi_par phiOf_Par1 (consPhi_par phiOf_Par1 noPhi_par)))) rfl
theorem FC23 (n : Nat × Nat) : FCs Try.prog 23 (P23 n) := phiOf_FCs fun xs r h vs hv => FC.of_runG tabOK eqsOK (env23 n) (par23 n) mixed (fun _ => noScope_ok) Try.func23 (c := c23) (an := an23) (pks := pk23) (rks := rk23) (by kernel_rfl) (by kernel_rfl) hv ((S23_run n xs).symm.trans h)
abbrev R86 := Int
noncomputable def c86 : Code := bodyOf Try.f86
noncomputable def an86 : Ann := .l
def pk86 : List PK := [.c (.int .i64), .c (.int .i64), .p (.sl (.pair (.int .i64) (.int .i64)))]
def rk86 : List RK := [.c (.int .i64) 5]
noncomputable def rt86 (st : St) : Option R86 := rtG rk86 st
noncomputable def E86 (n : Nat × Nat) : Env := { T := tab, phi := noPhi, eff := fun _ => false, fuel := n.1, hold := n.2 }
noncomputable def S86 (n : Nat × Nat) (i0 : Int) (j1 : Int) (v2 : List (Int × Int)) : Option R86 := run (E86 n) c86 an86 rt86 (fun _ _ => none) rt86 { tm := [.c (.int .i64 i0), .c (.int .i64 j1), .iptr [.sl (.pair (.int .i64) (.int .i64)) v2 false], uu, uu, uu, uu, uu, uu, uu, uu, uu, uu, uu, uu, uu, uu], hp := emp }
theorem S86_eq (n : Nat × Nat) (i0 : Int) (j1 : Int) (v2 : List (Int × Int)) : S86 n i0 j1 v2 =
    (idx v2 i0).bind fun x1' =>
    (idx v2 j1).bind fun x2' =>
    some (wr .i64 (x1'.1 - x2'.1)) := by kernel_rfl
theorem S86_run (n : Nat × Nat) (xs : pksDen pk86) : S86 n xs.1 xs.2.1 xs.2.2.1 = runG (E86 n) noScope c86 an86 (rtG rk86) (fun _ _ => none) (rtG rk86) (st0 pk86 xs Try.f86.ntmps) := by kernel_rfl
noncomputable def P86 (n : Nat × Nat) := phiOf pk86 rk86 (fun xs => S86 n xs.1 xs.2.1 xs.2.2.1)
theorem call86 : CallOK Try.prog 86 := callOK_of Try.func86 (by kernel_rfl) (by kernel_rfl)
theorem env86 (n : Nat × Nat) : EnvOK Try.prog (E86 n) := envOK0 noPhi_ok rfl rfl
theorem par86 (n : Nat × Nat) : EnvPar (E86 n) := envPar0 noPhi_par rfl
theorem FC86 (n : Nat × Nat) : FCs Try.prog 86 (P86 n) := phiOf_FCs fun xs r h vs hv => FC.of_runG tabOK eqsOK (env86 n) (par86 n) mixed (fun _ => noScope_ok) Try.func86 (c := c86) (an := an86) (pks := pk86) (rks := rk86) (by kernel_rfl) (by kernel_rfl) hv ((S86_run n xs).symm.trans h)
/- slices.insertionSortCmpFunc[int] -/
abbrev R95c86io1001 := (Unit) × (List Int) × (List (Int × Int)) × Unit
noncomputable def c95c86io1001 : Code := bodyOf Try.f95
noncomputable def an95c86io1001 : Ann := (.s .l (.j [1000000000, 1000000001] (.j [0, 1, 2, 3, 8, 22, 23, 24, 25, 26, 27, 28, 29, 30, 31, 32, 33, 1000000000, 1000000001] (.s (.s .l (.j [0, 1, 2, 3, 8, 22, 23, 24, 25, 26, 27, 28, 29, 30, 31, 32, 33, 1000000000, 1000000001] .l .l)) (.s (.j [0, 1, 2, 3, 8, 22, 23, 24, 25, 26, 27, 28, 29, 30, 31, 32, 33, 1000000000, 1000000001] (.s .l (.j [0, 1, 2, 3, 8, 22, 23, 24, 25, 26, 27, 28, 29, 30, 31, 32, 33, 1000000000, 1000000001] (.j [0, 1, 2, 3, 8, 9, 22, 23, 24, 25, 26, 27, 28, 29, 30, 31, 32, 33, 1000000000, 1000000001] (.s (.s .l (.j [0, 1, 2, 3, 8, 9, 22, 23, 24, 25, 26, 27, 28, 29, 30, 31, 32, 33, 1000000000, 1000000001] .l .l)) (.s (.j [0, 1, 2, 3, 8, 9, 22, 23, 24, 25, 26, 27, 28, 29, 30, 31, 32, 33, 1000000000, 1000000001] .l .l) .l)) .l) .l)) .l) .l)) .l) .l))
def pk95c86io1001 : List QK := [.oa (.int .i64), .pl (.c (.int .i64)), .pl (.c (.int .i64)), .of 86 [(.sl (.pair (.int .i64) (.int .i64)))]]
def rk95c86io1001 : List RK := []
noncomputable def rt95c86io1001 (st : St) : Option R95c86io1001 := rtIO rk95c86io1001 (pk95c86io1001.flatMap QK.ods) st
noncomputable def E95c86io1001 (n : Nat × Nat) : Env := { T := tab, phi := (consPhi 86 (fun _ => true) (P86 n) noPhi), eff := fun _ => false, fuel := n.1, hold := n.2, pcl := [22] }
noncomputable def kc95c86io1001_1 (n : Nat × Nat) : St → Option R95c86io1001 := fun s => normC [1000000000, 1000000001] s rt95c86io1001
noncomputable def xb95c86io1001_2 (n : Nat × Nat) : Nat → St → Option R95c86io1001 := fun j s => bif Nat.beq j 0 then normC [1000000000, 1000000001] s rt95c86io1001 else (fun _ _ => none) j s
noncomputable def F95c86io1001_3 (n : Nat × Nat) : (St → Option R95c86io1001) → St → Option R95c86io1001 := fun K s => run (E95c86io1001 n) (cA (cA (cB c95c86io1001))) (Ann.fst (Ann.fst (Ann.snd an95c86io1001))) (fun s => normC [0, 1, 2, 3, 8, 22, 23, 24, 25, 26, 27, 28, 29, 30, 31, 32, 33, 1000000000, 1000000001] s K) (xb95c86io1001_2 n) rt95c86io1001 s
noncomputable def kq95c86io1001_4 (n : Nat × Nat) (m1 : Nat) : St → Option R95c86io1001 := run (E95c86io1001 n) (cB (cA (cA (cB c95c86io1001)))) (Ann.snd (Ann.fst (Ann.fst (Ann.snd an95c86io1001)))) (fun s => normC [0, 1, 2, 3, 8, 22, 23, 24, 25, 26, 27, 28, 29, 30, 31, 32, 33, 1000000000, 1000000001] s (loopN (F95c86io1001_3 n) m1)) (xb95c86io1001_2 n) rt95c86io1001
noncomputable def kc95c86io1001_5 (n : Nat × Nat) (m1 : Nat) : St → Option R95c86io1001 := fun s => normC [0, 1, 2, 3, 8, 22, 23, 24, 25, 26, 27, 28, 29, 30, 31, 32, 33, 1000000000, 1000000001] s (kq95c86io1001_4 n m1)
noncomputable def kq95c86io1001_6 (n : Nat × Nat) (m1 : Nat) : St → Option R95c86io1001 := run (E95c86io1001 n) (cB (cB (cA (cA (cB c95c86io1001))))) (Ann.snd (Ann.snd (Ann.fst (Ann.fst (Ann.snd an95c86io1001))))) (fun s => normC [0, 1, 2, 3, 8, 22, 23, 24, 25, 26, 27, 28, 29, 30, 31, 32, 33, 1000000000, 1000000001] s (loopN (F95c86io1001_3 n) m1)) (xb95c86io1001_2 n) rt95c86io1001
noncomputable def kc95c86io1001_7 (n : Nat × Nat) (m1 : Nat) : St → Option R95c86io1001 := fun s => normC [0, 1, 2, 3, 8, 22, 23, 24, 25, 26, 27, 28, 29, 30, 31, 32, 33, 1000000000, 1000000001] s (kq95c86io1001_6 n m1)
noncomputable def xb95c86io1001_8 (n : Nat × Nat) (m1 : Nat) : Nat → St → Option R95c86io1001 := fun j s => bif Nat.beq j 1 then normC [0, 1, 2, 3, 8, 22, 23, 24, 25, 26, 27, 28, 29, 30, 31, 32, 33, 1000000000, 1000000001] s (kq95c86io1001_6 n m1) else (xb95c86io1001_2 n) j s
noncomputable def kc95c86io1001_9 (n : Nat × Nat) (m1 : Nat) : St → Option R95c86io1001 := fun s => normC [0, 1, 2, 3, 8, 22, 23, 24, 25, 26, 27, 28, 29, 30, 31, 32, 33, 1000000000, 1000000001] s (kc95c86io1001_7 n m1)
noncomputable def xb95c86io1001_10 (n : Nat × Nat) (m1 : Nat) : Nat → St → Option R95c86io1001 := fun j s => bif Nat.beq j 2 then normC [0, 1, 2, 3, 8, 22, 23, 24, 25, 26, 27, 28, 29, 30, 31, 32, 33, 1000000000, 1000000001] s (kc95c86io1001_7 n m1) else (xb95c86io1001_8 n m1) j s
noncomputable def F95c86io1001_11 (n : Nat × Nat) (m1 : Nat) : (St → Option R95c86io1001) → St → Option R95c86io1001 := fun K s => run (E95c86io1001 n) (cA (cA (cB (cA (cA (cB (cA (cA (cB c95c86io1001))))))))) (Ann.fst (Ann.fst (Ann.snd (Ann.fst (Ann.fst (Ann.snd (Ann.fst (Ann.fst (Ann.snd an95c86io1001))))))))) (fun s => normC [0, 1, 2, 3, 8, 9, 22, 23, 24, 25, 26, 27, 28, 29, 30, 31, 32, 33, 1000000000, 1000000001] s K) (xb95c86io1001_10 n m1) rt95c86io1001 s
noncomputable def kq95c86io1001_12 (n : Nat × Nat) (m1 m2 : Nat) : St → Option R95c86io1001 := run (E95c86io1001 n) (cB (cA (cA (cB (cA (cA (cB (cA (cA (cB c95c86io1001)))))))))) (Ann.snd (Ann.fst (Ann.fst (Ann.snd (Ann.fst (Ann.fst (Ann.snd (Ann.fst (Ann.fst (Ann.snd an95c86io1001)))))))))) (fun s => normC [0, 1, 2, 3, 8, 9, 22, 23, 24, 25, 26, 27, 28, 29, 30, 31, 32, 33, 1000000000, 1000000001] s (loopN (F95c86io1001_11 n m1) m2)) (xb95c86io1001_10 n m1) rt95c86io1001
noncomputable def kc95c86io1001_13 (n : Nat × Nat) (m1 m2 : Nat) : St → Option R95c86io1001 := fun s => normC [0, 1, 2, 3, 8, 9, 22, 23, 24, 25, 26, 27, 28, 29, 30, 31, 32, 33, 1000000000, 1000000001] s (kq95c86io1001_12 n m1 m2)
noncomputable def kq95c86io1001_14 (n : Nat × Nat) (m1 m2 : Nat) : St → Option R95c86io1001 := run (E95c86io1001 n) (cB (cB (cA (cA (cB (cA (cA (cB (cA (cA (cB c95c86io1001))))))))))) (Ann.snd (Ann.snd (Ann.fst (Ann.fst (Ann.snd (Ann.fst (Ann.fst (Ann.snd (Ann.fst (Ann.fst (Ann.snd an95c86io1001))))))))))) (fun s => normC [0, 1, 2, 3, 8, 9, 22, 23, 24, 25, 26, 27, 28, 29, 30, 31, 32, 33, 1000000000, 1000000001] s (loopN (F95c86io1001_11 n m1) m2)) (xb95c86io1001_10 n m1) rt95c86io1001
noncomputable def kc95c86io1001_15 (n : Nat × Nat) (m1 m2 : Nat) : St → Option R95c86io1001 := fun s => normC [0, 1, 2, 3, 8, 9, 22, 23, 24, 25, 26, 27, 28, 29, 30, 31, 32, 33, 1000000000, 1000000001] s (kq95c86io1001_14 n m1 m2)
noncomputable def xb95c86io1001_16 (n : Nat × Nat) (m1 m2 : Nat) : Nat → St → Option R95c86io1001 := fun j s => bif Nat.beq j 3 then normC [0, 1, 2, 3, 8, 9, 22, 23, 24, 25, 26, 27, 28, 29, 30, 31, 32, 33, 1000000000, 1000000001] s (kq95c86io1001_14 n m1 m2) else (xb95c86io1001_10 n m1) j s
noncomputable def L95c86io1001_1 (n : Nat × Nat) (m : Nat) (a1 : Int) (b2 : Int) (i8 : Int) (u0 : List Int) (u1 : List (Int × Int)) : Option R95c86io1001 := loopN (F95c86io1001_3 n) m { tm := [.own 1000000000 none false, .c (.int .i64 a1), .c (.int .i64 b2), .fn 86 [.ptr 1000000001 0], uu, uu, uu, uu, .c (.int .i64 i8), uu, uu, uu, uu, uu, uu, uu, uu, uu, uu, uu, uu, uu, uu, uu, uu, uu, uu, uu, uu, uu, uu, uu, uu, uu, uu, uu, uu, uu, uu, uu, uu, uu, uu, uu, uu, uu, uu, uu, uu, uu, uu, uu, uu], hp := (upd (upd emp 1000000001 (.box [.sl (.pair (.int .i64) (.int .i64)) u1 false])) 1000000000 (.arr (.int .i64) u0 false)) }
noncomputable def L95c86io1001_2 (n : Nat × Nat) (m1 : Nat) (m : Nat) (a1 : Int) (b2 : Int) (i8 : Int) (j9 : Int) (u0 : List Int) (u1 : List (Int × Int)) : Option R95c86io1001 := loopN (F95c86io1001_11 n m1) m { tm := [.own 1000000000 none false, .c (.int .i64 a1), .c (.int .i64 b2), .fn 86 [.ptr 1000000001 0], uu, uu, uu, uu, .c (.int .i64 i8), .c (.int .i64 j9), uu, uu, uu, uu, uu, uu, uu, uu, uu, uu, uu, uu, uu, uu, uu, uu, uu, uu, uu, uu, uu, uu, uu, uu, uu, uu, uu, uu, uu, uu, uu, uu, uu, uu, uu, uu, uu, uu, uu, uu, uu, uu, uu], hp := (upd (upd emp 1000000001 (.box [.sl (.pair (.int .i64) (.int .i64)) u1 false])) 1000000000 (.arr (.int .i64) u0 false)) }
theorem L95c86io1001_1_eq (n : Nat × Nat) (m1 : Nat) (a1 : Int) (b2 : Int) (i8 : Int) (u0 : List Int) (u1 : List (Int × Int)) : L95c86io1001_1 n (m1 + 1) a1 b2 i8 u0 u1 =
    (bif decide (i8 < b2) then L95c86io1001_2 n m1 n.1 a1 b2 i8 i8 u0 u1
    else some ((), u0, u1, ())) := by kernel_rfl
theorem L95c86io1001_2_eq (n : Nat × Nat) (m1 m2 : Nat) (a1 : Int) (b2 : Int) (i8 : Int) (j9 : Int) (u0 : List Int) (u1 : List (Int × Int)) : L95c86io1001_2 n m1 (m2 + 1) a1 b2 i8 j9 u0 u1 =
    ((bif (decide (j9 > a1) == true) then (bif inB j9 u0.length then (idx u0 j9).bind fun x1' =>
          (bif inB (wr .i64 (j9 - 1)) u0.length then (idx u0 (wr .i64 (j9 - 1))).bind fun x2' =>
            (S86 n x1' x2' u1).bind fun r3' =>
            some (decide (r3' < 0))
          else none)
        else none)
      else some false)).bind fun b4' =>
    (bif b4' then (bif inB (wr .i64 (j9 - 1)) u0.length then (idx u0 (wr .i64 (j9 - 1))).bind fun x5' =>
        (bif inB j9 u0.length then (idx u0 j9).bind fun x6' =>
          (bif inB j9 u0.length then (idx u0 j9).bind fun x7' =>
            (bif inB (wr .i64 (j9 - 1)) (u0.set (Int.toNat j9) x5').length then (idx (u0.set (Int.toNat j9) x5') (wr .i64 (j9 - 1))).bind fun x8' =>
              L95c86io1001_2 n m1 m2 a1 b2 i8 (wr .i64 (j9 - 1)) ((u0.set (Int.toNat j9) x5').set (Int.toNat (wr .i64 (j9 - 1))) x6') u1
            else none)
          else none)
        else none)
      else none)
    else L95c86io1001_1 n m1 a1 b2 (wr .i64 (i8 + 1)) u0 u1) := by kernel_rfl
noncomputable def S95c86io1001 (n : Nat × Nat) (data0 : List Int) (a1 : Int) (b2 : Int) (cp_3_0 : List (Int × Int)) : Option R95c86io1001 := run (E95c86io1001 n) c95c86io1001 an95c86io1001 rt95c86io1001 (fun _ _ => none) rt95c86io1001 { tm := [.own 1000000000 none false, .c (.int .i64 a1), .c (.int .i64 b2), .fn 86 [.ptr 1000000001 0], uu, uu, uu, uu, uu, uu, uu, uu, uu, uu, uu, uu, uu, uu, uu, uu, uu, uu, uu, uu, uu, uu, uu, uu, uu, uu, uu, uu, uu, uu, uu, uu, uu, uu, uu, uu, uu, uu, uu, uu, uu, uu, uu, uu, uu, uu, uu, uu, uu], hp := (upd (upd emp 1000000001 (.box [.sl (.pair (.int .i64) (.int .i64)) cp_3_0 false])) 1000000000 (.arr (.int .i64) data0 false)) }
theorem S95c86io1001_eq (n : Nat × Nat) (data0 : List Int) (a1 : Int) (b2 : Int) (cp_3_0 : List (Int × Int)) : S95c86io1001 n data0 a1 b2 cp_3_0 =
    L95c86io1001_1 n n.1 a1 b2 (wr .i64 (a1 + 1)) data0 cp_3_0 := by kernel_rfl
theorem S95c86io1001_run (n : Nat × Nat) (xs : qksDen pk95c86io1001) : S95c86io1001 n xs.1 xs.2.1 xs.2.2.1 xs.2.2.2.1.1 = runG (E95c86io1001 n) noScope c95c86io1001 an95c86io1001 (rtIO rk95c86io1001 (pk95c86io1001.flatMap QK.ods)) (fun _ _ => none) (rtIO rk95c86io1001 (pk95c86io1001.flatMap QK.ods)) (st1 pk95c86io1001 xs Try.f95.ntmps) := by kernel_rfl
noncomputable def P95c86io1001 (n : Nat × Nat) := phioOf pk95c86io1001 rk95c86io1001 (pk95c86io1001.flatMap QK.ods) (fun xs => S95c86io1001 n xs.1 xs.2.1 xs.2.2.1 xs.2.2.2.1.1)
theorem call95 : CallOK Try.prog 95 := callOK_of Try.func95 (by kernel_rfl) (by kernel_rfl)
theorem env95c86io1001 (n : Nat × Nat) : EnvOK Try.prog (E95c86io1001 n) := envOK0 (consPhi_ok (FC86 n) call86 noPhi_ok) rfl rfl
theorem par95c86io1001 (n : Nat × Nat) : EnvPar (E95c86io1001 n) := envPar0 (consPhi_par phiOf_Par1 noPhi_par) rfl
theorem FC95c86io1001 (n : Nat × Nat) : FCios Try.prog 95 (pk95c86io1001.map QK.flag) (P95c86io1001 n) := phioOf_FCios fun xs r h vs hv => FCio.of_runG tabOK eqsOK (env95c86io1001 n) (par95c86io1001 n) mixed (fun _ => noScope_ok) Try.func95 (c := c95c86io1001) (an := an95c86io1001) (qks := pk95c86io1001) (rks := rk95c86io1001) (by kernel_rfl) (by kernel_rfl) hv ((S95c86io1001_run n xs).symm.trans h)
abbrev R96c86io10001 := (Unit) × (List Int) × (List (Int × Int)) × Unit
def pk96c86io10001 : List QK := [.oa (.int .i64), .pl (.c (.int .i64)), .pl (.c (.int .i64)), .pl (.c (.int .i64)), .of 86 [(.sl (.pair (.int .i64) (.int .i64)))]]
def rk96c86io10001 : List RK := []
noncomputable def S96c86io10001 (n : Nat × Nat) (data0 : List Int) (a1 : Int) (m2 : Int) (b3 : Int) (cp_4_0 : List (Int × Int)) : Option R96c86io10001 := none
noncomputable def P96c86io10001 (n : Nat × Nat) := phioOf pk96c86io10001 rk96c86io10001 (pk96c86io10001.flatMap QK.ods) (fun xs => S96c86io10001 n xs.1 xs.2.1 xs.2.2.1 xs.2.2.2.1 xs.2.2.2.2.1.1)
theorem call96 : CallOK Try.prog 96 := callOK_of Try.func96 (by kernel_rfl) (by kernel_rfl)
theorem FC96c86io10001 (n : Nat × Nat) : FCios Try.prog 96 (pk96c86io10001.map QK.flag) (P96c86io10001 n) := phioOf_FCios fun xs r h => by cases h
theorem parP96c86io10001 (n : Nat × Nat) : Pario1 (P96c86io10001 n) := by unfold P96c86io10001; exact phioOf_Pario1
/- slices.stableCmpFunc[int] -/
abbrev R94c86io101 := (Unit) × (List Int) × (List (Int × Int)) × Unit
noncomputable def c94c86io101 : Code := bodyOf Try.f94
noncomputable def an94c86io101 : Ann := (.s .l (.s .l (.s (.j [0, 1, 2, 6, 7, 1000000000, 1000000001] (.j [0, 1, 2, 6, 7, 8, 1000000000, 1000000001] (.s (.s .l (.j [0, 1, 2, 6, 7, 8, 1000000000, 1000000001] .l .l)) (.j [0, 1, 2, 6, 7, 8, 1000000000, 1000000001] .l .l)) .l) .l) (.s .l (.j [1000000000, 1000000001] (.j [0, 1, 2, 6, 1000000000, 1000000001] (.s (.s .l (.j [0, 1, 2, 6, 1000000000, 1000000001] .l .l)) (.j [0, 1, 2, 6, 1000000000, 1000000001] (.s .l (.s (.j [0, 1, 2, 6, 7, 1000000000, 1000000001] (.j [0, 1, 2, 6, 7, 8, 1000000000, 1000000001] (.s (.s .l (.j [0, 1, 2, 6, 7, 8, 1000000000, 1000000001] .l .l)) (.j [0, 1, 2, 6, 7, 8, 1000000000, 1000000001] .l .l)) .l) .l) (.s (.s .l (.s .l (.j [0, 1, 2, 6, 1000000000, 1000000001] .l .l))) .l))) .l)) .l) .l)))))
def pk94c86io101 : List QK := [.oa (.int .i64), .pl (.c (.int .i64)), .of 86 [(.sl (.pair (.int .i64) (.int .i64)))]]
def rk94c86io101 : List RK := []
noncomputable def rt94c86io101 (st : St) : Option R94c86io101 := rtIO rk94c86io101 (pk94c86io101.flatMap QK.ods) st
noncomputable def io94c86io101 (n : Nat × Nat) : List IoE := [⟨95, (isFns [none, none, none, some 86]), pk95c86io1001.map QK.flag, P95c86io1001 n⟩, ⟨96, (isFns [none, none, none, none, some 86]), pk96c86io10001.map QK.flag, P96c86io10001 n⟩]
noncomputable def E94c86io101 (n : Nat × Nat) : Env := { T := tab, phi := noPhi, eff := fun _ => false, fuel := n.1, hold := n.2, phio := phioL (io94c86io101 n), iop := iopL (io94c86io101 n) }
noncomputable def kq94c86io101_1 (n : Nat × Nat) : St → Option R94c86io101 := run (E94c86io101 n) (cB (cB (cB c94c86io101))) (Ann.snd (Ann.snd (Ann.snd an94c86io101))) rt94c86io101 (fun _ _ => none) rt94c86io101
noncomputable def kc94c86io101_2 (n : Nat × Nat) : St → Option R94c86io101 := fun s => normC [0, 1, 2, 6, 7, 1000000000, 1000000001] s (kq94c86io101_1 n)
noncomputable def xb94c86io101_3 (n : Nat × Nat) : Nat → St → Option R94c86io101 := fun j s => bif Nat.beq j 0 then normC [0, 1, 2, 6, 7, 1000000000, 1000000001] s (kq94c86io101_1 n) else (fun _ _ => none) j s
noncomputable def F94c86io101_4 (n : Nat × Nat) : (St → Option R94c86io101) → St → Option R94c86io101 := fun K s => run (E94c86io101 n) (cA (cA (cA (cB (cB c94c86io101))))) (Ann.fst (Ann.fst (Ann.fst (Ann.snd (Ann.snd an94c86io101))))) (fun s => normC [0, 1, 2, 6, 7, 8, 1000000000, 1000000001] s K) (xb94c86io101_3 n) rt94c86io101 s
noncomputable def kq94c86io101_5 (n : Nat × Nat) (m1 : Nat) : St → Option R94c86io101 := run (E94c86io101 n) (cB (cA (cA (cA (cB (cB c94c86io101)))))) (Ann.snd (Ann.fst (Ann.fst (Ann.fst (Ann.snd (Ann.snd an94c86io101)))))) (fun s => normC [0, 1, 2, 6, 7, 8, 1000000000, 1000000001] s (loopN (F94c86io101_4 n) m1)) (xb94c86io101_3 n) rt94c86io101
noncomputable def kc94c86io101_6 (n : Nat × Nat) (m1 : Nat) : St → Option R94c86io101 := fun s => normC [0, 1, 2, 6, 7, 8, 1000000000, 1000000001] s (kq94c86io101_5 n m1)
noncomputable def kc94c86io101_7 (n : Nat × Nat) (m1 : Nat) : St → Option R94c86io101 := fun s => normC [0, 1, 2, 6, 7, 8, 1000000000, 1000000001] s (fun s => normC [0, 1, 2, 6, 7, 8, 1000000000, 1000000001] s (loopN (F94c86io101_4 n) m1))
noncomputable def xb94c86io101_8 (n : Nat × Nat) (m1 : Nat) : Nat → St → Option R94c86io101 := fun j s => bif Nat.beq j 1 then normC [0, 1, 2, 6, 7, 8, 1000000000, 1000000001] s (fun s => normC [0, 1, 2, 6, 7, 8, 1000000000, 1000000001] s (loopN (F94c86io101_4 n) m1)) else (xb94c86io101_3 n) j s
noncomputable def kc94c86io101_9 (n : Nat × Nat) : St → Option R94c86io101 := fun s => normC [1000000000, 1000000001] s rt94c86io101
noncomputable def xb94c86io101_10 (n : Nat × Nat) : Nat → St → Option R94c86io101 := fun j s => bif Nat.beq j 2 then normC [1000000000, 1000000001] s rt94c86io101 else (fun _ _ => none) j s
noncomputable def F94c86io101_11 (n : Nat × Nat) : (St → Option R94c86io101) → St → Option R94c86io101 := fun K s => run (E94c86io101 n) (cA (cA (cB (cB (cB (cB c94c86io101)))))) (Ann.fst (Ann.fst (Ann.snd (Ann.snd (Ann.snd (Ann.snd an94c86io101)))))) (fun s => normC [0, 1, 2, 6, 1000000000, 1000000001] s K) (xb94c86io101_10 n) rt94c86io101 s
noncomputable def kq94c86io101_12 (n : Nat × Nat) (m1 : Nat) : St → Option R94c86io101 := run (E94c86io101 n) (cB (cA (cA (cB (cB (cB (cB c94c86io101))))))) (Ann.snd (Ann.fst (Ann.fst (Ann.snd (Ann.snd (Ann.snd (Ann.snd an94c86io101))))))) (fun s => normC [0, 1, 2, 6, 1000000000, 1000000001] s (loopN (F94c86io101_11 n) m1)) (xb94c86io101_10 n) rt94c86io101
noncomputable def kc94c86io101_13 (n : Nat × Nat) (m1 : Nat) : St → Option R94c86io101 := fun s => normC [0, 1, 2, 6, 1000000000, 1000000001] s (kq94c86io101_12 n m1)
noncomputable def kc94c86io101_14 (n : Nat × Nat) (m1 : Nat) : St → Option R94c86io101 := fun s => normC [0, 1, 2, 6, 1000000000, 1000000001] s (fun s => normC [0, 1, 2, 6, 1000000000, 1000000001] s (loopN (F94c86io101_11 n) m1))
noncomputable def xb94c86io101_15 (n : Nat × Nat) (m1 : Nat) : Nat → St → Option R94c86io101 := fun j s => bif Nat.beq j 3 then normC [0, 1, 2, 6, 1000000000, 1000000001] s (fun s => normC [0, 1, 2, 6, 1000000000, 1000000001] s (loopN (F94c86io101_11 n) m1)) else (xb94c86io101_10 n) j s
noncomputable def kq94c86io101_16 (n : Nat × Nat) (m1 : Nat) : St → Option R94c86io101 := run (E94c86io101 n) (cB (cB (cA (cB (cA (cA (cB (cB (cB (cB c94c86io101)))))))))) (Ann.snd (Ann.snd (Ann.fst (Ann.snd (Ann.fst (Ann.fst (Ann.snd (Ann.snd (Ann.snd (Ann.snd an94c86io101)))))))))) (kc94c86io101_14 n m1) (xb94c86io101_15 n m1) rt94c86io101
noncomputable def kc94c86io101_17 (n : Nat × Nat) (m1 : Nat) : St → Option R94c86io101 := fun s => normC [0, 1, 2, 6, 7, 1000000000, 1000000001] s (kq94c86io101_16 n m1)
noncomputable def xb94c86io101_18 (n : Nat × Nat) (m1 : Nat) : Nat → St → Option R94c86io101 := fun j s => bif Nat.beq j 4 then normC [0, 1, 2, 6, 7, 1000000000, 1000000001] s (kq94c86io101_16 n m1) else (xb94c86io101_15 n m1) j s
noncomputable def F94c86io101_19 (n : Nat × Nat) (m1 : Nat) : (St → Option R94c86io101) → St → Option R94c86io101 := fun K s => run (E94c86io101 n) (cA (cA (cA (cB (cA (cB (cA (cA (cB (cB (cB (cB c94c86io101)))))))))))) (Ann.fst (Ann.fst (Ann.fst (Ann.snd (Ann.fst (Ann.snd (Ann.fst (Ann.fst (Ann.snd (Ann.snd (Ann.snd (Ann.snd an94c86io101)))))))))))) (fun s => normC [0, 1, 2, 6, 7, 8, 1000000000, 1000000001] s K) (xb94c86io101_18 n m1) rt94c86io101 s
noncomputable def kq94c86io101_20 (n : Nat × Nat) (m1 m2 : Nat) : St → Option R94c86io101 := run (E94c86io101 n) (cB (cA (cA (cA (cB (cA (cB (cA (cA (cB (cB (cB (cB c94c86io101))))))))))))) (Ann.snd (Ann.fst (Ann.fst (Ann.fst (Ann.snd (Ann.fst (Ann.snd (Ann.fst (Ann.fst (Ann.snd (Ann.snd (Ann.snd (Ann.snd an94c86io101))))))))))))) (fun s => normC [0, 1, 2, 6, 7, 8, 1000000000, 1000000001] s (loopN (F94c86io101_19 n m1) m2)) (xb94c86io101_18 n m1) rt94c86io101
noncomputable def kc94c86io101_21 (n : Nat × Nat) (m1 m2 : Nat) : St → Option R94c86io101 := fun s => normC [0, 1, 2, 6, 7, 8, 1000000000, 1000000001] s (kq94c86io101_20 n m1 m2)
noncomputable def kc94c86io101_22 (n : Nat × Nat) (m1 m2 : Nat) : St → Option R94c86io101 := fun s => normC [0, 1, 2, 6, 7, 8, 1000000000, 1000000001] s (fun s => normC [0, 1, 2, 6, 7, 8, 1000000000, 1000000001] s (loopN (F94c86io101_19 n m1) m2))
noncomputable def xb94c86io101_23 (n : Nat × Nat) (m1 m2 : Nat) : Nat → St → Option R94c86io101 := fun j s => bif Nat.beq j 5 then normC [0, 1, 2, 6, 7, 8, 1000000000, 1000000001] s (fun s => normC [0, 1, 2, 6, 7, 8, 1000000000, 1000000001] s (loopN (F94c86io101_19 n m1) m2)) else (xb94c86io101_18 n m1) j s
noncomputable def kq94c86io101_24 (n : Nat × Nat) (m1 : Nat) : St → Option R94c86io101 := run (E94c86io101 n) (cB (cB (cB (cA (cB (cA (cA (cB (cB (cB (cB c94c86io101))))))))))) (Ann.snd (Ann.snd (Ann.snd (Ann.fst (Ann.snd (Ann.fst (Ann.fst (Ann.snd (Ann.snd (Ann.snd (Ann.snd an94c86io101))))))))))) (kc94c86io101_14 n m1) (xb94c86io101_15 n m1) rt94c86io101
noncomputable def kc94c86io101_25 (n : Nat × Nat) (m1 : Nat) : St → Option R94c86io101 := fun s => normC [0, 1, 2, 6, 1000000000, 1000000001] s (kq94c86io101_24 n m1)
noncomputable def L94c86io101_1 (n : Nat × Nat) (m : Nat) (v1 : Int) (blockSize6 : Int) (a7 : Int) (b8 : Int) (u0 : List Int) (u1 : List (Int × Int)) : Option R94c86io101 := loopN (F94c86io101_4 n) m { tm := [.own 1000000000 none false, .c (.int .i64 v1), .fn 86 [.ptr 1000000001 0], uu, uu, uu, .c (.int .i64 blockSize6), .c (.int .i64 a7), .c (.int .i64 b8), uu, uu, uu, uu, uu, uu, uu, uu, uu, uu, uu, uu, uu, uu, uu, uu, uu, uu, uu, uu, uu, uu, uu, uu, uu, uu, uu, uu, uu, uu, uu, uu, uu, uu, uu, uu, uu, uu, uu, uu, uu, uu, uu, uu, uu, uu, uu, uu, uu, uu, uu, uu, uu, uu], hp := (upd (upd emp 1000000001 (.box [.sl (.pair (.int .i64) (.int .i64)) u1 false])) 1000000000 (.arr (.int .i64) u0 false)) }
noncomputable def L94c86io101_2 (n : Nat × Nat) (m : Nat) (v1 : Int) (blockSize6 : Int) (u0 : List Int) (u1 : List (Int × Int)) : Option R94c86io101 := loopN (F94c86io101_11 n) m { tm := [.own 1000000000 none false, .c (.int .i64 v1), .fn 86 [.ptr 1000000001 0], uu, uu, uu, .c (.int .i64 blockSize6), uu, uu, uu, uu, uu, uu, uu, uu, uu, uu, uu, uu, uu, uu, uu, uu, uu, uu, uu, uu, uu, uu, uu, uu, uu, uu, uu, uu, uu, uu, uu, uu, uu, uu, uu, uu, uu, uu, uu, uu, uu, uu, uu, uu, uu, uu, uu, uu, uu, uu, uu, uu, uu, uu, uu, uu], hp := (upd (upd emp 1000000001 (.box [.sl (.pair (.int .i64) (.int .i64)) u1 false])) 1000000000 (.arr (.int .i64) u0 false)) }
noncomputable def L94c86io101_3 (n : Nat × Nat) (m1 : Nat) (m : Nat) (v1 : Int) (blockSize6 : Int) (a7 : Int) (b8 : Int) (u0 : List Int) (u1 : List (Int × Int)) : Option R94c86io101 := loopN (F94c86io101_19 n m1) m { tm := [.own 1000000000 none false, .c (.int .i64 v1), .fn 86 [.ptr 1000000001 0], uu, uu, uu, .c (.int .i64 blockSize6), .c (.int .i64 a7), .c (.int .i64 b8), uu, uu, uu, uu, uu, uu, uu, uu, uu, uu, uu, uu, uu, uu, uu, uu, uu, uu, uu, uu, uu, uu, uu, uu, uu, uu, uu, uu, uu, uu, uu, uu, uu, uu, uu, uu, uu, uu, uu, uu, uu, uu, uu, uu, uu, uu, uu, uu, uu, uu, uu, uu, uu, uu], hp := (upd (upd emp 1000000001 (.box [.sl (.pair (.int .i64) (.int .i64)) u1 false])) 1000000000 (.arr (.int .i64) u0 false)) }
theorem L94c86io101_1_eq (n : Nat × Nat) (m1 : Nat) (v1 : Int) (blockSize6 : Int) (a7 : Int) (b8 : Int) (u0 : List Int) (u1 : List (Int × Int)) : L94c86io101_1 n (m1 + 1) v1 blockSize6 a7 b8 u0 u1 =
    (bif decide (b8 ≤ v1) then (S95c86io1001 n u0 a7 b8 u1).bind fun r1' =>
      (bif Nat.beq r1'.2.1.length u0.length then L94c86io101_1 n m1 v1 blockSize6 b8 (wr .i64 (b8 + blockSize6)) r1'.2.1 r1'.2.2.1
      else none)
    else (S95c86io1001 n u0 a7 v1 u1).bind fun r2' =>
      (bif Nat.beq r2'.2.1.length u0.length then L94c86io101_2 n n.1 v1 blockSize6 r2'.2.1 r2'.2.2.1
      else none)) := by kernel_rfl
theorem L94c86io101_2_eq (n : Nat × Nat) (m1 : Nat) (v1 : Int) (blockSize6 : Int) (u0 : List Int) (u1 : List (Int × Int)) : L94c86io101_2 n (m1 + 1) v1 blockSize6 u0 u1 =
    (bif decide (blockSize6 < v1) then L94c86io101_3 n m1 n.1 v1 blockSize6 0 (wr .i64 (2 * blockSize6)) u0 u1
    else some ((), u0, u1, ())) := by kernel_rfl
theorem L94c86io101_3_eq (n : Nat × Nat) (m1 m2 : Nat) (v1 : Int) (blockSize6 : Int) (a7 : Int) (b8 : Int) (u0 : List Int) (u1 : List (Int × Int)) : L94c86io101_3 n m1 (m2 + 1) v1 blockSize6 a7 b8 u0 u1 =
    (bif decide (b8 ≤ v1) then (S96c86io10001 n u0 a7 (wr .i64 (a7 + blockSize6)) b8 u1).bind fun r3' =>
      (bif Nat.beq r3'.2.1.length u0.length then L94c86io101_3 n m1 m2 v1 blockSize6 b8 (wr .i64 (b8 + (wr .i64 (2 * blockSize6)))) r3'.2.1 r3'.2.2.1
      else none)
    else (bif decide (wr .i64 (a7 + blockSize6) < v1) then (S96c86io10001 n u0 a7 (wr .i64 (a7 + blockSize6)) v1 u1).bind fun r4' =>
        (bif Nat.beq r4'.2.1.length u0.length then L94c86io101_2 n m1 v1 (wr .i64 (blockSize6 * 2)) r4'.2.1 r4'.2.2.1
        else none)
      else L94c86io101_2 n m1 v1 (wr .i64 (blockSize6 * 2)) u0 u1)) := by kernel_rfl
noncomputable def S94c86io101 (n : Nat × Nat) (data0 : List Int) (v1 : Int) (cp_2_0 : List (Int × Int)) : Option R94c86io101 := run (E94c86io101 n) c94c86io101 an94c86io101 rt94c86io101 (fun _ _ => none) rt94c86io101 { tm := [.own 1000000000 none false, .c (.int .i64 v1), .fn 86 [.ptr 1000000001 0], uu, uu, uu, uu, uu, uu, uu, uu, uu, uu, uu, uu, uu, uu, uu, uu, uu, uu, uu, uu, uu, uu, uu, uu, uu, uu, uu, uu, uu, uu, uu, uu, uu, uu, uu, uu, uu, uu, uu, uu, uu, uu, uu, uu, uu, uu, uu, uu, uu, uu, uu, uu, uu, uu, uu, uu, uu, uu, uu, uu], hp := (upd (upd emp 1000000001 (.box [.sl (.pair (.int .i64) (.int .i64)) cp_2_0 false])) 1000000000 (.arr (.int .i64) data0 false)) }
theorem S94c86io101_eq (n : Nat × Nat) (data0 : List Int) (v1 : Int) (cp_2_0 : List (Int × Int)) : S94c86io101 n data0 v1 cp_2_0 =
    L94c86io101_1 n n.1 v1 20 0 20 data0 cp_2_0 := by kernel_rfl
theorem S94c86io101_run (n : Nat × Nat) (xs : qksDen pk94c86io101) : S94c86io101 n xs.1 xs.2.1 xs.2.2.1.1 = runG (E94c86io101 n) noScope c94c86io101 an94c86io101 (rtIO rk94c86io101 (pk94c86io101.flatMap QK.ods)) (fun _ _ => none) (rtIO rk94c86io101 (pk94c86io101.flatMap QK.ods)) (st1 pk94c86io101 xs Try.f94.ntmps) := by kernel_rfl
noncomputable def P94c86io101 (n : Nat × Nat) := phioOf pk94c86io101 rk94c86io101 (pk94c86io101.flatMap QK.ods) (fun xs => S94c86io101 n xs.1 xs.2.1 xs.2.2.1.1)
theorem call94 : CallOK Try.prog 94 := callOK_of Try.func94 (by kernel_rfl) (by kernel_rfl)
theorem env94c86io101 (n : Nat × Nat) : EnvOK Try.prog (E94c86io101 n) := envOK (l := io94c86io101 n) noPhi_ok rfl rfl (by kernel_rfl) ⟨FC95c86io1001 n, call95, FC96c86io10001 n, call96, trivial⟩
theorem par94c86io101 (n : Nat × Nat) : EnvPar (E94c86io101 n) := envPar (l := io94c86io101 n) noPhi_par rfl ⟨phioOf_Pario1, parP96c86io10001 n, trivial⟩
theorem FC94c86io101 (n : Nat × Nat) : FCios Try.prog 94 (pk94c86io101.map QK.flag) (P94c86io101 n) := phioOf_FCios fun xs r h vs hv => FCio.of_runG tabOK eqsOK (env94c86io101 n) (par94c86io101 n) mixed (fun _ => noScope_ok) Try.func94 (c := c94c86io101) (an := an94c86io101) (qks := pk94c86io101) (rks := rk94c86io101) (by kernel_rfl) (by kernel_rfl) hv ((S94c86io101_run n xs).symm.trans h)
/- slices.SortStableFunc[[]int,int] -/
abbrev R85c86io11 := (Unit) × (List Int) × (List (Int × Int)) × Unit
noncomputable def c85c86io11 : Code := bodyOf Try.f85
noncomputable def an85c86io11 : Ann := .l
def pk85c86io11 : List QK := [.oa (.int .i64), .of 86 [(.sl (.pair (.int .i64) (.int .i64)))]]
def rk85c86io11 : List RK := []
noncomputable def rt85c86io11 (st : St) : Option R85c86io11 := rtIO rk85c86io11 (pk85c86io11.flatMap QK.ods) st
noncomputable def io85c86io11 (n : Nat × Nat) : List IoE := [⟨94, (isFns [none, none, some 86]), pk94c86io101.map QK.flag, P94c86io101 n⟩]
noncomputable def E85c86io11 (n : Nat × Nat) : Env := { T := tab, phi := noPhi, eff := fun _ => false, fuel := n.1, hold := n.2, phio := phioL (io85c86io11 n), iop := iopL (io85c86io11 n) }
noncomputable def S85c86io11 (n : Nat × Nat) (x0 : List Int) (cp_1_0 : List (Int × Int)) : Option R85c86io11 := run (E85c86io11 n) c85c86io11 an85c86io11 rt85c86io11 (fun _ _ => none) rt85c86io11 { tm := [.own 1000000000 none false, .fn 86 [.ptr 1000000001 0], uu, uu, uu, uu, uu, uu, uu], hp := (upd (upd emp 1000000001 (.box [.sl (.pair (.int .i64) (.int .i64)) cp_1_0 false])) 1000000000 (.arr (.int .i64) x0 false)) }
theorem S85c86io11_eq (n : Nat × Nat) (x0 : List Int) (cp_1_0 : List (Int × Int)) : S85c86io11 n x0 cp_1_0 =
    (S94c86io101 n x0 (x0.length : Int) cp_1_0).bind fun r1' =>
    (bif Nat.beq r1'.2.1.length x0.length then some ((), r1'.2.1, r1'.2.2.1, ())
    else none) := by kernel_rfl
theorem S85c86io11_run (n : Nat × Nat) (xs : qksDen pk85c86io11) : S85c86io11 n xs.1 xs.2.1.1 = runG (E85c86io11 n) noScope c85c86io11 an85c86io11 (rtIO rk85c86io11 (pk85c86io11.flatMap QK.ods)) (fun _ _ => none) (rtIO rk85c86io11 (pk85c86io11.flatMap QK.ods)) (st1 pk85c86io11 xs Try.f85.ntmps) := by kernel_rfl
noncomputable def P85c86io11 (n : Nat × Nat) := phioOf pk85c86io11 rk85c86io11 (pk85c86io11.flatMap QK.ods) (fun xs => S85c86io11 n xs.1 xs.2.1.1)
theorem call85 : CallOK Try.prog 85 := callOK_of Try.func85 (by kernel_rfl) (by kernel_rfl)
theorem env85c86io11 (n : Nat × Nat) : EnvOK Try.prog (E85c86io11 n) := envOK (l := io85c86io11 n) noPhi_ok rfl rfl (by kernel_rfl) ⟨FC94c86io101 n, call94, trivial⟩
theorem par85c86io11 (n : Nat × Nat) : EnvPar (E85c86io11 n) := envPar (l := io85c86io11 n) noPhi_par rfl ⟨phioOf_Pario1, trivial⟩
theorem FC85c86io11 (n : Nat × Nat) : FCios Try.prog 85 (pk85c86io11.map QK.flag) (P85c86io11 n) := phioOf_FCios fun xs r h vs hv => FCio.of_runG tabOK eqsOK (env85c86io11 n) (par85c86io11 n) mixed (fun _ => noScope_ok) Try.func85 (c := c85c86io11) (an := an85c86io11) (qks := pk85c86io11) (rks := rk85c86io11) (by kernel_rfl) (by kernel_rfl) hv ((S85c86io11_run n xs).symm.trans h)
abbrev R87 := Int
noncomputable def c87 : Code := bodyOf Try.f87
noncomputable def an87 : Ann := .l
def pk87 : List PK := [.c (.int .i64), .c (.int .i64), .p (.sl (.pair (.int .i64) (.int .i64)))]
def rk87 : List RK := [.c (.int .i64) 5]
noncomputable def rt87 (st : St) : Option R87 := rtG rk87 st
noncomputable def E87 (n : Nat × Nat) : Env := { T := tab, phi := noPhi, eff := fun _ => false, fuel := n.1, hold := n.2 }
noncomputable def S87 (n : Nat × Nat) (i0 : Int) (j1 : Int) (v2 : List (Int × Int)) : Option R87 := run (E87 n) c87 an87 rt87 (fun _ _ => none) rt87 { tm := [.c (.int .i64 i0), .c (.int .i64 j1), .iptr [.sl (.pair (.int .i64) (.int .i64)) v2 false], uu, uu, uu, uu, uu, uu, uu, uu, uu, uu, uu, uu, uu, uu], hp := emp }
theorem S87_eq (n : Nat × Nat) (i0 : Int) (j1 : Int) (v2 : List (Int × Int)) : S87 n i0 j1 v2 =
    (idx v2 j1).bind fun x1' =>
    (idx v2 i0).bind fun x2' =>
    some (wr .i64 (x1'.2 - x2'.2)) := by kernel_rfl
theorem S87_run (n : Nat × Nat) (xs : pksDen pk87) : S87 n xs.1 xs.2.1 xs.2.2.1 = runG (E87 n) noScope c87 an87 (rtG rk87) (fun _ _ => none) (rtG rk87) (st0 pk87 xs Try.f87.ntmps) := by kernel_rfl
noncomputable def P87 (n : Nat × Nat) := phiOf pk87 rk87 (fun xs => S87 n xs.1 xs.2.1 xs.2.2.1)
theorem call87 : CallOK Try.prog 87 := callOK_of Try.func87 (by kernel_rfl) (by kernel_rfl)
theorem env87 (n : Nat × Nat) : EnvOK Try.prog (E87 n) := envOK0 noPhi_ok rfl rfl
theorem par87 (n : Nat × Nat) : EnvPar (E87 n) := envPar0 noPhi_par rfl
theorem FC87 (n : Nat × Nat) : FCs Try.prog 87 (P87 n) := phiOf_FCs fun xs r h vs hv => FC.of_runG tabOK eqsOK (env87 n) (par87 n) mixed (fun _ => noScope_ok) Try.func87 (c := c87) (an := an87) (pks := pk87) (rks := rk87) (by kernel_rfl) (by kernel_rfl) hv ((S87_run n xs).symm.trans h)
/- slices.insertionSortCmpFunc[int] -/
abbrev R95c87io1001 := (Unit) × (List Int) × (List (Int × Int)) × Unit
noncomputable def c95c87io1001 : Code := bodyOf Try.f95
noncomputable def an95c87io1001 : Ann := (.s .l (.j [1000000000, 1000000001] (.j [0, 1, 2, 3, 8, 22, 23, 24, 25, 26, 27, 28, 29, 30, 31, 32, 33, 1000000000, 1000000001] (.s (.s .l (.j [0, 1, 2, 3, 8, 22, 23, 24, 25, 26, 27, 28, 29, 30, 31, 32, 33, 1000000000, 1000000001] .l .l)) (.s (.j [0, 1, 2, 3, 8, 22, 23, 24, 25, 26, 27, 28, 29, 30, 31, 32, 33, 1000000000, 1000000001] (.s .l (.j [0, 1, 2, 3, 8, 22, 23, 24, 25, 26, 27, 28, 29, 30, 31, 32, 33, 1000000000, 1000000001] (.j [0, 1, 2, 3, 8, 9, 22, 23, 24, 25, 26, 27, 28, 29, 30, 31, 32, 33, 1000000000, 1000000001] (.s (.s .l (.j [0, 1, 2, 3, 8, 9, 22, 23, 24, 25, 26, 27, 28, 29, 30, 31, 32, 33, 1000000000, 1000000001] .l .l)) (.s (.j [0, 1, 2, 3, 8, 9, 22, 23, 24, 25, 26, 27, 28, 29, 30, 31, 32, 33, 1000000000, 1000000001] .l .l) .l)) .l) .l)) .l) .l)) .l) .l))
def pk95c87io1001 : List QK := [.oa (.int .i64), .pl (.c (.int .i64)), .pl (.c (.int .i64)), .of 87 [(.sl (.pair (.int .i64) (.int .i64)))]]
def rk95c87io1001 : List RK := []
noncomputable def rt95c87io1001 (st : St) : Option R95c87io1001 := rtIO rk95c87io1001 (pk95c87io1001.flatMap QK.ods) st
noncomputable def E95c87io1001 (n : Nat × Nat) : Env := { T := tab, phi := (consPhi 87 (fun _ => true) (P87 n) noPhi), eff := fun _ => false, fuel := n.1, hold := n.2, pcl := [22] }
noncomputable def kc95c87io1001_1 (n : Nat × Nat) : St → Option R95c87io1001 := fun s => normC [1000000000, 1000000001] s rt95c87io1001
noncomputable def xb95c87io1001_2 (n : Nat × Nat) : Nat → St → Option R95c87io1001 := fun j s => bif Nat.beq j 0 then normC [1000000000, 1000000001] s rt95c87io1001 else (fun _ _ => none) j s
noncomputable def F95c87io1001_3 (n : Nat × Nat) : (St → Option R95c87io1001) → St → Option R95c87io1001 := fun K s => run (E95c87io1001 n) (cA (cA (cB c95c87io1001))) (Ann.fst (Ann.fst (Ann.snd an95c87io1001))) (fun s => normC [0, 1, 2, 3, 8, 22, 23, 24, 25, 26, 27, 28, 29, 30, 31, 32, 33, 1000000000, 1000000001] s K) (xb95c87io1001_2 n) rt95c87io1001 s
noncomputable def kq95c87io1001_4 (n : Nat × Nat) (m1 : Nat) : St → Option R95c87io1001 := run (E95c87io1001 n) (cB (cA (cA (cB c95c87io1001)))) (Ann.snd (Ann.fst (Ann.fst (Ann.snd an95c87io1001)))) (fun s => normC [0, 1, 2, 3, 8, 22, 23, 24, 25, 26, 27, 28, 29, 30, 31, 32, 33, 1000000000, 1000000001] s (loopN (F95c87io1001_3 n) m1)) (xb95c87io1001_2 n) rt95c87io1001
noncomputable def kc95c87io1001_5 (n : Nat × Nat) (m1 : Nat) : St → Option R95c87io1001 := fun s => normC [0, 1, 2, 3, 8, 22, 23, 24, 25, 26, 27, 28, 29, 30, 31, 32, 33, 1000000000, 1000000001] s (kq95c87io1001_4 n m1)
noncomputable def kq95c87io1001_6 (n : Nat × Nat) (m1 : Nat) : St → Option R95c87io1001 := run (E95c87io1001 n) (cB (cB (cA (cA (cB c95c87io1001))))) (Ann.snd (Ann.snd (Ann.fst (Ann.fst (Ann.snd an95c87io1001))))) (fun s => normC [0, 1, 2, 3, 8, 22, 23, 24, 25, 26, 27, 28, 29, 30, 31, 32, 33, 1000000000, 1000000001] s (loopN (F95c87io1001_3 n) m1)) (xb95c87io1001_2 n) rt95c87io1001
noncomputable def kc95c87io1001_7 (n : Nat × Nat) (m1 : Nat) : St → Option R95c87io1001 := fun s => normC [0, 1, 2, 3, 8, 22, 23, 24, 25, 26, 27, 28, 29, 30, 31, 32, 33, 1000000000, 1000000001] s (kq95c87io1001_6 n m1)
noncomputable def xb95c87io1001_8 (n : Nat × Nat) (m1 : Nat) : Nat → St → Option R95c87io1001 := fun j s => bif Nat.beq j 1 then normC [0, 1, 2, 3, 8, 22, 23, 24, 25, 26, 27, 28, 29, 30, 31, 32, 33, 1000000000, 1000000001] s (kq95c87io1001_6 n m1) else (xb95c87io1001_2 n) j s
noncomputable def kc95c87io1001_9 (n : Nat × Nat) (m1 : Nat) : St → Option R95c87io1001 := fun s => normC [0, 1, 2, 3, 8, 22, 23, 24, 25, 26, 27, 28, 29, 30, 31, 32, 33, 1000000000, 1000000001] s (kc95c87io1001_7 n m1)
noncomputable def xb95c87io1001_10 (n : Nat × Nat) (m1 : Nat) : Nat → St → Option R95c87io1001 := fun j s => bif Nat.beq j 2 then normC [0, 1, 2, 3, 8, 22, 23, 24, 25, 26, 27, 28, 29, 30, 31, 32, 33, 1000000000, 1000000001] s (kc95c87io1001_7 n m1) else (xb95c87io1001_8 n m1) j s
noncomputable def F95c87io1001_11 (n : Nat × Nat) (m1 : Nat) : (St → Option R95c87io1001) → St → Option R95c87io1001 := fun K s => run (E95c87io1001 n) (cA (cA (cB (cA (cA (cB (cA (cA (cB c95c87io1001))))))))) (Ann.fst (Ann.fst (Ann.snd (Ann.fst (Ann.fst (Ann.snd (Ann.fst (Ann.fst (Ann.snd an95c87io1001))))))))) (fun s => normC [0, 1, 2, 3, 8, 9, 22, 23, 24, 25, 26, 27, 28, 29, 30, 31, 32, 33, 1000000000, 1000000001] s K) (xb95c87io1001_10 n m1) rt95c87io1001 s
noncomputable def kq95c87io1001_12 (n : Nat × Nat) (m1 m2 : Nat) : St → Option R95c87io1001 := run (E95c87io1001 n) (cB (cA (cA (cB (cA (cA (cB (cA (cA (cB c95c87io1001)))))))))) (Ann.snd (Ann.fst (Ann.fst (Ann.snd (Ann.fst (Ann.fst (Ann.snd (Ann.fst (Ann.fst (Ann.snd an95c87io1001)))))))))) (fun s => normC [0, 1, 2, 3, 8, 9, 22, 23, 24, 25, 26, 27, 28, 29, 30, 31, 32, 33, 1000000000, 1000000001] s (loopN (F95c87io1001_11 n m1) m2)) (xb95c87io1001_10 n m1) rt95c87io1001
noncomputable def kc95c87io1001_13 (n : Nat × Nat) (m1 m2 : Nat) : St → Option R95c87io1001 := fun s => normC [0, 1, 2, 3, 8, 9, 22, 23, 24, 25, 26, 27, 28, 29, 30, 31, 32, 33, 1000000000, 1000000001] s (kq95c87io1001_12 n m1 m2)
noncomputable def kq95c87io1001_14 (n : Nat × Nat) (m1 m2 : Nat) : St → Option R95c87io1001 := run (E95c87io1001 n) (cB (cB (cA (cA (cB (cA (cA (cB (cA (cA (cB c95c87io1001))))))))))) (Ann.snd (Ann.snd (Ann.fst (Ann.fst (Ann.snd (Ann.fst (Ann.fst (Ann.snd (Ann.fst (Ann.fst (Ann.snd an95c87io1001))))))))))) (fun s => normC [0, 1, 2, 3, 8, 9, 22, 23, 24, 25, 26, 27, 28, 29, 30, 31, 32, 33, 1000000000, 1000000001] s (loopN (F95c87io1001_11 n m1) m2)) (xb95c87io1001_10 n m1) rt95c87io1001
noncomputable def kc95c87io1001_15 (n : Nat × Nat) (m1 m2 : Nat) : St → Option R95c87io1001 := fun s => normC [0, 1, 2, 3, 8, 9, 22, 23, 24, 25, 26, 27, 28, 29, 30, 31, 32, 33, 1000000000, 1000000001] s (kq95c87io1001_14 n m1 m2)
noncomputable def xb95c87io1001_16 (n : Nat × Nat) (m1 m2 : Nat) : Nat → St → Option R95c87io1001 := fun j s => bif Nat.beq j 3 then normC [0, 1, 2, 3, 8, 9, 22, 23, 24, 25, 26, 27, 28, 29, 30, 31, 32, 33, 1000000000, 1000000001] s (kq95c87io1001_14 n m1 m2) else (xb95c87io1001_10 n m1) j s
noncomputable def L95c87io1001_1 (n : Nat × Nat) (m : Nat) (a1 : Int) (b2 : Int) (i8 : Int) (u0 : List Int) (u1 : List (Int × Int)) : Option R95c87io1001 := loopN (F95c87io1001_3 n) m { tm := [.own 1000000000 none false, .c (.int .i64 a1), .c (.int .i64 b2), .fn 87 [.ptr 1000000001 0], uu, uu, uu, uu, .c (.int .i64 i8), uu, uu, uu, uu, uu, uu, uu, uu, uu, uu, uu, uu, uu, uu, uu, uu, uu, uu, uu, uu, uu, uu, uu, uu, uu, uu, uu, uu, uu, uu, uu, uu, uu, uu, uu, uu, uu, uu, uu, uu, uu, uu, uu, uu], hp := (upd (upd emp 1000000001 (.box [.sl (.pair (.int .i64) (.int .i64)) u1 false])) 1000000000 (.arr (.int .i64) u0 false)) }
noncomputable def L95c87io1001_2 (n : Nat × Nat) (m1 : Nat) (m : Nat) (a1 : Int) (b2 : Int) (i8 : Int) (j9 : Int) (u0 : List Int) (u1 : List (Int × Int)) : Option R95c87io1001 := loopN (F95c87io1001_11 n m1) m { tm := [.own 1000000000 none false, .c (.int .i64 a1), .c (.int .i64 b2), .fn 87 [.ptr 1000000001 0], uu, uu, uu, uu, .c (.int .i64 i8), .c (.int .i64 j9), uu, uu, uu, uu, uu, uu, uu, uu, uu, uu, uu, uu, uu, uu, uu, uu, uu, uu, uu, uu, uu, uu, uu, uu, uu, uu, uu, uu, uu, uu, uu, uu, uu, uu, uu, uu, uu, uu, uu, uu, uu, uu, uu], hp := (upd (upd emp 1000000001 (.box [.sl (.pair (.int .i64) (.int .i64)) u1 false])) 1000000000 (.arr (.int .i64) u0 false)) }
theorem L95c87io1001_1_eq (n : Nat × Nat) (m1 : Nat) (a1 : Int) (b2 : Int) (i8 : Int) (u0 : List Int) (u1 : List (Int × Int)) : L95c87io1001_1 n (m1 + 1) a1 b2 i8 u0 u1 =
    (bif decide (i8 < b2) then L95c87io1001_2 n m1 n.1 a1 b2 i8 i8 u0 u1
    else some ((), u0, u1, ())) := by kernel_rfl
theorem L95c87io1001_2_eq (n : Nat × Nat) (m1 m2 : Nat) (a1 : Int) (b2 : Int) (i8 : Int) (j9 : Int) (u0 : List Int) (u1 : List (Int × Int)) : L95c87io1001_2 n m1 (m2 + 1) a1 b2 i8 j9 u0 u1 =
    ((bif (decide (j9 > a1) == true) then (bif inB j9 u0.length then (idx u0 j9).bind fun x1' =>
          (bif inB (wr .i64 (j9 - 1)) u0.length then (idx u0 (wr .i64 (j9 - 1))).bind fun x2' =>
            (S87 n x1' x2' u1).bind fun r3' =>
            some (decide (r3' < 0))
          else none)
        else none)
      else some false)).bind fun b4' =>
    (bif b4' then (bif inB (wr .i64 (j9 - 1)) u0.length then (idx u0 (wr .i64 (j9 - 1))).bind fun x5' =>
        (bif inB j9 u0.length then (idx u0 j9).bind fun x6' =>
          (bif inB j9 u0.length then (idx u0 j9).bind fun x7' =>
            (bif inB (wr .i64 (j9 - 1)) (u0.set (Int.toNat j9) x5').length then (idx (u0.set (Int.toNat j9) x5') (wr .i64 (j9 - 1))).bind fun x8' =>
              L95c87io1001_2 n m1 m2 a1 b2 i8 (wr .i64 (j9 - 1)) ((u0.set (Int.toNat j9) x5').set (Int.toNat (wr .i64 (j9 - 1))) x6') u1
            else none)
          else none)
        else none)
      else none)
    else L95c87io1001_1 n m1 a1 b2 (wr .i64 (i8 + 1)) u0 u1) := by kernel_rfl
noncomputable def S95c87io1001 (n : Nat × Nat) (data0 : List Int) (a1 : Int) (b2 : Int) (cp_3_0 : List (Int × Int)) : Option R95c87io1001 := run (E95c87io1001 n) c95c87io1001 an95c87io1001 rt95c87io1001 (fun _ _ => none) rt95c87io1001 { tm := [.own 1000000000 none false, .c (.int .i64 a1), .c (.int .i64 b2), .fn 87 [.ptr 1000000001 0], uu, uu, uu, uu, uu, uu, uu, uu, uu, uu, uu, uu, uu, uu, uu, uu, uu, uu, uu, uu, uu, uu, uu, uu, uu, uu, uu, uu, uu, uu, uu, uu, uu, uu, uu, uu, uu, uu, uu, uu, uu, uu, uu, uu, uu, uu, uu, uu, uu], hp := (upd (upd emp 1000000001 (.box [.sl (.pair (.int .i64) (.int .i64)) cp_3_0 false])) 1000000000 (.arr (.int .i64) data0 false)) }
theorem S95c87io1001_eq (n : Nat × Nat) (data0 : List Int) (a1 : Int) (b2 : Int) (cp_3_0 : List (Int × Int)) : S95c87io1001 n data0 a1 b2 cp_3_0 =
    L95c87io1001_1 n n.1 a1 b2 (wr .i64 (a1 + 1)) data0 cp_3_0 := by kernel_rfl
theorem S95c87io1001_run (n : Nat × Nat) (xs : qksDen pk95c87io1001) : S95c87io1001 n xs.1 xs.2.1 xs.2.2.1 xs.2.2.2.1.1 = runG (E95c87io1001 n) noScope c95c87io1001 an95c87io1001 (rtIO rk95c87io1001 (pk95c87io1001.flatMap QK.ods)) (fun _ _ => none) (rtIO rk95c87io1001 (pk95c87io1001.flatMap QK.ods)) (st1 pk95c87io1001 xs Try.f95.ntmps) := by kernel_rfl
noncomputable def P95c87io1001 (n : Nat × Nat) := phioOf pk95c87io1001 rk95c87io1001 (pk95c87io1001.flatMap QK.ods) (fun xs => S95c87io1001 n xs.1 xs.2.1 xs.2.2.1 xs.2.2.2.1.1)
theorem env95c87io1001 (n : Nat × Nat) : EnvOK Try.prog (E95c87io1001 n) := envOK0 (consPhi_ok (FC87 n) call87 noPhi_ok) rfl rfl
theorem par95c87io1001 (n : Nat × Nat) : EnvPar (E95c87io1001 n) := envPar0 (consPhi_par phiOf_Par1 noPhi_par) rfl
theorem FC95c87io1001 (n : Nat × Nat) : FCios Try.prog 95 (pk95c87io1001.map QK.flag) (P95c87io1001 n) := phioOf_FCios fun xs r h vs hv => FCio.of_runG tabOK eqsOK (env95c87io1001 n) (par95c87io1001 n) mixed (fun _ => noScope_ok) Try.func95 (c := c95c87io1001) (an := an95c87io1001) (qks := pk95c87io1001) (rks := rk95c87io1001) (by kernel_rfl) (by kernel_rfl) hv ((S95c87io1001_run n xs).symm.trans h)
abbrev R96c87io10001 := (Unit) × (List Int) × (List (Int × Int)) × Unit
def pk96c87io10001 : List QK := [.oa (.int .i64), .pl (.c (.int .i64)), .pl (.c (.int .i64)), .pl (.c (.int .i64)), .of 87 [(.sl (.pair (.int .i64) (.int .i64)))]]
def rk96c87io10001 : List RK := []
noncomputable def S96c87io10001 (n : Nat × Nat) (data0 : List Int) (a1 : Int) (m2 : Int) (b3 : Int) (cp_4_0 : List (Int × Int)) : Option R96c87io10001 := none
noncomputable def P96c87io10001 (n : Nat × Nat) := phioOf pk96c87io10001 rk96c87io10001 (pk96c87io10001.flatMap QK.ods) (fun xs => S96c87io10001 n xs.1 xs.2.1 xs.2.2.1 xs.2.2.2.1 xs.2.2.2.2.1.1)
theorem FC96c87io10001 (n : Nat × Nat) : FCios Try.prog 96 (pk96c87io10001.map QK.flag) (P96c87io10001 n) := phioOf_FCios fun xs r h => by cases h
theorem parP96c87io10001 (n : Nat × Nat) : Pario1 (P96c87io10001 n) := by unfold P96c87io10001; exact phioOf_Pario1
/- slices.stableCmpFunc[int] -/
abbrev R94c87io101 := (Unit) × (List Int) × (List (Int × Int)) × Unit
noncomputable def c94c87io101 : Code := bodyOf Try.f94
noncomputable def an94c87io101 : Ann := (.s .l (.s .l (.s (.j [0, 1, 2, 6, 7, 1000000000, 1000000001] (.j [0, 1, 2, 6, 7, 8, 1000000000, 1000000001] (.s (.s .l (.j [0, 1, 2, 6, 7, 8, 1000000000, 1000000001] .l .l)) (.j [0, 1, 2, 6, 7, 8, 1000000000, 1000000001] .l .l)) .l) .l) (.s .l (.j [1000000000, 1000000001] (.j [0, 1, 2, 6, 1000000000, 1000000001] (.s (.s .l (.j [0, 1, 2, 6, 1000000000, 1000000001] .l .l)) (.j [0, 1, 2, 6, 1000000000, 1000000001] (.s .l (.s (.j [0, 1, 2, 6, 7, 1000000000, 1000000001] (.j [0, 1, 2, 6, 7, 8, 1000000000, 1000000001] (.s (.s .l (.j [0, 1, 2, 6, 7, 8, 1000000000, 1000000001] .l .l)) (.j [0, 1, 2, 6, 7, 8, 1000000000, 1000000001] .l .l)) .l) .l) (.s (.s .l (.s .l (.j [0, 1, 2, 6, 1000000000, 1000000001] .l .l))) .l))) .l)) .l) .l)))))
def pk94c87io101 : List QK := [.oa (.int .i64), .pl (.c (.int .i64)), .of 87 [(.sl (.pair (.int .i64) (.int .i64)))]]
def rk94c87io101 : List RK := []
noncomputable def rt94c87io101 (st : St) : Option R94c87io101 := rtIO rk94c87io101 (pk94c87io101.flatMap QK.ods) st
noncomputable def io94c87io101 (n : Nat × Nat) : List IoE := [⟨95, (isFns [none, none, none, some 87]), pk95c87io1001.map QK.flag, P95c87io1001 n⟩, ⟨96, (isFns [none, none, none, none, some 87]), pk96c87io10001.map QK.flag, P96c87io10001 n⟩]
noncomputable def E94c87io101 (n : Nat × Nat) : Env := { T := tab, phi := noPhi, eff := fun _ => false, fuel := n.1, hold := n.2, phio := phioL (io94c87io101 n), iop := iopL (io94c87io101 n) }
noncomputable def kq94c87io101_1 (n : Nat × Nat) : St → Option R94c87io101 := run (E94c87io101 n) (cB (cB (cB c94c87io101))) (Ann.snd (Ann.snd (Ann.snd an94c87io101))) rt94c87io101 (fun _ _ => none) rt94c87io101
noncomputable def kc94c87io101_2 (n : Nat × Nat) : St → Option R94c87io101 := fun s => normC [0, 1, 2, 6, 7, 1000000000, 1000000001] s (kq94c87io101_1 n)
noncomputable def xb94c87io101_3 (n : Nat × Nat) : Nat → St → Option R94c87io101 := fun j s => bif Nat.beq j 0 then normC [0, 1, 2, 6, 7, 1000000000, 1000000001] s (kq94c87io101_1 n) else (fun _ _ => none) j s
noncomputable def F94c87io101_4 (n : Nat × Nat) : (St → Option R94c87io101) → St → Option R94c87io101 := fun K s => run (E94c87io101 n) (cA (cA (cA (cB (cB c94c87io101))))) (Ann.fst (Ann.fst (Ann.fst (Ann.snd (Ann.snd an94c87io101))))) (fun s => normC [0, 1, 2, 6, 7, 8, 1000000000, 1000000001] s K) (xb94c87io101_3 n) rt94c87io101 s
noncomputable def kq94c87io101_5 (n : Nat × Nat) (m1 : Nat) : St → Option R94c87io101 := run (E94c87io101 n) (cB (cA (cA (cA (cB (cB c94c87io101)))))) (Ann.snd (Ann.fst (Ann.fst (Ann.fst (Ann.snd (Ann.snd an94c87io101)))))) (fun s => normC [0, 1, 2, 6, 7, 8, 1000000000, 1000000001] s (loopN (F94c87io101_4 n) m1)) (xb94c87io101_3 n) rt94c87io101
noncomputable def kc94c87io101_6 (n : Nat × Nat) (m1 : Nat) : St → Option R94c87io101 := fun s => normC [0, 1, 2, 6, 7, 8, 1000000000, 1000000001] s (kq94c87io101_5 n m1)
noncomputable def kc94c87io101_7 (n : Nat × Nat) (m1 : Nat) : St → Option R94c87io101 := fun s => normC [0, 1, 2, 6, 7, 8, 1000000000, 1000000001] s (fun s => normC [0, 1, 2, 6, 7, 8, 1000000000, 1000000001] s (loopN (F94c87io101_4 n) m1))
noncomputable def xb94c87io101_8 (n : Nat × Nat) (m1 : Nat) : Nat → St → Option R94c87io101 := fun j s => bif Nat.beq j 1 then normC [0, 1, 2, 6, 7, 8, 1000000000, 1000000001] s (fun s => normC [0, 1, 2, 6, 7, 8, 1000000000, 1000000001] s (loopN (F94c87io101_4 n) m1)) else (xb94c87io101_3 n) j s
noncomputable def kc94c87io101_9 (n : Nat × Nat) : St → Option R94c87io101 := fun s => normC [1000000000, 1000000001] s rt94c87io101
noncomputable def xb94c87io101_10 (n : Nat × Nat) : Nat → St → Option R94c87io101 := fun j s => bif Nat.beq j 2 then normC [1000000000, 1000000001] s rt94c87io101 else (fun _ _ => none) j s
noncomputable def F94c87io101_11 (n : Nat × Nat) : (St → Option R94c87io101) → St → Option R94c87io101 := fun K s => run (E94c87io101 n) (cA (cA (cB (cB (cB (cB c94c87io101)))))) (Ann.fst (Ann.fst (Ann.snd (Ann.snd (Ann.snd (Ann.snd an94c87io101)))))) (fun s => normC [0, 1, 2, 6, 1000000000, 1000000001] s K) (xb94c87io101_10 n) rt94c87io101 s
noncomputable def kq94c87io101_12 (n : Nat × Nat) (m1 : Nat) : St → Option R94c87io101 := run (E94c87io101 n) (cB (cA (cA (cB (cB (cB (cB c94c87io101))))))) (Ann.snd (Ann.fst (Ann.fst (Ann.snd (Ann.snd (Ann.snd (Ann.snd an94c87io101))))))) (fun s => normC [0, 1, 2, 6, 1000000000, 1000000001] s (loopN (F94c87io101_11 n) m1)) (xb94c87io101_10 n) rt94c87io101
noncomputable def kc94c87io101_13 (n : Nat × Nat) (m1 : Nat) : St → Option R94c87io101 := fun s => normC [0, 1, 2, 6, 1000000000, 1000000001] s (kq94c87io101_12 n m1)
noncomputable def kc94c87io101_14 (n : Nat × Nat) (m1 : Nat) : St → Option R94c87io101 := fun s => normC [0, 1, 2, 6, 1000000000, 1000000001] s (fun s => normC [0, 1, 2, 6, 1000000000, 1000000001] s (loopN (F94c87io101_11 n) m1))
noncomputable def xb94c87io101_15 (n : Nat × Nat) (m1 : Nat) : Nat → St → Option R94c87io101 := fun j s => bif Nat.beq j 3 then normC [0, 1, 2, 6, 1000000000, 1000000001] s (fun s => normC [0, 1, 2, 6, 1000000000, 1000000001] s (loopN (F94c87io101_11 n) m1)) else (xb94c87io101_10 n) j s
noncomputable def kq94c87io101_16 (n : Nat × Nat) (m1 : Nat) : St → Option R94c87io101 := run (E94c87io101 n) (cB (cB (cA (cB (cA (cA (cB (cB (cB (cB c94c87io101)))))))))) (Ann.snd (Ann.snd (Ann.fst (Ann.snd (Ann.fst (Ann.fst (Ann.snd (Ann.snd (Ann.snd (Ann.snd an94c87io101)))))))))) (kc94c87io101_14 n m1) (xb94c87io101_15 n m1) rt94c87io101
noncomputable def kc94c87io101_17 (n : Nat × Nat) (m1 : Nat) : St → Option R94c87io101 := fun s => normC [0, 1, 2, 6, 7, 1000000000, 1000000001] s (kq94c87io101_16 n m1)
noncomputable def xb94c87io101_18 (n : Nat × Nat) (m1 : Nat) : Nat → St → Option R94c87io101 := fun j s => bif Nat.beq j 4 then normC [0, 1, 2, 6, 7, 1000000000, 1000000001] s (kq94c87io101_16 n m1) else (xb94c87io101_15 n m1) j s
noncomputable def F94c87io101_19 (n : Nat × Nat) (m1 : Nat) : (St → Option R94c87io101) → St → Option R94c87io101 := fun K s => run (E94c87io101 n) (cA (cA (cA (cB (cA (cB (cA (cA (cB (cB (cB (cB c94c87io101)))))))))))) (Ann.fst (Ann.fst (Ann.fst (Ann.snd (Ann.fst (Ann.snd (Ann.fst (Ann.fst (Ann.snd (Ann.snd (Ann.snd (Ann.snd an94c87io101)))))))))))) (fun s => normC [0, 1, 2, 6, 7, 8, 1000000000, 1000000001] s K) (xb94c87io101_18 n m1) rt94c87io101 s
noncomputable def kq94c87io101_20 (n : Nat × Nat) (m1 m2 : Nat) : St → Option R94c87io101 := run (E94c87io101 n) (cB (cA (cA (cA (cB (cA (cB (cA (cA (cB (cB (cB (cB c94c87io101))))))))))))) (Ann.snd (Ann.fst (Ann.fst (Ann.fst (Ann.snd (Ann.fst (Ann.snd (Ann.fst (Ann.fst (Ann.snd (Ann.snd (Ann.snd (Ann.snd an94c87io101))))))))))))) (fun s => normC [0, 1, 2, 6, 7, 8, 1000000000, 1000000001] s (loopN (F94c87io101_19 n m1) m2)) (xb94c87io101_18 n m1) rt94c87io101
noncomputable def kc94c87io101_21 (n : Nat × Nat) (m1 m2 : Nat) : St → Option R94c87io101 := fun s => normC [0, 1, 2, 6, 7, 8, 1000000000, 1000000001] s (kq94c87io101_20 n m1 m2)
noncomputable def kc94c87io101_22 (n : Nat × Nat) (m1 m2 : Nat) : St → Option R94c87io101 := fun s => normC [0, 1, 2, 6, 7, 8, 1000000000, 1000000001] s (fun s => normC [0, 1, 2, 6, 7, 8, 1000000000, 1000000001] s (loopN (F94c87io101_19 n m1) m2))
noncomputable def xb94c87io101_23 (n : Nat × Nat) (m1 m2 : Nat) : Nat → St → Option R94c87io101 := fun j s => bif Nat.beq j 5 then normC [0, 1, 2, 6, 7, 8, 1000000000, 1000000001] s (fun s => normC [0, 1, 2, 6, 7, 8, 1000000000, 1000000001] s (loopN (F94c87io101_19 n m1) m2)) else (xb94c87io101_18 n m1) j s
noncomputable def kq94c87io101_24 (n : Nat × Nat) (m1 : Nat) : St → Option R94c87io101 := run (E94c87io101 n) (cB (cB (cB (cA (cB (cA (cA (cB (cB (cB (cB c94c87io101))))))))))) (Ann.snd (Ann.snd (Ann.snd (Ann.fst (Ann.snd (Ann.fst (Ann.fst (Ann.snd (Ann.snd (Ann.snd (Ann.snd an94c87io101))))))))))) (kc94c87io101_14 n m1) (xb94c87io101_15 n m1) rt94c87io101
noncomputable def kc94c87io101_25 (n : Nat × Nat) (m1 : Nat) : St → Option R94c87io101 := fun s => normC [0, 1, 2, 6, 1000000000, 1000000001] s (kq94c87io101_24 n m1)
noncomputable def L94c87io101_1 (n : Nat × Nat) (m : Nat) (v1 : Int) (blockSize6 : Int) (a7 : Int) (b8 : Int) (u0 : List Int) (u1 : List (Int × Int)) : Option R94c87io101 := loopN (F94c87io101_4 n) m { tm := [.own 1000000000 none false, .c (.int .i64 v1), .fn 87 [.ptr 1000000001 0], uu, uu, uu, .c (.int .i64 blockSize6), .c (.int .i64 a7), .c (.int .i64 b8), uu, uu, uu, uu, uu, uu, uu, uu, uu, uu, uu, uu, uu, uu, uu, uu, uu, uu, uu, uu, uu, uu, uu, uu, uu, uu, uu, uu, uu, uu, uu, uu, uu, uu, uu, uu, uu, uu, uu, uu, uu, uu, uu, uu, uu, uu, uu, uu, uu, uu, uu, uu, uu, uu], hp := (upd (upd emp 1000000001 (.box [.sl (.pair (.int .i64) (.int .i64)) u1 false])) 1000000000 (.arr (.int .i64) u0 false)) }
noncomputable def L94c87io101_2 (n : Nat × Nat) (m : Nat) (v1 : Int) (blockSize6 : Int) (u0 : List Int) (u1 : List (Int × Int)) : Option R94c87io101 := loopN (F94c87io101_11 n) m { tm := [.own 1000000000 none false, .c (.int .i64 v1), .fn 87 [.ptr 1000000001 0], uu, uu, uu, .c (.int .i64 blockSize6), uu, uu, uu, uu, uu, uu, uu, uu, uu, uu, uu, uu, uu, uu, uu, uu, uu, uu, uu, uu, uu, uu, uu, uu, uu, uu, uu, uu, uu, uu, uu, uu, uu, uu, uu, uu, uu, uu, uu, uu, uu, uu, uu, uu, uu, uu, uu, uu, uu, uu, uu, uu, uu, uu, uu, uu], hp := (upd (upd emp 1000000001 (.box [.sl (.pair (.int .i64) (.int .i64)) u1 false])) 1000000000 (.arr (.int .i64) u0 false)) }
noncomputable def L94c87io101_3 (n : Nat × Nat) (m1 : Nat) (m : Nat) (v1 : Int) (blockSize6 : Int) (a7 : Int) (b8 : Int) (u0 : List Int) (u1 : List (Int × Int)) : Option R94c87io101 := loopN (F94c87io101_19 n m1) m { tm := [.own 1000000000 none false, .c (.int .i64 v1), .fn 87 [.ptr 1000000001 0], uu, uu, uu, .c (.int .i64 blockSize6), .c (.int .i64 a7), .c (.int .i64 b8), uu, uu, uu, uu, uu, uu, uu, uu, uu, uu, uu, uu, uu, uu, uu, uu, uu, uu, uu, uu, uu, uu, uu, uu, uu, uu, uu, uu, uu, uu, uu, uu, uu, uu, uu, uu, uu, uu, uu, uu, uu, uu, uu, uu, uu, uu, uu, uu, uu, uu, uu, uu, uu, uu], hp := (upd (upd emp 1000000001 (.box [.sl (.pair (.int .i64) (.int .i64)) u1 false])) 1000000000 (.arr (.int .i64) u0 false)) }
theorem L94c87io101_1_eq (n : Nat × Nat) (m1 : Nat) (v1 : Int) (blockSize6 : Int) (a7 : Int) (b8 : Int) (u0 : List Int) (u1 : List (Int × Int)) : L94c87io101_1 n (m1 + 1) v1 blockSize6 a7 b8 u0 u1 =
    (bif decide (b8 ≤ v1) then (S95c87io1001 n u0 a7 b8 u1).bind fun r1' =>
      (bif Nat.beq r1'.2.1.length u0.length then L94c87io101_1 n m1 v1 blockSize6 b8 (wr .i64 (b8 + blockSize6)) r1'.2.1 r1'.2.2.1
      else none)
    else (S95c87io1001 n u0 a7 v1 u1).bind fun r2' =>
      (bif Nat.beq r2'.2.1.length u0.length then L94c87io101_2 n n.1 v1 blockSize6 r2'.2.1 r2'.2.2.1
      else none)) := by kernel_rfl
theorem L94c87io101_2_eq (n : Nat × Nat) (m1 : Nat) (v1 : Int) (blockSize6 : Int) (u0 : List Int) (u1 : List (Int × Int)) : L94c87io101_2 n (m1 + 1) v1 blockSize6 u0 u1 =
    (bif decide (blockSize6 < v1) then L94c87io101_3 n m1 n.1 v1 blockSize6 0 (wr .i64 (2 * blockSize6)) u0 u1
    else some ((), u0, u1, ())) := by kernel_rfl
theorem L94c87io101_3_eq (n : Nat × Nat) (m1 m2 : Nat) (v1 : Int) (blockSize6 : Int) (a7 : Int) (b8 : Int) (u0 : List Int) (u1 : List (Int × Int)) : L94c87io101_3 n m1 (m2 + 1) v1 blockSize6 a7 b8 u0 u1 =
    (bif decide (b8 ≤ v1) then (S96c87io10001 n u0 a7 (wr .i64 (a7 + blockSize6)) b8 u1).bind fun r3' =>
      (bif Nat.beq r3'.2.1.length u0.length then L94c87io101_3 n m1 m2 v1 blockSize6 b8 (wr .i64 (b8 + (wr .i64 (2 * blockSize6)))) r3'.2.1 r3'.2.2.1
      else none)
    else (bif decide (wr .i64 (a7 + blockSize6) < v1) then (S96c87io10001 n u0 a7 (wr .i64 (a7 + blockSize6)) v1 u1).bind fun r4' =>
        (bif Nat.beq r4'.2.1.length u0.length then L94c87io101_2 n m1 v1 (wr .i64 (blockSize6 * 2)) r4'.2.1 r4'.2.2.1
        else none)
      else L94c87io101_2 n m1 v1 (wr .i64 (blockSize6 * 2)) u0 u1)) := by kernel_rfl
noncomputable def S94c87io101 (n : Nat × Nat) (data0 : List Int) (v1 : Int) (cp_2_0 : List (Int × Int)) : Option R94c87io101 := run (E94c87io101 n) c94c87io101 an94c87io101 rt94c87io101 (fun _ _ => none) rt94c87io101 { tm := [.own 1000000000 none false, .c (.int .i64 v1), .fn 87 [.ptr 1000000001 0], uu, uu, uu, uu, uu, uu, uu, uu, uu, uu, uu, uu, uu, uu, uu, uu, uu, uu, uu, uu, uu, uu, uu, uu, uu, uu, uu, uu, uu, uu, uu, uu, uu, uu, uu, uu, uu, uu, uu, uu, uu, uu, uu, uu, uu, uu, uu, uu, uu, uu, uu, uu, uu, uu, uu, uu, uu, uu, uu, uu], hp := (upd (upd emp 1000000001 (.box [.sl (.pair (.int .i64) (.int .i64)) cp_2_0 false])) 1000000000 (.arr (.int .i64) data0 false)) }
theorem S94c87io101_eq (n : Nat × Nat) (data0 : List Int) (v1 : Int) (cp_2_0 : List (Int × Int)) : S94c87io101 n data0 v1 cp_2_0 =
    L94c87io101_1 n n.1 v1 20 0 20 data0 cp_2_0 := by kernel_rfl
theorem S94c87io101_run (n : Nat × Nat) (xs : qksDen pk94c87io101) : S94c87io101 n xs.1 xs.2.1 xs.2.2.1.1 = runG (E94c87io101 n) noScope c94c87io101 an94c87io101 (rtIO rk94c87io101 (pk94c87io101.flatMap QK.ods)) (fun _ _ => none) (rtIO rk94c87io101 (pk94c87io101.flatMap QK.ods)) (st1 pk94c87io101 xs Try.f94.ntmps) := by kernel_rfl
noncomputable def P94c87io101 (n : Nat × Nat) := phioOf pk94c87io101 rk94c87io101 (pk94c87io101.flatMap QK.ods) (fun xs => S94c87io101 n xs.1 xs.2.1 xs.2.2.1.1)
theorem env94c87io101 (n : Nat × Nat) : EnvOK Try.prog (E94c87io101 n) := envOK (l := io94c87io101 n) noPhi_ok rfl rfl (by kernel_rfl) ⟨FC95c87io1001 n, call95, FC96c87io10001 n, call96, trivial⟩
theorem par94c87io101 (n : Nat × Nat) : EnvPar (E94c87io101 n) := envPar (l := io94c87io101 n) noPhi_par rfl ⟨phioOf_Pario1, parP96c87io10001 n, trivial⟩
theorem FC94c87io101 (n : Nat × Nat) : FCios Try.prog 94 (pk94c87io101.map QK.flag) (P94c87io101 n) := phioOf_FCios fun xs r h vs hv => FCio.of_runG tabOK eqsOK (env94c87io101 n) (par94c87io101 n) mixed (fun _ => noScope_ok) Try.func94 (c := c94c87io101) (an := an94c87io101) (qks := pk94c87io101) (rks := rk94c87io101) (by kernel_rfl) (by kernel_rfl) hv ((S94c87io101_run n xs).symm.trans h)
/- slices.SortStableFunc[[]int,int] -/
abbrev R85c87io11 := (Unit) × (List Int) × (List (Int × Int)) × Unit
noncomputable def c85c87io11 : Code := bodyOf Try.f85
noncomputable def an85c87io11 : Ann := .l
def pk85c87io11 : List QK := [.oa (.int .i64), .of 87 [(.sl (.pair (.int .i64) (.int .i64)))]]
def rk85c87io11 : List RK := []
noncomputable def rt85c87io11 (st : St) : Option R85c87io11 := rtIO rk85c87io11 (pk85c87io11.flatMap QK.ods) st
noncomputable def io85c87io11 (n : Nat × Nat) : List IoE := [⟨94, (isFns [none, none, some 87]), pk94c87io101.map QK.flag, P94c87io101 n⟩]
noncomputable def E85c87io11 (n : Nat × Nat) : Env := { T := tab, phi := noPhi, eff := fun _ => false, fuel := n.1, hold := n.2, phio := phioL (io85c87io11 n), iop := iopL (io85c87io11 n) }
noncomputable def S85c87io11 (n : Nat × Nat) (x0 : List Int) (cp_1_0 : List (Int × Int)) : Option R85c87io11 := run (E85c87io11 n) c85c87io11 an85c87io11 rt85c87io11 (fun _ _ => none) rt85c87io11 { tm := [.own 1000000000 none false, .fn 87 [.ptr 1000000001 0], uu, uu, uu, uu, uu, uu, uu], hp := (upd (upd emp 1000000001 (.box [.sl (.pair (.int .i64) (.int .i64)) cp_1_0 false])) 1000000000 (.arr (.int .i64) x0 false)) }
theorem S85c87io11_eq (n : Nat × Nat) (x0 : List Int) (cp_1_0 : List (Int × Int)) : S85c87io11 n x0 cp_1_0 =
    (S94c87io101 n x0 (x0.length : Int) cp_1_0).bind fun r1' =>
    (bif Nat.beq r1'.2.1.length x0.length then some ((), r1'.2.1, r1'.2.2.1, ())
    else none) := by kernel_rfl
theorem S85c87io11_run (n : Nat × Nat) (xs : qksDen pk85c87io11) : S85c87io11 n xs.1 xs.2.1.1 = runG (E85c87io11 n) noScope c85c87io11 an85c87io11 (rtIO rk85c87io11 (pk85c87io11.flatMap QK.ods)) (fun _ _ => none) (rtIO rk85c87io11 (pk85c87io11.flatMap QK.ods)) (st1 pk85c87io11 xs Try.f85.ntmps) := by kernel_rfl
noncomputable def P85c87io11 (n : Nat × Nat) := phioOf pk85c87io11 rk85c87io11 (pk85c87io11.flatMap QK.ods) (fun xs => S85c87io11 n xs.1 xs.2.1.1)
theorem env85c87io11 (n : Nat × Nat) : EnvOK Try.prog (E85c87io11 n) := envOK (l := io85c87io11 n) noPhi_ok rfl rfl (by kernel_rfl) ⟨FC94c87io101 n, call94, trivial⟩
theorem par85c87io11 (n : Nat × Nat) : EnvPar (E85c87io11 n) := envPar (l := io85c87io11 n) noPhi_par rfl ⟨phioOf_Pario1, trivial⟩
theorem FC85c87io11 (n : Nat × Nat) : FCios Try.prog 85 (pk85c87io11.map QK.flag) (P85c87io11 n) := phioOf_FCios fun xs r h vs hv => FCio.of_runG tabOK eqsOK (env85c87io11 n) (par85c87io11 n) mixed (fun _ => noScope_ok) Try.func85 (c := c85c87io11) (an := an85c87io11) (qks := pk85c87io11) (rks := rk85c87io11) (by kernel_rfl) (by kernel_rfl) hv ((S85c87io11_run n xs).symm.trans h)
abbrev R69 := List Int
noncomputable def c69 : Code := bodyOf Try.f69
noncomputable def an69 : Ann := (.s .l (.s .l (.s (.s .l (.j [1, 3, 4] (.j [1, 3, 4, 7, 8, 9] (.s .l (.s (.j [1, 3, 4, 7, 8, 9] .l .l) (.j [] (.j [1, 3, 4, 7, 8, 9] (.s .l (.s .l (.j [1, 3, 4, 7, 8, 9] .l .l))) .l) .l))) .l) .l)) .l)))
def pk69 : List PK := [.c (.sl (.pair (.int .i64) (.int .i64)))]
def rk69 : List RK := [.own (.int .i64) 2]
noncomputable def rt69 (st : St) : Option R69 := rtG rk69 st
noncomputable def io69 (n : Nat × Nat) : List IoE := [⟨85, (isFns [none, some 86]), pk85c86io11.map QK.flag, P85c86io11 n⟩, ⟨85, (isFns [none, some 87]), pk85c87io11.map QK.flag, P85c87io11 n⟩]
noncomputable def E69 (n : Nat × Nat) : Env := { T := tab, phi := noPhi, eff := fun _ => false, fuel := n.1, hold := n.2, phio := phioL (io69 n), iop := iopL (io69 n) }
noncomputable def kq69_1 (n : Nat × Nat) : St → Option R69 := run (E69 n) (cB (cB (cB c69))) (Ann.snd (Ann.snd (Ann.snd an69))) rt69 (fun _ _ => none) rt69
noncomputable def kc69_2 (n : Nat × Nat) : St → Option R69 := fun s => normC [1, 3, 4] s (kq69_1 n)
noncomputable def xb69_3 (n : Nat × Nat) : Nat → St → Option R69 := fun j s => bif Nat.beq j 0 then normC [1, 3, 4] s (kq69_1 n) else (fun _ _ => none) j s
noncomputable def F69_4 (n : Nat × Nat) : (St → Option R69) → St → Option R69 := fun K s => run (E69 n) (cA (cA (cB (cA (cB (cB c69)))))) (Ann.fst (Ann.fst (Ann.snd (Ann.fst (Ann.snd (Ann.snd an69)))))) (fun s => normC [1, 3, 4, 7, 8, 9] s K) (xb69_3 n) rt69 s
noncomputable def kq69_5 (n : Nat × Nat) (m1 : Nat) : St → Option R69 := run (E69 n) (cB (cB (cA (cA (cB (cA (cB (cB c69)))))))) (Ann.snd (Ann.snd (Ann.fst (Ann.fst (Ann.snd (Ann.fst (Ann.snd (Ann.snd an69)))))))) (fun s => normC [1, 3, 4, 7, 8, 9] s (loopN (F69_4 n) m1)) (xb69_3 n) rt69
noncomputable def kc69_6 (n : Nat × Nat) (m1 : Nat) : St → Option R69 := fun s => normC [1, 3, 4, 7, 8, 9] s (kq69_5 n m1)
noncomputable def kq69_7 (n : Nat × Nat) (m1 : Nat) : St → Option R69 := run (E69 n) (cB (cB (cB (cA (cA (cB (cA (cB (cB c69))))))))) (Ann.snd (Ann.snd (Ann.snd (Ann.fst (Ann.fst (Ann.snd (Ann.fst (Ann.snd (Ann.snd an69))))))))) (fun s => normC [1, 3, 4, 7, 8, 9] s (loopN (F69_4 n) m1)) (xb69_3 n) rt69
noncomputable def kc69_8 (n : Nat × Nat) (m1 : Nat) : St → Option R69 := fun s => normC [1, 3, 4, 7, 8, 9] s (loopN (fun _ => (kq69_7 n m1)) n.2)
noncomputable def xb69_9 (n : Nat × Nat) (m1 : Nat) : Nat → St → Option R69 := fun j s => bif Nat.beq j 1 then normC [1, 3, 4, 7, 8, 9] s (loopN (fun _ => (kq69_7 n m1)) n.2) else (xb69_3 n) j s
noncomputable def kc69_10 (n : Nat × Nat) (m1 : Nat) : St → Option R69 := fun s => normC [1, 3, 4, 7, 8, 9] s (kc69_8 n m1)
noncomputable def L69_1 (n : Nat × Nat) (m : Nat) (v7 : List (Int × Int)) (v8 : Int) (v9 : Int) (sheets1 : List (Int × Int)) (front3 : List Int) (back4 : List Int) : Option R69 := loopN (F69_4 n) m { tm := [uu, .ptr 1 0, uu, .own 3 none false, .own 4 none false, uu, uu, .c (.sl (.pair (.int .i64) (.int .i64)) v7 false), .c (.int .i64 v8), .c (.int .i64 v9), uu, uu, uu, uu, uu, uu, uu, uu, uu, uu, uu, uu, uu, uu, uu, uu, uu, uu, uu, uu, uu, uu, uu, uu, uu, uu, uu], hp := (upd (upd (upd emp 4 (.arr (.int .i64) back4 true)) 3 (.arr (.int .i64) front3 true)) 1 (.box [.sl (.pair (.int .i64) (.int .i64)) sheets1 false])) }
noncomputable def L69_2 (n : Nat × Nat) (m1 : Nat) (v7 : List (Int × Int)) (v8 : Int) (v9 : Int) (sheets1 : List (Int × Int)) (front3 : List Int) (back4 : List Int) : Option R69 := loopN (fun _ => (kq69_7 n m1)) n.2 { tm := [uu, .ptr 1 0, uu, .own 3 none false, .own 4 none false, uu, uu, .c (.sl (.pair (.int .i64) (.int .i64)) v7 false), .c (.int .i64 v8), .c (.int .i64 v9), uu, uu, uu, uu, uu, uu, uu, uu, uu, uu, uu, uu, uu, uu, uu, uu, uu, uu, uu, uu, uu, uu, uu, uu, uu, uu, uu], hp := (upd (upd (upd emp 4 (.arr (.int .i64) back4 true)) 3 (.arr (.int .i64) front3 true)) 1 (.box [.sl (.pair (.int .i64) (.int .i64)) sheets1 false])) }
theorem L69_1_eq (n : Nat × Nat) (m1 : Nat) (v7 : List (Int × Int)) (v8 : Int) (v9 : Int) (sheets1 : List (Int × Int)) (front3 : List Int) (back4 : List Int) : L69_1 n (m1 + 1) v7 v8 v9 sheets1 front3 back4 =
    (bif decide (v9 < v8) then (idx v7 v9).bind fun x1' =>
      (bif decide (x1'.1 < x1'.2) then (bif decide (front3.length + [v9].length ≤ lim) then L69_2 n m1 v7 v8 v9 sheets1 (front3 ++ [v9]) back4
        else none)
      else (bif decide (back4.length + [v9].length ≤ lim) then L69_2 n m1 v7 v8 v9 sheets1 front3 (back4 ++ [v9])
        else none))
    else (S85c86io11 n front3 sheets1).bind fun r2' =>
      (bif Nat.beq r2'.2.1.length front3.length then (S85c87io11 n back4 r2'.2.2.1).bind fun r3' =>
        (bif Nat.beq r3'.2.1.length back4.length then (bif decide (r2'.2.1.length + r3'.2.1.length ≤ lim) then some (r2'.2.1 ++ r3'.2.1)
          else none)
        else none)
      else none)) := by kernel_rfl
theorem L69_2_raw (n : Nat × Nat) (m1 : Nat) (v7 : List (Int × Int)) (v8 : Int) (v9 : Int) (sheets1 : List (Int × Int)) (front3 : List Int) (back4 : List Int) : (kq69_7 n m1) { tm := [uu, .ptr 1 0, uu, .own 3 none false, .own 4 none false, uu, uu, .c (.sl (.pair (.int .i64) (.int .i64)) v7 false), .c (.int .i64 v8), .c (.int .i64 v9), uu, uu, uu, uu, uu, uu, uu, uu, uu, uu, uu, uu, uu, uu, uu, uu, uu, uu, uu, uu, uu, uu, uu, uu, uu, uu, uu], hp := (upd (upd (upd emp 4 (.arr (.int .i64) back4 true)) 3 (.arr (.int .i64) front3 true)) 1 (.box [.sl (.pair (.int .i64) (.int .i64)) sheets1 false])) } =
    L69_1 n m1 v7 v8 (wr .i64 (v9 + 1)) sheets1 front3 back4 := by kernel_rfl
noncomputable def S69 (n : Nat × Nat) (sheets0 : List (Int × Int)) : Option R69 := run (E69 n) c69 an69 rt69 (fun _ _ => none) rt69 { tm := [.c (.sl (.pair (.int .i64) (.int .i64)) sheets0 false), uu, uu, uu, uu, uu, uu, uu, uu, uu, uu, uu, uu, uu, uu, uu, uu, uu, uu, uu, uu, uu, uu, uu, uu, uu, uu, uu, uu, uu, uu, uu, uu, uu, uu, uu, uu], hp := emp }
theorem S69_eq (n : Nat × Nat) (sheets0 : List (Int × Int)) : S69 n sheets0 =
    L69_1 n n.1 sheets0 (sheets0.length : Int) 0 sheets0 [] [] := by kernel_rfl
theorem S69_run (n : Nat × Nat) (xs : pksDen pk69) : S69 n xs.1 = runG (E69 n) noScope c69 an69 (rtG rk69) (fun _ _ => none) (rtG rk69) (st0 pk69 xs Try.f69.ntmps) := by kernel_rfl
noncomputable def P69 (n : Nat × Nat) := phiOf pk69 rk69 (fun xs => S69 n xs.1)
theorem call69 : CallOK Try.prog 69 := callOK_of Try.func69 (by kernel_rfl) (by kernel_rfl)
theorem env69 (n : Nat × Nat) : EnvOK Try.prog (E69 n) := envOK (l := io69 n) noPhi_ok rfl rfl (by kernel_rfl) ⟨FC85c86io11 n, call85, FC85c87io11 n, call85, trivial⟩
theorem par69 (n : Nat × Nat) : EnvPar (E69 n) := envPar (l := io69 n) noPhi_par rfl ⟨phioOf_Pario1, phioOf_Pario1, trivial⟩
theorem FC69 (n : Nat × Nat) : FCs Try.prog 69 (P69 n) := phiOf_FCs fun xs r h vs hv => FC.of_runG tabOK eqsOK (env69 n) (par69 n) mixed (fun _ => noScope_ok) Try.func69 (c := c69) (an := an69) (pks := pk69) (rks := rk69) (by kernel_rfl) (by kernel_rfl) hv ((S69_run n xs).symm.trans h)
abbrev R27 := List Int × Int
noncomputable def c27 : Code := bodyOf Try.f27
noncomputable def an27 : Ann := (.s .l (.s (.s .l (.s .l (.j [0] .l .l))) .l))
def pk27 : List PK := [.c (.sl (.pair (.int .i64) (.int .i64)))]
def rk27 : List RK := [.own (.int .i64) 2, .c (.int .i64) 3]
noncomputable def rt27 (st : St) : Option R27 := rtG rk27 st
noncomputable def E27 (n : Nat × Nat) : Env := { T := tab, phi := (consPhi 25 (fun _ => true) (P25 n) (consPhi 69 (fun _ => true) (P69 n) noPhi)), eff := fun _ => false, fuel := n.1, hold := n.2 }
noncomputable def kq27_1 (n : Nat × Nat) : St → Option R27 := run (E27 n) (cB (cB c27)) (Ann.snd (Ann.snd an27)) rt27 (fun _ _ => none) rt27
noncomputable def kc27_2 (n : Nat × Nat) : St → Option R27 := fun s => normC [0] s (kq27_1 n)
noncomputable def S27 (n : Nat × Nat) (sheets0 : List (Int × Int)) : Option R27 := run (E27 n) c27 an27 rt27 (fun _ _ => none) rt27 { tm := [.c (.sl (.pair (.int .i64) (.int .i64)) sheets0 false), uu, uu, uu, uu, uu, uu, uu, uu, uu, uu, uu], hp := emp }
theorem S27_eq (n : Nat × Nat) (sheets0 : List (Int × Int)) : S27 n sheets0 =
    (S25 n sheets0).bind fun r1' =>
    (bif (r1' != 0) then some ([], r1')
    else (S69 n sheets0).bind fun r2' =>
      some (r2', 0)) := by kernel_rfl
theorem S27_run (n : Nat × Nat) (xs : pksDen pk27) : S27 n xs.1 = runG (E27 n) noScope c27 an27 (rtG rk27) (fun _ _ => none) (rtG rk27) (st0 pk27 xs Try.f27.ntmps) := by kernel_rfl
noncomputable def P27 (n : Nat × Nat) := phiOf pk27 rk27 (fun xs => S27 n xs.1)
theorem call27 : CallOK Try.prog 27 := callOK_of Try.func27 (by kernel_rfl) (by kernel_rfl)
theorem env27 (n : Nat × Nat) : EnvOK Try.prog (E27 n) := envOK0 (consPhi_ok (FC25 n) call25 (consPhi_ok (FC69 n) call69 noPhi_ok)) rfl rfl
theorem par27 (n : Nat × Nat) : EnvPar (E27 n) := envPar0 (consPhi_par phiOf_Par1 (consPhi_par phiOf_Par1 noPhi_par)) rfl
theorem FC27 (n : Nat × Nat) : FCs Try.prog 27 (P27 n) := phiOf_FCs fun xs r h vs hv => FC.of_runG tabOK eqsOK (env27 n) (par27 n) mixed (fun _ => noScope_ok) Try.func27 (c := c27) (an := an27) (pks := pk27) (rks := rk27) (by kernel_rfl) (by kernel_rfl) hv ((S27_run n xs).symm.trans h)
abbrev R88 := Int
noncomputable def c88 : Code := bodyOf Try.f88
noncomputable def an88 : Ann := .l
def pk88 : List PK := [.c (.sl (.pair (.int .i64) (.int .i64)))]
def rk88 : List RK := [.c (.int .i64) 2]
noncomputable def rt88 (st : St) : Option R88 := rtG rk88 st
noncomputable def E88 (n : Nat × Nat) : Env := { T := tab, phi := (consPhi 58 (fun _ => true) (P58 n) (consPhi 61 (fun _ => true) (P61 n) (consPhi 69 (fun _ => true) (P69 n) noPhi))), eff := fun _ => false, fuel := n.1, hold := n.2 }
noncomputable def S88 (n : Nat × Nat) (sheets0 : List (Int × Int)) : Option R88 := run (E88 n) c88 an88 rt88 (fun _ _ => none) rt88 { tm := [.c (.sl (.pair (.int .i64) (.int .i64)) sheets0 false), uu, uu, uu, uu, uu, uu, uu, uu, uu, uu, uu, uu, uu], hp := emp }
theorem S88_eq (n : Nat × Nat) (sheets0 : List (Int × Int)) : S88 n sheets0 =
    (S69 n sheets0).bind fun r1' =>
    (S58 n sheets0 r1').bind fun r2' =>
    (S61 n r2'.1).bind fun r3' =>
    some r3' := by kernel_rfl
theorem S88_run (n : Nat × Nat) (xs : pksDen pk88) : S88 n xs.1 = runG (E88 n) noScope c88 an88 (rtG rk88) (fun _ _ => none) (rtG rk88) (st0 pk88 xs Try.f88.ntmps) := by kernel_rfl
noncomputable def P88 (n : Nat × Nat) := phiOf pk88 rk88 (fun xs => S88 n xs.1)
theorem call88 : CallOK Try.prog 88 := callOK_of Try.func88 (by kernel_rfl) (by kernel_rfl)
theorem env88 (n : Nat × Nat) : EnvOK Try.prog (E88 n) := envOK0 (consPhi_ok (FC58 n) call58 (consPhi_ok (FC61 n) call61 (consPhi_ok (FC69 n) call69 noPhi_ok))) rfl rfl
theorem par88 (n : Nat × Nat) : EnvPar (E88 n) := envPar0 (consPhi_par phiOf_Par1 (consPhi_par phiOf_Par1 (consPhi_par phiOf_Par1 noPhi_par))) rfl
theorem FC88 (n : Nat × Nat) : FCs Try.prog 88 (P88 n) := phiOf_FCs fun xs r h vs hv => FC.of_runG tabOK eqsOK (env88 n) (par88 n) mixed (fun _ => noScope_ok) Try.func88 (c := c88) (an := an88) (pks := pk88) (rks := rk88) (by kernel_rfl) (by kernel_rfl) hv ((S88_run n xs).symm.trans h)
abbrev R72io01 := (Bool) × (List Int) × Unit
noncomputable def c72io01 : Code := bodyOf Try.f72
noncomputable def an72io01 : Ann := .l
def pk72io01 : List QK := [.pl (.c (.sl (.int .i64))), .ob (.sl (.int .i64))]
def rk72io01 : List RK := [.c .bool 3]
noncomputable def rt72io01 (st : St) : Option R72io01 := rtIO rk72io01 (pk72io01.flatMap QK.ods) st
noncomputable def E72io01 (n : Nat × Nat) : Env := { T := tab, phi := noPhi, eff := fun _ => false, fuel := n.1, hold := n.2 }
noncomputable def S72io01 (n : Nat × Nat) (order0 : List Int) (v1 : List Int) : Option R72io01 := run (E72io01 n) c72io01 an72io01 rt72io01 (fun _ _ => none) rt72io01 { tm := [.c (.sl (.int .i64) order0 false), .ptr 1000000000 0, uu, uu, uu], hp := (upd emp 1000000000 (.box [.sl (.int .i64) v1 false])) }
theorem S72io01_eq (n : Nat × Nat) (order0 : List Int) (v1 : List Int) : S72io01 n order0 v1 =
    some (false, order0, ()) := by kernel_rfl
theorem S72io01_run (n : Nat × Nat) (xs : qksDen pk72io01) : S72io01 n xs.1 xs.2.1 = runG (E72io01 n) noScope c72io01 an72io01 (rtIO rk72io01 (pk72io01.flatMap QK.ods)) (fun _ _ => none) (rtIO rk72io01 (pk72io01.flatMap QK.ods)) (st1 pk72io01 xs Try.f72.ntmps) := by kernel_rfl
noncomputable def P72io01 (n : Nat × Nat) := phioOf pk72io01 rk72io01 (pk72io01.flatMap QK.ods) (fun xs => S72io01 n xs.1 xs.2.1)
theorem call72 : CallOK Try.prog 72 := callOK_of Try.func72 (by kernel_rfl) (by kernel_rfl)
theorem env72io01 (n : Nat × Nat) : EnvOK Try.prog (E72io01 n) := envOK0 noPhi_ok rfl rfl
theorem par72io01 (n : Nat × Nat) : EnvPar (E72io01 n) := envPar0 noPhi_par rfl
theorem FC72io01 (n : Nat × Nat) : FCios Try.prog 72 (pk72io01.map QK.flag) (P72io01 n) := phioOf_FCios fun xs r h vs hv => FCio.of_runG tabOK eqsOK (env72io01 n) (par72io01 n) mixed (fun _ => noScope_ok) Try.func72 (c := c72io01) (an := an72io01) (qks := pk72io01) (rks := rk72io01) (by kernel_rfl) (by kernel_rfl) hv ((S72io01_run n xs).symm.trans h)
abbrev R89f72io0001110 := (Bool) × (List (Int × Int)) × (List Int) × Int × Unit
noncomputable def c89f72io0001110 : Code := bodyOf Try.f89
noncomputable def an89f72io0001110 : Ann := (.s .l (.s (.s .l (.j [0, 1, 2, 3, 5, 6, 47, 48, 49, 50, 51, 52, 53, 54, 55, 56, 57, 58, 59, 60, 1000000000, 1000000001, 1000000002] .l .l)) (.s (.s .l (.j [1000000000, 1000000001, 1000000002] (.j [0, 1, 2, 5, 6, 23, 24, 25, 47, 48, 49, 50, 51, 52, 53, 54, 55, 56, 57, 58, 59, 60, 1000000000, 1000000001, 1000000002] (.s .l (.s (.j [0, 1, 2, 5, 6, 23, 24, 25, 47, 48, 49, 50, 51, 52, 53, 54, 55, 56, 57, 58, 59, 60, 1000000000, 1000000001, 1000000002] .l .l) (.j [] (.j [0, 1, 2, 5, 6, 23, 24, 25, 47, 48, 49, 50, 51, 52, 53, 54, 55, 56, 57, 58, 59, 60, 1000000000, 1000000001, 1000000002] (.s .l (.s (.s .l (.j [0, 1, 2, 5, 6, 11, 12, 23, 24, 25, 47, 48, 49, 50, 51, 52, 53, 54, 55, 56, 57, 58, 59, 60, 1000000000, 1000000001, 1000000002] .l .l)) (.s .l (.s .l (.s .l (.j [0, 1, 2, 5, 6, 23, 24, 25, 47, 48, 49, 50, 51, 52, 53, 54, 55, 56, 57, 58, 59, 60, 1000000000, 1000000001, 1000000002] .l .l)))))) .l) .l))) .l) .l)) .l)))
def pk89f72io0001110 : List QK := [.pl (.c (.sl (.int .i64))), .pl (.c (.int .i64)), .pl (.c (.int .i64)), .ob (.sl (.pair (.int .i64) (.int .i64))), .fp 72 [(.sl (.int .i64))], .ob (.int .i64), .sf 89 [.b 1000000000, .v 72 [1000000001], .b 1000000002, .s]]
def rk89f72io0001110 : List RK := [.c .bool 10]
noncomputable def rt89f72io0001110 (st : St) : Option R89f72io0001110 := rtIO rk89f72io0001110 (pk89f72io0001110.flatMap QK.ods) st
noncomputable def io89f72io0001110 (n : Nat × Nat) (SS : List Int → Int → Int → (List (Int × Int)) → List Int → Int → Option R89f72io0001110) : List IoE := [⟨72, (fun _ => true), pk72io01.map QK.flag, P72io01 n⟩, ⟨89, (fun _ => true), pk89f72io0001110.map QK.flag, (phioOf pk89f72io0001110 rk89f72io0001110 (pk89f72io0001110.flatMap QK.ods) (fun xs => SS xs.1 xs.2.1 xs.2.2.1 xs.2.2.2.1 xs.2.2.2.2.1.1 xs.2.2.2.2.2.1))⟩]
noncomputable def E89f72io0001110 (n : Nat × Nat) (SS : List Int → Int → Int → (List (Int × Int)) → List Int → Int → Option R89f72io0001110) : Env := { T := tab, phi := (consPhi 80 (fun _ => true) (P80 n) noPhi), eff := fun _ => false, fuel := n.1, hold := n.2, phio := phioL (io89f72io0001110 n SS), iop := iopL (io89f72io0001110 n SS) }
noncomputable def kq89f72io0001110_1 (n : Nat × Nat) (SS : List Int → Int → Int → (List (Int × Int)) → List Int → Int → Option R89f72io0001110) : St → Option R89f72io0001110 := run (E89f72io0001110 n SS) (cB (cB c89f72io0001110)) (Ann.snd (Ann.snd an89f72io0001110)) rt89f72io0001110 (fun _ _ => none) rt89f72io0001110
noncomputable def kc89f72io0001110_2 (n : Nat × Nat) (SS : List Int → Int → Int → (List (Int × Int)) → List Int → Int → Option R89f72io0001110) : St → Option R89f72io0001110 := fun s => normC [0, 1, 2, 3, 5, 6, 47, 48, 49, 50, 51, 52, 53, 54, 55, 56, 57, 58, 59, 60, 1000000000, 1000000001, 1000000002] s (kq89f72io0001110_1 n SS)
noncomputable def kq89f72io0001110_3 (n : Nat × Nat) (SS : List Int → Int → Int → (List (Int × Int)) → List Int → Int → Option R89f72io0001110) : St → Option R89f72io0001110 := run (E89f72io0001110 n SS) (cB (cB (cB c89f72io0001110))) (Ann.snd (Ann.snd (Ann.snd an89f72io0001110))) rt89f72io0001110 (fun _ _ => none) rt89f72io0001110
noncomputable def kc89f72io0001110_4 (n : Nat × Nat) (SS : List Int → Int → Int → (List (Int × Int)) → List Int → Int → Option R89f72io0001110) : St → Option R89f72io0001110 := fun s => normC [1000000000, 1000000001, 1000000002] s (kq89f72io0001110_3 n SS)
noncomputable def xb89f72io0001110_5 (n : Nat × Nat) (SS : List Int → Int → Int → (List (Int × Int)) → List Int → Int → Option R89f72io0001110) : Nat → St → Option R89f72io0001110 := fun j s => bif Nat.beq j 0 then normC [1000000000, 1000000001, 1000000002] s (kq89f72io0001110_3 n SS) else (fun _ _ => none) j s
noncomputable def F89f72io0001110_6 (n : Nat × Nat) (SS : List Int → Int → Int → (List (Int × Int)) → List Int → Int → Option R89f72io0001110) : (St → Option R89f72io0001110) → St → Option R89f72io0001110 := fun K s => run (E89f72io0001110 n SS) (cA (cA (cB (cA (cB (cB c89f72io0001110)))))) (Ann.fst (Ann.fst (Ann.snd (Ann.fst (Ann.snd (Ann.snd an89f72io0001110)))))) (fun s => normC [0, 1, 2, 5, 6, 23, 24, 25, 47, 48, 49, 50, 51, 52, 53, 54, 55, 56, 57, 58, 59, 60, 1000000000, 1000000001, 1000000002] s K) (xb89f72io0001110_5 n SS) rt89f72io0001110 s
noncomputable def kq89f72io0001110_7 (n : Nat × Nat) (SS : List Int → Int → Int → (List (Int × Int)) → List Int → Int → Option R89f72io0001110) (m1 : Nat) : St → Option R89f72io0001110 := run (E89f72io0001110 n SS) (cB (cB (cA (cA (cB (cA (cB (cB c89f72io0001110)))))))) (Ann.snd (Ann.snd (Ann.fst (Ann.fst (Ann.snd (Ann.fst (Ann.snd (Ann.snd an89f72io0001110)))))))) (fun s => normC [0, 1, 2, 5, 6, 23, 24, 25, 47, 48, 49, 50, 51, 52, 53, 54, 55, 56, 57, 58, 59, 60, 1000000000, 1000000001, 1000000002] s (loopN (F89f72io0001110_6 n SS) m1)) (xb89f72io0001110_5 n SS) rt89f72io0001110
noncomputable def kc89f72io0001110_8 (n : Nat × Nat) (SS : List Int → Int → Int → (List (Int × Int)) → List Int → Int → Option R89f72io0001110) (m1 : Nat) : St → Option R89f72io0001110 := fun s => normC [0, 1, 2, 5, 6, 23, 24, 25, 47, 48, 49, 50, 51, 52, 53, 54, 55, 56, 57, 58, 59, 60, 1000000000, 1000000001, 1000000002] s (kq89f72io0001110_7 n SS m1)
noncomputable def kq89f72io0001110_9 (n : Nat × Nat) (SS : List Int → Int → Int → (List (Int × Int)) → List Int → Int → Option R89f72io0001110) (m1 : Nat) : St → Option R89f72io0001110 := run (E89f72io0001110 n SS) (cB (cB (cB (cA (cA (cB (cA (cB (cB c89f72io0001110))))))))) (Ann.snd (Ann.snd (Ann.snd (Ann.fst (Ann.fst (Ann.snd (Ann.fst (Ann.snd (Ann.snd an89f72io0001110))))))))) (fun s => normC [0, 1, 2, 5, 6, 23, 24, 25, 47, 48, 49, 50, 51, 52, 53, 54, 55, 56, 57, 58, 59, 60, 1000000000, 1000000001, 1000000002] s (loopN (F89f72io0001110_6 n SS) m1)) (xb89f72io0001110_5 n SS) rt89f72io0001110
noncomputable def kc89f72io0001110_10 (n : Nat × Nat) (SS : List Int → Int → Int → (List (Int × Int)) → List Int → Int → Option R89f72io0001110) (m1 : Nat) : St → Option R89f72io0001110 := fun s => normC [0, 1, 2, 5, 6, 23, 24, 25, 47, 48, 49, 50, 51, 52, 53, 54, 55, 56, 57, 58, 59, 60, 1000000000, 1000000001, 1000000002] s (loopN (fun _ => (kq89f72io0001110_9 n SS m1)) n.2)
noncomputable def xb89f72io0001110_11 (n : Nat × Nat) (SS : List Int → Int → Int → (List (Int × Int)) → List Int → Int → Option R89f72io0001110) (m1 : Nat) : Nat → St → Option R89f72io0001110 := fun j s => bif Nat.beq j 1 then normC [0, 1, 2, 5, 6, 23, 24, 25, 47, 48, 49, 50, 51, 52, 53, 54, 55, 56, 57, 58, 59, 60, 1000000000, 1000000001, 1000000002] s (loopN (fun _ => (kq89f72io0001110_9 n SS m1)) n.2) else (xb89f72io0001110_5 n SS) j s
noncomputable def kq89f72io0001110_12 (n : Nat × Nat) (SS : List Int → Int → Int → (List (Int × Int)) → List Int → Int → Option R89f72io0001110) (m1 : Nat) : St → Option R89f72io0001110 := run (E89f72io0001110 n SS) (cB (cB (cA (cA (cB (cB (cA (cA (cB (cA (cB (cB c89f72io0001110)))))))))))) (Ann.snd (Ann.snd (Ann.fst (Ann.fst (Ann.snd (Ann.snd (Ann.fst (Ann.fst (Ann.snd (Ann.fst (Ann.snd (Ann.snd an89f72io0001110)))))))))))) (kc89f72io0001110_10 n SS m1) (xb89f72io0001110_11 n SS m1) rt89f72io0001110
noncomputable def kc89f72io0001110_13 (n : Nat × Nat) (SS : List Int → Int → Int → (List (Int × Int)) → List Int → Int → Option R89f72io0001110) (m1 : Nat) : St → Option R89f72io0001110 := fun s => normC [0, 1, 2, 5, 6, 11, 12, 23, 24, 25, 47, 48, 49, 50, 51, 52, 53, 54, 55, 56, 57, 58, 59, 60, 1000000000, 1000000001, 1000000002] s (kq89f72io0001110_12 n SS m1)
noncomputable def kc89f72io0001110_14 (n : Nat × Nat) (SS : List Int → Int → Int → (List (Int × Int)) → List Int → Int → Option R89f72io0001110) (m1 : Nat) : St → Option R89f72io0001110 := fun s => normC [0, 1, 2, 5, 6, 23, 24, 25, 47, 48, 49, 50, 51, 52, 53, 54, 55, 56, 57, 58, 59, 60, 1000000000, 1000000001, 1000000002] s (kc89f72io0001110_10 n SS m1)
noncomputable def L89f72io0001110_1 (n : Nat × Nat) (SS : List Int → Int → Int → (List (Int × Int)) → List Int → Int → Option R89f72io0001110) (m : Nat) (order0 : List Int) (a1 : Int) (b2 : Int) (v23 : List (Int × Int)) (v24 : Int) (v25 : Int) (u2 : Int) (u0 : List (Int × Int)) (u1 : List Int) : Option R89f72io0001110 := loopN (F89f72io0001110_6 n SS) m { tm := [.c (.sl (.int .i64) order0 false), .c (.int .i64 a1), .c (.int .i64 b2), uu, uu, .ptr 1000000002 0, .fptr 89 [.b 1000000000, .v 72 [1000000001], .b 1000000002, .s], uu, uu, uu, uu, uu, uu, uu, uu, uu, uu, uu, uu, uu, uu, uu, uu, .c (.sl (.pair (.int .i64) (.int .i64)) v23 false), .c (.int .i64 v24), .c (.int .i64 v25), uu, uu, uu, uu, uu, uu, uu, uu, uu, uu, uu, uu, uu, uu, uu, uu, uu, uu, uu, uu, uu, uu, uu, uu, uu, uu, uu, uu, uu, uu, uu, uu, uu, uu, uu, uu, uu], hp := (upd (upd (upd emp 1000000001 (.box [.sl (.int .i64) u1 false])) 1000000000 (.box [.sl (.pair (.int .i64) (.int .i64)) u0 false])) 1000000002 (.box [.int .i64 u2])) }
noncomputable def L89f72io0001110_2 (n : Nat × Nat) (SS : List Int → Int → Int → (List (Int × Int)) → List Int → Int → Option R89f72io0001110) (m1 : Nat) (order0 : List Int) (a1 : Int) (b2 : Int) (v23 : List (Int × Int)) (v24 : Int) (v25 : Int) (u2 : Int) (u0 : List (Int × Int)) (u1 : List Int) : Option R89f72io0001110 := loopN (fun _ => (kq89f72io0001110_9 n SS m1)) n.2 { tm := [.c (.sl (.int .i64) order0 false), .c (.int .i64 a1), .c (.int .i64 b2), uu, uu, .ptr 1000000002 0, .fptr 89 [.b 1000000000, .v 72 [1000000001], .b 1000000002, .s], uu, uu, uu, uu, uu, uu, uu, uu, uu, uu, uu, uu, uu, uu, uu, uu, .c (.sl (.pair (.int .i64) (.int .i64)) v23 false), .c (.int .i64 v24), .c (.int .i64 v25), uu, uu, uu, uu, uu, uu, uu, uu, uu, uu, uu, uu, uu, uu, uu, uu, uu, uu, uu, uu, uu, uu, uu, uu, uu, uu, uu, uu, uu, uu, uu, uu, uu, uu, uu, uu, uu], hp := (upd (upd (upd emp 1000000001 (.box [.sl (.int .i64) u1 false])) 1000000000 (.box [.sl (.pair (.int .i64) (.int .i64)) u0 false])) 1000000002 (.box [.int .i64 u2])) }
theorem L89f72io0001110_1_eq (n : Nat × Nat) (SS : List Int → Int → Int → (List (Int × Int)) → List Int → Int → Option R89f72io0001110) (m1 : Nat) (order0 : List Int) (a1 : Int) (b2 : Int) (v23 : List (Int × Int)) (v24 : Int) (v25 : Int) (u2 : Int) (u0 : List (Int × Int)) (u1 : List Int) : L89f72io0001110_1 n SS (m1 + 1) order0 a1 b2 v23 v24 v25 u2 u0 u1 =
    (bif decide (v25 < v24) then (idx v23 v25).bind fun x2' =>
      (S80 n order0 v25).bind fun r3' =>
      (bif r3' then L89f72io0001110_2 n SS m1 order0 a1 b2 v23 v24 v25 u2 u0 u1
      else (bif (decide (wr .i64 ((if b2 > (wr .i64 (a1 + x2'.1)) then b2 else (wr .i64 (a1 + x2'.1))) + x2'.2) ≤ u2) == true) then (bif ((order0.length : Int) == (order0.length : Int)) && bounds none (some (order0.length : Int)) (some (order0.length : Int)) order0.length then (bif decide ((order0.take (Int.toNat (order0.length : Int))).length + [v25].length ≤ lim) && ((order0.take (Int.toNat (order0.length : Int))).isEmpty || ![v25].isEmpty) then (SS ((order0.take (Int.toNat (order0.length : Int))) ++ [v25]) (wr .i64 (a1 + x2'.1)) (wr .i64 ((if b2 > (wr .i64 (a1 + x2'.1)) then b2 else (wr .i64 (a1 + x2'.1))) + x2'.2)) u0 u1 u2).bind fun r5' =>
              (bif (!r5'.1) then some (false, r5'.2.1, r5'.2.2.1, r5'.2.2.2.1, ())
              else L89f72io0001110_2 n SS m1 order0 a1 b2 v23 v24 v25 r5'.2.2.2.1 r5'.2.1 r5'.2.2.1)
            else none)
          else none)
        else (bif false then some (false, u0, u1, u2, ())
          else L89f72io0001110_2 n SS m1 order0 a1 b2 v23 v24 v25 u2 u0 u1)))
    else some (true, u0, u1, u2, ())) := by kernel_rfl
theorem L89f72io0001110_2_raw (n : Nat × Nat) (SS : List Int → Int → Int → (List (Int × Int)) → List Int → Int → Option R89f72io0001110) (m1 : Nat) (order0 : List Int) (a1 : Int) (b2 : Int) (v23 : List (Int × Int)) (v24 : Int) (v25 : Int) (u2 : Int) (u0 : List (Int × Int)) (u1 : List Int) : (kq89f72io0001110_9 n SS m1) { tm := [.c (.sl (.int .i64) order0 false), .c (.int .i64 a1), .c (.int .i64 b2), uu, uu, .ptr 1000000002 0, .fptr 89 [.b 1000000000, .v 72 [1000000001], .b 1000000002, .s], uu, uu, uu, uu, uu, uu, uu, uu, uu, uu, uu, uu, uu, uu, uu, uu, .c (.sl (.pair (.int .i64) (.int .i64)) v23 false), .c (.int .i64 v24), .c (.int .i64 v25), uu, uu, uu, uu, uu, uu, uu, uu, uu, uu, uu, uu, uu, uu, uu, uu, uu, uu, uu, uu, uu, uu, uu, uu, uu, uu, uu, uu, uu, uu, uu, uu, uu, uu, uu, uu, uu], hp := (upd (upd (upd emp 1000000001 (.box [.sl (.int .i64) u1 false])) 1000000000 (.box [.sl (.pair (.int .i64) (.int .i64)) u0 false])) 1000000002 (.box [.int .i64 u2])) } =
    L89f72io0001110_1 n SS m1 order0 a1 b2 v23 v24 (wr .i64 (v25 + 1)) u2 u0 u1 := by kernel_rfl
noncomputable def B89f72io0001110 (n : Nat × Nat) (SS : List Int → Int → Int → (List (Int × Int)) → List Int → Int → Option R89f72io0001110) (order0 : List Int) (a1 : Int) (b2 : Int) (v3 : List (Int × Int)) (cp_4_0 : List Int) (v5 : Int) : Option R89f72io0001110 := run (E89f72io0001110 n SS) c89f72io0001110 an89f72io0001110 rt89f72io0001110 (fun _ _ => none) rt89f72io0001110 { tm := [.c (.sl (.int .i64) order0 false), .c (.int .i64 a1), .c (.int .i64 b2), .ptr 1000000000 0, .fptr 72 [.b 1000000001], .ptr 1000000002 0, .fptr 89 [.b 1000000000, .v 72 [1000000001], .b 1000000002, .s], uu, uu, uu, uu, uu, uu, uu, uu, uu, uu, uu, uu, uu, uu, uu, uu, uu, uu, uu, uu, uu, uu, uu, uu, uu, uu, uu, uu, uu, uu, uu, uu, uu, uu, uu, uu, uu, uu, uu, uu, uu, uu, uu, uu, uu, uu, uu, uu, uu, uu, uu, uu, uu, uu, uu, uu], hp := (upd (upd (upd emp 1000000002 (.box [.int .i64 v5])) 1000000001 (.box [.sl (.int .i64) cp_4_0 false])) 1000000000 (.box [.sl (.pair (.int .i64) (.int .i64)) v3 false])) }
theorem B89f72io0001110_eq (n : Nat × Nat) (SS : List Int → Int → Int → (List (Int × Int)) → List Int → Int → Option R89f72io0001110) (order0 : List Int) (a1 : Int) (b2 : Int) (v3 : List (Int × Int)) (cp_4_0 : List Int) (v5 : Int) : B89f72io0001110 n SS order0 a1 b2 v3 cp_4_0 v5 =
    (bif ((order0.length : Int) == (v3.length : Int)) then (S72io01 n order0 cp_4_0).bind fun r1' =>
      some (r1'.1, v3, r1'.2.1, v5, ())
    else L89f72io0001110_1 n SS n.1 order0 a1 b2 v3 (v3.length : Int) 0 v5 v3 cp_4_0) := by kernel_rfl
noncomputable def T89f72io0001110 (n : Nat × Nat) : Nat → List Int → Int → Int → (List (Int × Int)) → List Int → Int → Option R89f72io0001110
  | 0 => fun _ _ _ _ _ _ => none
  | d + 1 => B89f72io0001110 n (T89f72io0001110 n d)
theorem T89f72io0001110_eq (n : Nat × Nat) (d : Nat) (order0 : List Int) (a1 : Int) (b2 : Int) (v3 : List (Int × Int)) (cp_4_0 : List Int) (v5 : Int) : T89f72io0001110 n (d + 1) order0 a1 b2 v3 cp_4_0 v5 = B89f72io0001110 n (T89f72io0001110 n d) order0 a1 b2 v3 cp_4_0 v5 := rfl
noncomputable def S89f72io0001110 (n : Nat × Nat) (order0 : List Int) (a1 : Int) (b2 : Int) (v3 : List (Int × Int)) (cp_4_0 : List Int) (v5 : Int) : Option R89f72io0001110 := T89f72io0001110 n n.1 order0 a1 b2 v3 cp_4_0 v5
theorem B89f72io0001110_run (n : Nat × Nat) (SS : List Int → Int → Int → (List (Int × Int)) → List Int → Int → Option R89f72io0001110) (xs : qksDen pk89f72io0001110) : B89f72io0001110 n SS xs.1 xs.2.1 xs.2.2.1 xs.2.2.2.1 xs.2.2.2.2.1.1 xs.2.2.2.2.2.1 = runG (E89f72io0001110 n SS) noScope c89f72io0001110 an89f72io0001110 (rtIO rk89f72io0001110 (pk89f72io0001110.flatMap QK.ods)) (fun _ _ => none) (rtIO rk89f72io0001110 (pk89f72io0001110.flatMap QK.ods)) (st1 pk89f72io0001110 xs Try.f89.ntmps) := by kernel_rfl
noncomputable def P89f72io0001110 (n : Nat × Nat) := phioOf pk89f72io0001110 rk89f72io0001110 (pk89f72io0001110.flatMap QK.ods) (fun xs => S89f72io0001110 n xs.1 xs.2.1 xs.2.2.1 xs.2.2.2.1 xs.2.2.2.2.1.1 xs.2.2.2.2.2.1)
theorem call89 : CallOK Try.prog 89 := callOK_of Try.func89 (by kernel_rfl) (by kernel_rfl)
theorem env89f72io0001110 (n : Nat × Nat) (SS : List Int → Int → Int → (List (Int × Int)) → List Int → Int → Option R89f72io0001110) (hSS : FCios Try.prog 89 (pk89f72io0001110.map QK.flag) (phioOf pk89f72io0001110 rk89f72io0001110 (pk89f72io0001110.flatMap QK.ods) (fun xs => SS xs.1 xs.2.1 xs.2.2.1 xs.2.2.2.1 xs.2.2.2.2.1.1 xs.2.2.2.2.2.1))) : EnvOK Try.prog (E89f72io0001110 n SS) := envOK (l := io89f72io0001110 n SS) (consPhi_ok (FC80 n) call80 noPhi_ok) rfl rfl (by kernel_rfl) ⟨FC72io01 n, call72, hSS, call89, trivial⟩
theorem par89f72io0001110 (n : Nat × Nat) (SS : List Int → Int → Int → (List (Int × Int)) → List Int → Int → Option R89f72io0001110) : EnvPar (E89f72io0001110 n SS) := envPar (l := io89f72io0001110 n SS) (consPhi_par phiOf_Par1 noPhi_par) rfl ⟨phioOf_Pario1, phioOf_Pario1, trivial⟩
theorem FCT89f72io0001110 (n : Nat × Nat) : ∀ d : Nat, FCios Try.prog 89 (pk89f72io0001110.map QK.flag) (phioOf pk89f72io0001110 rk89f72io0001110 (pk89f72io0001110.flatMap QK.ods) (fun xs => T89f72io0001110 n d xs.1 xs.2.1 xs.2.2.1 xs.2.2.2.1 xs.2.2.2.2.1.1 xs.2.2.2.2.2.1))
  | 0 => phioOf_FCios fun xs r h => by cases h
  | d + 1 => phioOf_FCios fun xs r h vs hv => FCio.of_runG tabOK eqsOK (env89f72io0001110 n (T89f72io0001110 n d) (FCT89f72io0001110 n d)) (par89f72io0001110 n (T89f72io0001110 n d)) mixed (fun _ => noScope_ok) Try.func89 (c := c89f72io0001110) (an := an89f72io0001110) (qks := pk89f72io0001110) (rks := rk89f72io0001110) (by kernel_rfl) (by kernel_rfl) hv ((B89f72io0001110_run n (T89f72io0001110 n d) xs).symm.trans h)
theorem FC89f72io0001110 (n : Nat × Nat) : FCios Try.prog 89 (pk89f72io0001110.map QK.flag) (P89f72io0001110 n) := FCT89f72io0001110 n n.1
abbrev R71c72io01 := (Unit) × (List Int) × Unit
noncomputable def c71c72io01 : Code := bodyOf Try.f71
noncomputable def an71c72io01 : Ann := .l
def pk71c72io01 : List QK := [.pl (.c (.sl (.pair (.int .i64) (.int .i64)))), .of 72 [(.sl (.int .i64))]]
def rk71c72io01 : List RK := []
noncomputable def rt71c72io01 (st : St) : Option R71c72io01 := rtIO rk71c72io01 (pk71c72io01.flatMap QK.ods) st
noncomputable def io71c72io01 (n : Nat × Nat) : List IoE := [⟨89, (fun _ => true), pk89f72io0001110.map QK.flag, P89f72io0001110 n⟩]
noncomputable def E71c72io01 (n : Nat × Nat) : Env := { T := tab, phi := (consPhi 88 (fun _ => true) (P88 n) noPhi), eff := fun _ => false, fuel := n.1, hold := n.2, phio := phioL (io71c72io01 n), iop := iopL (io71c72io01 n) }
noncomputable def S71c72io01 (n : Nat × Nat) (sheets0 : List (Int × Int)) (cp_1_0 : List Int) : Option R71c72io01 := run (E71c72io01 n) c71c72io01 an71c72io01 rt71c72io01 (fun _ _ => none) rt71c72io01 { tm := [.c (.sl (.pair (.int .i64) (.int .i64)) sheets0 false), .fn 72 [.ptr 1000000000 0], uu, uu, uu, uu, uu, uu, uu, uu, uu], hp := (upd emp 1000000000 (.box [.sl (.int .i64) cp_1_0 false])) }
theorem S71c72io01_eq (n : Nat × Nat) (sheets0 : List (Int × Int)) (cp_1_0 : List Int) : S71c72io01 n sheets0 cp_1_0 =
    (S88 n sheets0).bind fun r1' =>
    (S89f72io0001110 n [] 0 0 sheets0 cp_1_0 r1').bind fun r2' =>
    some ((), r2'.2.2.1, ()) := by kernel_rfl
theorem S71c72io01_run (n : Nat × Nat) (xs : qksDen pk71c72io01) : S71c72io01 n xs.1 xs.2.1.1 = runG (E71c72io01 n) noScope c71c72io01 an71c72io01 (rtIO rk71c72io01 (pk71c72io01.flatMap QK.ods)) (fun _ _ => none) (rtIO rk71c72io01 (pk71c72io01.flatMap QK.ods)) (st1 pk71c72io01 xs Try.f71.ntmps) := by kernel_rfl
noncomputable def P71c72io01 (n : Nat × Nat) := phioOf pk71c72io01 rk71c72io01 (pk71c72io01.flatMap QK.ods) (fun xs => S71c72io01 n xs.1 xs.2.1.1)
theorem call71 : CallOK Try.prog 71 := callOK_of Try.func71 (by kernel_rfl) (by kernel_rfl)
theorem env71c72io01 (n : Nat × Nat) : EnvOK Try.prog (E71c72io01 n) := envOK (l := io71c72io01 n) (consPhi_ok (FC88 n) call88 noPhi_ok) rfl rfl (by kernel_rfl) ⟨FC89f72io0001110 n, call89, trivial⟩
theorem par71c72io01 (n : Nat × Nat) : EnvPar (E71c72io01 n) := envPar (l := io71c72io01 n) (consPhi_par phiOf_Par1 noPhi_par) rfl ⟨phioOf_Pario1, trivial⟩
theorem FC71c72io01 (n : Nat × Nat) : FCios Try.prog 71 (pk71c72io01.map QK.flag) (P71c72io01 n) := phioOf_FCios fun xs r h vs hv => FCio.of_runG tabOK eqsOK (env71c72io01 n) (par71c72io01 n) mixed (fun _ => noScope_ok) Try.func71 (c := c71c72io01) (an := an71c72io01) (qks := pk71c72io01) (rks := rk71c72io01) (by kernel_rfl) (by kernel_rfl) hv ((S71c72io01_run n xs).symm.trans h)
abbrev R29 := List Int × Int
noncomputable def c29 : Code := bodyOf Try.f29
noncomputable def an29 : Ann := (.s .l (.s (.s .l (.s .l (.j [0] .l .l))) .l))
def pk29 : List PK := [.c (.sl (.pair (.int .i64) (.int .i64)))]
def rk29 : List RK := [.sl (.int .i64) 2, .c (.int .i64) 3]
noncomputable def rt29 (st : St) : Option R29 := rtG rk29 st
noncomputable def io29 (n : Nat × Nat) : List IoE := [⟨71, (isFns [none, some 72]), pk71c72io01.map QK.flag, P71c72io01 n⟩]
noncomputable def E29 (n : Nat × Nat) : Env := { T := tab, phi := (consPhi 25 (fun _ => true) (P25 n) noPhi), eff := fun _ => false, fuel := n.1, hold := n.2, phio := phioL (io29 n), iop := iopL (io29 n) }
noncomputable def kq29_1 (n : Nat × Nat) : St → Option R29 := run (E29 n) (cB (cB c29)) (Ann.snd (Ann.snd an29)) rt29 (fun _ _ => none) rt29
noncomputable def kc29_2 (n : Nat × Nat) : St → Option R29 := fun s => normC [0] s (kq29_1 n)
noncomputable def S29 (n : Nat × Nat) (sheets0 : List (Int × Int)) : Option R29 := run (E29 n) c29 an29 rt29 (fun _ _ => none) rt29 { tm := [.c (.sl (.pair (.int .i64) (.int .i64)) sheets0 false), uu, uu, uu, uu, uu, uu, uu, uu, uu, uu, uu, uu, uu, uu], hp := emp }
theorem S29_eq (n : Nat × Nat) (sheets0 : List (Int × Int)) : S29 n sheets0 =
    (S25 n sheets0).bind fun r1' =>
    (bif (r1' != 0) then some ([], r1')
    else (S71c72io01 n sheets0 []).bind fun r2' =>
      some (r2'.2.1, 0)) := by kernel_rfl
theorem S29_run (n : Nat × Nat) (xs : pksDen pk29) : S29 n xs.1 = runG (E29 n) noScope c29 an29 (rtG rk29) (fun _ _ => none) (rtG rk29) (st0 pk29 xs Try.f29.ntmps) := by kernel_rfl
noncomputable def P29 (n : Nat × Nat) := phiOf pk29 rk29 (fun xs => S29 n xs.1)
theorem call29 : CallOK Try.prog 29 := callOK_of Try.func29 (by kernel_rfl) (by kernel_rfl)
theorem env29 (n : Nat × Nat) : EnvOK Try.prog (E29 n) := envOK (l := io29 n) (consPhi_ok (FC25 n) call25 noPhi_ok) rfl rfl (by kernel_rfl) ⟨FC71c72io01 n, call71, trivial⟩
theorem par29 (n : Nat × Nat) : EnvPar (E29 n) := envPar (l := io29 n) (consPhi_par phiOf_Par1 noPhi_par) rfl ⟨phioOf_Pario1, trivial⟩
theorem FC29 (n : Nat × Nat) : FCs Try.prog 29 (P29 n) := phiOf_FCs fun xs r h vs hv => FC.of_runG tabOK eqsOK (env29 n) (par29 n) mixed (fun _ => noScope_ok) Try.func29 (c := c29) (an := an29) (pks := pk29) (rks := rk29) (by kernel_rfl) (by kernel_rfl) hv ((S29_run n xs).symm.trans h)
abbrev R74io01 := (Bool) × Int × Unit
noncomputable def c74io01 : Code := bodyOf Try.f74
noncomputable def an74io01 : Ann := .l
def pk74io01 : List QK := [.pl (.c (.sl (.int .i64))), .ob (.int .i64)]
def rk74io01 : List RK := [.c .bool 3]
noncomputable def rt74io01 (st : St) : Option R74io01 := rtIO rk74io01 (pk74io01.flatMap QK.ods) st
noncomputable def E74io01 (n : Nat × Nat) : Env := { T := tab, phi := noPhi, eff := fun _ => false, fuel := n.1, hold := n.2 }
noncomputable def S74io01 (n : Nat × Nat) (v0 : List Int) (v1 : Int) : Option R74io01 := run (E74io01 n) c74io01 an74io01 rt74io01 (fun _ _ => none) rt74io01 { tm := [.c (.sl (.int .i64) v0 false), .ptr 1000000000 0, uu, uu, uu, uu], hp := (upd emp 1000000000 (.box [.int .i64 v1])) }
theorem S74io01_eq (n : Nat × Nat) (v0 : List Int) (v1 : Int) : S74io01 n v0 v1 =
    some (true, wr .i64 (v1 + 1), ()) := by kernel_rfl
theorem S74io01_run (n : Nat × Nat) (xs : qksDen pk74io01) : S74io01 n xs.1 xs.2.1 = runG (E74io01 n) noScope c74io01 an74io01 (rtIO rk74io01 (pk74io01.flatMap QK.ods)) (fun _ _ => none) (rtIO rk74io01 (pk74io01.flatMap QK.ods)) (st1 pk74io01 xs Try.f74.ntmps) := by kernel_rfl
noncomputable def P74io01 (n : Nat × Nat) := phioOf pk74io01 rk74io01 (pk74io01.flatMap QK.ods) (fun xs => S74io01 n xs.1 xs.2.1)
theorem call74 : CallOK Try.prog 74 := callOK_of Try.func74 (by kernel_rfl) (by kernel_rfl)
theorem env74io01 (n : Nat × Nat) : EnvOK Try.prog (E74io01 n) := envOK0 noPhi_ok rfl rfl
theorem par74io01 (n : Nat × Nat) : EnvPar (E74io01 n) := envPar0 noPhi_par rfl
theorem FC74io01 (n : Nat × Nat) : FCios Try.prog 74 (pk74io01.map QK.flag) (P74io01 n) := phioOf_FCios fun xs r h vs hv => FCio.of_runG tabOK eqsOK (env74io01 n) (par74io01 n) mixed (fun _ => noScope_ok) Try.func74 (c := c74io01) (an := an74io01) (qks := pk74io01) (rks := rk74io01) (by kernel_rfl) (by kernel_rfl) hv ((S74io01_run n xs).symm.trans h)
abbrev R89f74io0001110 := (Bool) × (List (Int × Int)) × Int × Int × Unit
noncomputable def c89f74io0001110 : Code := bodyOf Try.f89
noncomputable def an89f74io0001110 : Ann := (.s .l (.s (.s .l (.j [0, 1, 2, 3, 5, 6, 47, 48, 49, 50, 51, 52, 53, 54, 55, 56, 57, 58, 59, 60, 1000000000, 1000000001, 1000000002] .l .l)) (.s (.s .l (.j [1000000000, 1000000001, 1000000002] (.j [0, 1, 2, 5, 6, 23, 24, 25, 47, 48, 49, 50, 51, 52, 53, 54, 55, 56, 57, 58, 59, 60, 1000000000, 1000000001, 1000000002] (.s .l (.s (.j [0, 1, 2, 5, 6, 23, 24, 25, 47, 48, 49, 50, 51, 52, 53, 54, 55, 56, 57, 58, 59, 60, 1000000000, 1000000001, 1000000002] .l .l) (.j [] (.j [0, 1, 2, 5, 6, 23, 24, 25, 47, 48, 49, 50, 51, 52, 53, 54, 55, 56, 57, 58, 59, 60, 1000000000, 1000000001, 1000000002] (.s .l (.s (.s .l (.j [0, 1, 2, 5, 6, 11, 12, 23, 24, 25, 47, 48, 49, 50, 51, 52, 53, 54, 55, 56, 57, 58, 59, 60, 1000000000, 1000000001, 1000000002] .l .l)) (.s .l (.s .l (.s .l (.j [0, 1, 2, 5, 6, 23, 24, 25, 47, 48, 49, 50, 51, 52, 53, 54, 55, 56, 57, 58, 59, 60, 1000000000, 1000000001, 1000000002] .l .l)))))) .l) .l))) .l) .l)) .l)))
def pk89f74io0001110 : List QK := [.pl (.c (.sl (.int .i64))), .pl (.c (.int .i64)), .pl (.c (.int .i64)), .ob (.sl (.pair (.int .i64) (.int .i64))), .fp 74 [(.int .i64)], .ob (.int .i64), .sf 89 [.b 1000000000, .v 74 [1000000001], .b 1000000002, .s]]
def rk89f74io0001110 : List RK := [.c .bool 10]
noncomputable def rt89f74io0001110 (st : St) : Option R89f74io0001110 := rtIO rk89f74io0001110 (pk89f74io0001110.flatMap QK.ods) st
noncomputable def io89f74io0001110 (n : Nat × Nat) (SS : List Int → Int → Int → (List (Int × Int)) → Int → Int → Option R89f74io0001110) : List IoE := [⟨74, (fun _ => true), pk74io01.map QK.flag, P74io01 n⟩, ⟨89, (fun _ => true), pk89f74io0001110.map QK.flag, (phioOf pk89f74io0001110 rk89f74io0001110 (pk89f74io0001110.flatMap QK.ods) (fun xs => SS xs.1 xs.2.1 xs.2.2.1 xs.2.2.2.1 xs.2.2.2.2.1.1 xs.2.2.2.2.2.1))⟩]
noncomputable def E89f74io0001110 (n : Nat × Nat) (SS : List Int → Int → Int → (List (Int × Int)) → Int → Int → Option R89f74io0001110) : Env := { T := tab, phi := (consPhi 80 (fun _ => true) (P80 n) noPhi), eff := fun _ => false, fuel := n.1, hold := n.2, phio := phioL (io89f74io0001110 n SS), iop := iopL (io89f74io0001110 n SS) }
noncomputable def kq89f74io0001110_1 (n : Nat × Nat) (SS : List Int → Int → Int → (List (Int × Int)) → Int → Int → Option R89f74io0001110) : St → Option R89f74io0001110 := run (E89f74io0001110 n SS) (cB (cB c89f74io0001110)) (Ann.snd (Ann.snd an89f74io0001110)) rt89f74io0001110 (fun _ _ => none) rt89f74io0001110
noncomputable def kc89f74io0001110_2 (n : Nat × Nat) (SS : List Int → Int → Int → (List (Int × Int)) → Int → Int → Option R89f74io0001110) : St → Option R89f74io0001110 := fun s => normC [0, 1, 2, 3, 5, 6, 47, 48, 49, 50, 51, 52, 53, 54, 55, 56, 57, 58, 59, 60, 1000000000, 1000000001, 1000000002] s (kq89f74io0001110_1 n SS)
noncomputable def kq89f74io0001110_3 (n : Nat × Nat) (SS : List Int → Int → Int → (List (Int × Int)) → Int → Int → Option R89f74io0001110) : St → Option R89f74io0001110 := run (E89f74io0001110 n SS) (cB (cB (cB c89f74io0001110))) (Ann.snd (Ann.snd (Ann.snd an89f74io0001110))) rt89f74io0001110 (fun _ _ => none) rt89f74io0001110
noncomputable def kc89f74io0001110_4 (n : Nat × Nat) (SS : List Int → Int → Int → (List (Int × Int)) → Int → Int → Option R89f74io0001110) : St → Option R89f74io0001110 := fun s => normC [1000000000, 1000000001, 1000000002] s (kq89f74io0001110_3 n SS)
noncomputable def xb89f74io0001110_5 (n : Nat × Nat) (SS : List Int → Int → Int → (List (Int × Int)) → Int → Int → Option R89f74io0001110) : Nat → St → Option R89f74io0001110 := fun j s => bif Nat.beq j 0 then normC [1000000000, 1000000001, 1000000002] s (kq89f74io0001110_3 n SS) else (fun _ _ => none) j s
noncomputable def F89f74io0001110_6 (n : Nat × Nat) (SS : List Int → Int → Int → (List (Int × Int)) → Int → Int → Option R89f74io0001110) : (St → Option R89f74io0001110) → St → Option R89f74io0001110 := fun K s => run (E89f74io0001110 n SS) (cA (cA (cB (cA (cB (cB c89f74io0001110)))))) (Ann.fst (Ann.fst (Ann.snd (Ann.fst (Ann.snd (Ann.snd an89f74io0001110)))))) (fun s => normC [0, 1, 2, 5, 6, 23, 24, 25, 47, 48, 49, 50, 51, 52, 53, 54, 55, 56, 57, 58, 59, 60, 1000000000, 1000000001, 1000000002] s K) (xb89f74io0001110_5 n SS) rt89f74io0001110 s
noncomputable def kq89f74io0001110_7 (n : Nat × Nat) (SS : List Int → Int → Int → (List (Int × Int)) → Int → Int → Option R89f74io0001110) (m1 : Nat) : St → Option R89f74io0001110 := run (E89f74io0001110 n SS) (cB (cB (cA (cA (cB (cA (cB (cB c89f74io0001110)))))))) (Ann.snd (Ann.snd (Ann.fst (Ann.fst (Ann.snd (Ann.fst (Ann.snd (Ann.snd an89f74io0001110)))))))) (fun s => normC [0, 1, 2, 5, 6, 23, 24, 25, 47, 48, 49, 50, 51, 52, 53, 54, 55, 56, 57, 58, 59, 60, 1000000000, 1000000001, 1000000002] s (loopN (F89f74io0001110_6 n SS) m1)) (xb89f74io0001110_5 n SS) rt89f74io0001110
noncomputable def kc89f74io0001110_8 (n : Nat × Nat) (SS : List Int → Int → Int → (List (Int × Int)) → Int → Int → Option R89f74io0001110) (m1 : Nat) : St → Option R89f74io0001110 := fun s => normC [0, 1, 2, 5, 6, 23, 24, 25, 47, 48, 49, 50, 51, 52, 53, 54, 55, 56, 57, 58, 59, 60, 1000000000, 1000000001, 1000000002] s (kq89f74io0001110_7 n SS m1)
noncomputable def kq89f74io0001110_9 (n : Nat × Nat) (SS : List Int → Int → Int → (List (Int × Int)) → Int → Int → Option R89f74io0001110) (m1 : Nat) : St → Option R89f74io0001110 := run (E89f74io0001110 n SS) (cB (cB (cB (cA (cA (cB (cA (cB (cB c89f74io0001110))))))))) (Ann.snd (Ann.snd (Ann.snd (Ann.fst (Ann.fst (Ann.snd (Ann.fst (Ann.snd (Ann.snd an89f74io0001110))))))))) (fun s => normC [0, 1, 2, 5, 6, 23, 24, 25, 47, 48, 49, 50, 51, 52, 53, 54, 55, 56, 57, 58, 59, 60, 1000000000, 1000000001, 1000000002] s (loopN (F89f74io0001110_6 n SS) m1)) (xb89f74io0001110_5 n SS) rt89f74io0001110
noncomputable def kc89f74io0001110_10 (n : Nat × Nat) (SS : List Int → Int → Int → (List (Int × Int)) → Int → Int → Option R89f74io0001110) (m1 : Nat) : St → Option R89f74io0001110 := fun s => normC [0, 1, 2, 5, 6, 23, 24, 25, 47, 48, 49, 50, 51, 52, 53, 54, 55, 56, 57, 58, 59, 60, 1000000000, 1000000001, 1000000002] s (loopN (fun _ => (kq89f74io0001110_9 n SS m1)) n.2)
noncomputable def xb89f74io0001110_11 (n : Nat × Nat) (SS : List Int → Int → Int → (List (Int × Int)) → Int → Int → Option R89f74io0001110) (m1 : Nat) : Nat → St → Option R89f74io0001110 := fun j s => bif Nat.beq j 1 then normC [0, 1, 2, 5, 6, 23, 24, 25, 47, 48, 49, 50, 51, 52, 53, 54, 55, 56, 57, 58, 59, 60, 1000000000, 1000000001, 1000000002] s (loopN (fun _ => (kq89f74io0001110_9 n SS m1)) n.2) else (xb89f74io0001110_5 n SS) j s
noncomputable def kq89f74io0001110_12 (n : Nat × Nat) (SS : List Int → Int → Int → (List (Int × Int)) → Int → Int → Option R89f74io0001110) (m1 : Nat) : St → Option R89f74io0001110 := run (E89f74io0001110 n SS) (cB (cB (cA (cA (cB (cB (cA (cA (cB (cA (cB (cB c89f74io0001110)))))))))))) (Ann.snd (Ann.snd (Ann.fst (Ann.fst (Ann.snd (Ann.snd (Ann.fst (Ann.fst (Ann.snd (Ann.fst (Ann.snd (Ann.snd an89f74io0001110)))))))))))) (kc89f74io0001110_10 n SS m1) (xb89f74io0001110_11 n SS m1) rt89f74io0001110
noncomputable def kc89f74io0001110_13 (n : Nat × Nat) (SS : List Int → Int → Int → (List (Int × Int)) → Int → Int → Option R89f74io0001110) (m1 : Nat) : St → Option R89f74io0001110 := fun s => normC [0, 1, 2, 5, 6, 11, 12, 23, 24, 25, 47, 48, 49, 50, 51, 52, 53, 54, 55, 56, 57, 58, 59, 60, 1000000000, 1000000001, 1000000002] s (kq89f74io0001110_12 n SS m1)
noncomputable def kc89f74io0001110_14 (n : Nat × Nat) (SS : List Int → Int → Int → (List (Int × Int)) → Int → Int → Option R89f74io0001110) (m1 : Nat) : St → Option R89f74io0001110 := fun s => normC [0, 1, 2, 5, 6, 23, 24, 25, 47, 48, 49, 50, 51, 52, 53, 54, 55, 56, 57, 58, 59, 60, 1000000000, 1000000001, 1000000002] s (kc89f74io0001110_10 n SS m1)
noncomputable def L89f74io0001110_1 (n : Nat × Nat) (SS : List Int → Int → Int → (List (Int × Int)) → Int → Int → Option R89f74io0001110) (m : Nat) (order0 : List Int) (a1 : Int) (b2 : Int) (v23 : List (Int × Int)) (v24 : Int) (v25 : Int) (u2 : Int) (u0 : List (Int × Int)) (u1 : Int) : Option R89f74io0001110 := loopN (F89f74io0001110_6 n SS) m { tm := [.c (.sl (.int .i64) order0 false), .c (.int .i64 a1), .c (.int .i64 b2), uu, uu, .ptr 1000000002 0, .fptr 89 [.b 1000000000, .v 74 [1000000001], .b 1000000002, .s], uu, uu, uu, uu, uu, uu, uu, uu, uu, uu, uu, uu, uu, uu, uu, uu, .c (.sl (.pair (.int .i64) (.int .i64)) v23 false), .c (.int .i64 v24), .c (.int .i64 v25), uu, uu, uu, uu, uu, uu, uu, uu, uu, uu, uu, uu, uu, uu, uu, uu, uu, uu, uu, uu, uu, uu, uu, uu, uu, uu, uu, uu, uu, uu, uu, uu, uu, uu, uu, uu, uu], hp := (upd (upd (upd emp 1000000001 (.box [.int .i64 u1])) 1000000000 (.box [.sl (.pair (.int .i64) (.int .i64)) u0 false])) 1000000002 (.box [.int .i64 u2])) }
noncomputable def L89f74io0001110_2 (n : Nat × Nat) (SS : List Int → Int → Int → (List (Int × Int)) → Int → Int → Option R89f74io0001110) (m1 : Nat) (order0 : List Int) (a1 : Int) (b2 : Int) (v23 : List (Int × Int)) (v24 : Int) (v25 : Int) (u2 : Int) (u0 : List (Int × Int)) (u1 : Int) : Option R89f74io0001110 := loopN (fun _ => (kq89f74io0001110_9 n SS m1)) n.2 { tm := [.c (.sl (.int .i64) order0 false), .c (.int .i64 a1), .c (.int .i64 b2), uu, uu, .ptr 1000000002 0, .fptr 89 [.b 1000000000, .v 74 [1000000001], .b 1000000002, .s], uu, uu, uu, uu, uu, uu, uu, uu, uu, uu, uu, uu, uu, uu, uu, uu, .c (.sl (.pair (.int .i64) (.int .i64)) v23 false), .c (.int .i64 v24), .c (.int .i64 v25), uu, uu, uu, uu, uu, uu, uu, uu, uu, uu, uu, uu, uu, uu, uu, uu, uu, uu, uu, uu, uu, uu, uu, uu, uu, uu, uu, uu, uu, uu, uu, uu, uu, uu, uu, uu, uu], hp := (upd (upd (upd emp 1000000001 (.box [.int .i64 u1])) 1000000000 (.box [.sl (.pair (.int .i64) (.int .i64)) u0 false])) 1000000002 (.box [.int .i64 u2])) }
theorem L89f74io0001110_1_eq (n : Nat × Nat) (SS : List Int → Int → Int → (List (Int × Int)) → Int → Int → Option R89f74io0001110) (m1 : Nat) (order0 : List Int) (a1 : Int) (b2 : Int) (v23 : List (Int × Int)) (v24 : Int) (v25 : Int) (u2 : Int) (u0 : List (Int × Int)) (u1 : Int) : L89f74io0001110_1 n SS (m1 + 1) order0 a1 b2 v23 v24 v25 u2 u0 u1 =
    (bif decide (v25 < v24) then (idx v23 v25).bind fun x2' =>
      (S80 n order0 v25).bind fun r3' =>
      (bif r3' then L89f74io0001110_2 n SS m1 order0 a1 b2 v23 v24 v25 u2 u0 u1
      else (bif (decide (wr .i64 ((if b2 > (wr .i64 (a1 + x2'.1)) then b2 else (wr .i64 (a1 + x2'.1))) + x2'.2) ≤ u2) == true) then (bif ((order0.length : Int) == (order0.length : Int)) && bounds none (some (order0.length : Int)) (some (order0.length : Int)) order0.length then (bif decide ((order0.take (Int.toNat (order0.length : Int))).length + [v25].length ≤ lim) && ((order0.take (Int.toNat (order0.length : Int))).isEmpty || ![v25].isEmpty) then (SS ((order0.take (Int.toNat (order0.length : Int))) ++ [v25]) (wr .i64 (a1 + x2'.1)) (wr .i64 ((if b2 > (wr .i64 (a1 + x2'.1)) then b2 else (wr .i64 (a1 + x2'.1))) + x2'.2)) u0 u1 u2).bind fun r5' =>
              (bif (!r5'.1) then some (false, r5'.2.1, r5'.2.2.1, r5'.2.2.2.1, ())
              else L89f74io0001110_2 n SS m1 order0 a1 b2 v23 v24 v25 r5'.2.2.2.1 r5'.2.1 r5'.2.2.1)
            else none)
          else none)
        else (bif false then some (false, u0, u1, u2, ())
          else L89f74io0001110_2 n SS m1 order0 a1 b2 v23 v24 v25 u2 u0 u1)))
    else some (true, u0, u1, u2, ())) := by kernel_rfl
theorem L89f74io0001110_2_raw (n : Nat × Nat) (SS : List Int → Int → Int → (List (Int × Int)) → Int → Int → Option R89f74io0001110) (m1 : Nat) (order0 : List Int) (a1 : Int) (b2 : Int) (v23 : List (Int × Int)) (v24 : Int) (v25 : Int) (u2 : Int) (u0 : List (Int × Int)) (u1 : Int) : (kq89f74io0001110_9 n SS m1) { tm := [.c (.sl (.int .i64) order0 false), .c (.int .i64 a1), .c (.int .i64 b2), uu, uu, .ptr 1000000002 0, .fptr 89 [.b 1000000000, .v 74 [1000000001], .b 1000000002, .s], uu, uu, uu, uu, uu, uu, uu, uu, uu, uu, uu, uu, uu, uu, uu, uu, .c (.sl (.pair (.int .i64) (.int .i64)) v23 false), .c (.int .i64 v24), .c (.int .i64 v25), uu, uu, uu, uu, uu, uu, uu, uu, uu, uu, uu, uu, uu, uu, uu, uu, uu, uu, uu, uu, uu, uu, uu, uu, uu, uu, uu, uu, uu, uu, uu, uu, uu, uu, uu, uu, uu], hp := (upd (upd (upd emp 1000000001 (.box [.int .i64 u1])) 1000000000 (.box [.sl (.pair (.int .i64) (.int .i64)) u0 false])) 1000000002 (.box [.int .i64 u2])) } =
    L89f74io0001110_1 n SS m1 order0 a1 b2 v23 v24 (wr .i64 (v25 + 1)) u2 u0 u1 := by kernel_rfl
noncomputable def B89f74io0001110 (n : Nat × Nat) (SS : List Int → Int → Int → (List (Int × Int)) → Int → Int → Option R89f74io0001110) (order0 : List Int) (a1 : Int) (b2 : Int) (v3 : List (Int × Int)) (cp_4_0 : Int) (v5 : Int) : Option R89f74io0001110 := run (E89f74io0001110 n SS) c89f74io0001110 an89f74io0001110 rt89f74io0001110 (fun _ _ => none) rt89f74io0001110 { tm := [.c (.sl (.int .i64) order0 false), .c (.int .i64 a1), .c (.int .i64 b2), .ptr 1000000000 0, .fptr 74 [.b 1000000001], .ptr 1000000002 0, .fptr 89 [.b 1000000000, .v 74 [1000000001], .b 1000000002, .s], uu, uu, uu, uu, uu, uu, uu, uu, uu, uu, uu, uu, uu, uu, uu, uu, uu, uu, uu, uu, uu, uu, uu, uu, uu, uu, uu, uu, uu, uu, uu, uu, uu, uu, uu, uu, uu, uu, uu, uu, uu, uu, uu, uu, uu, uu, uu, uu, uu, uu, uu, uu, uu, uu, uu, uu], hp := (upd (upd (upd emp 1000000002 (.box [.int .i64 v5])) 1000000001 (.box [.int .i64 cp_4_0])) 1000000000 (.box [.sl (.pair (.int .i64) (.int .i64)) v3 false])) }
theorem B89f74io0001110_eq (n : Nat × Nat) (SS : List Int → Int → Int → (List (Int × Int)) → Int → Int → Option R89f74io0001110) (order0 : List Int) (a1 : Int) (b2 : Int) (v3 : List (Int × Int)) (cp_4_0 : Int) (v5 : Int) : B89f74io0001110 n SS order0 a1 b2 v3 cp_4_0 v5 =
    (bif ((order0.length : Int) == (v3.length : Int)) then (S74io01 n order0 cp_4_0).bind fun r1' =>
      some (r1'.1, v3, r1'.2.1, v5, ())
    else L89f74io0001110_1 n SS n.1 order0 a1 b2 v3 (v3.length : Int) 0 v5 v3 cp_4_0) := by kernel_rfl
noncomputable def T89f74io0001110 (n : Nat × Nat) : Nat → List Int → Int → Int → (List (Int × Int)) → Int → Int → Option R89f74io0001110
  | 0 => fun _ _ _ _ _ _ => none
  | d + 1 => B89f74io0001110 n (T89f74io0001110 n d)
theorem T89f74io0001110_eq (n : Nat × Nat) (d : Nat) (order0 : List Int) (a1 : Int) (b2 : Int) (v3 : List (Int × Int)) (cp_4_0 : Int) (v5 : Int) : T89f74io0001110 n (d + 1) order0 a1 b2 v3 cp_4_0 v5 = B89f74io0001110 n (T89f74io0001110 n d) order0 a1 b2 v3 cp_4_0 v5 := rfl
noncomputable def S89f74io0001110 (n : Nat × Nat) (order0 : List Int) (a1 : Int) (b2 : Int) (v3 : List (Int × Int)) (cp_4_0 : Int) (v5 : Int) : Option R89f74io0001110 := T89f74io0001110 n n.1 order0 a1 b2 v3 cp_4_0 v5
theorem B89f74io0001110_run (n : Nat × Nat) (SS : List Int → Int → Int → (List (Int × Int)) → Int → Int → Option R89f74io0001110) (xs : qksDen pk89f74io0001110) : B89f74io0001110 n SS xs.1 xs.2.1 xs.2.2.1 xs.2.2.2.1 xs.2.2.2.2.1.1 xs.2.2.2.2.2.1 = runG (E89f74io0001110 n SS) noScope c89f74io0001110 an89f74io0001110 (rtIO rk89f74io0001110 (pk89f74io0001110.flatMap QK.ods)) (fun _ _ => none) (rtIO rk89f74io0001110 (pk89f74io0001110.flatMap QK.ods)) (st1 pk89f74io0001110 xs Try.f89.ntmps) := by kernel_rfl
noncomputable def P89f74io0001110 (n : Nat × Nat) := phioOf pk89f74io0001110 rk89f74io0001110 (pk89f74io0001110.flatMap QK.ods) (fun xs => S89f74io0001110 n xs.1 xs.2.1 xs.2.2.1 xs.2.2.2.1 xs.2.2.2.2.1.1 xs.2.2.2.2.2.1)
theorem env89f74io0001110 (n : Nat × Nat) (SS : List Int → Int → Int → (List (Int × Int)) → Int → Int → Option R89f74io0001110) (hSS : FCios Try.prog 89 (pk89f74io0001110.map QK.flag) (phioOf pk89f74io0001110 rk89f74io0001110 (pk89f74io0001110.flatMap QK.ods) (fun xs => SS xs.1 xs.2.1 xs.2.2.1 xs.2.2.2.1 xs.2.2.2.2.1.1 xs.2.2.2.2.2.1))) : EnvOK Try.prog (E89f74io0001110 n SS) := envOK (l := io89f74io0001110 n SS) (consPhi_ok (FC80 n) call80 noPhi_ok) rfl rfl (by kernel_rfl) ⟨FC74io01 n, call74, hSS, call89, trivial⟩
theorem par89f74io0001110 (n : Nat × Nat) (SS : List Int → Int → Int → (List (Int × Int)) → Int → Int → Option R89f74io0001110) : EnvPar (E89f74io0001110 n SS) := envPar (l := io89f74io0001110 n SS) (consPhi_par phiOf_Par1 noPhi_par) rfl ⟨phioOf_Pario1, phioOf_Pario1, trivial⟩
theorem FCT89f74io0001110 (n : Nat × Nat) : ∀ d : Nat, FCios Try.prog 89 (pk89f74io0001110.map QK.flag) (phioOf pk89f74io0001110 rk89f74io0001110 (pk89f74io0001110.flatMap QK.ods) (fun xs => T89f74io0001110 n d xs.1 xs.2.1 xs.2.2.1 xs.2.2.2.1 xs.2.2.2.2.1.1 xs.2.2.2.2.2.1))
  | 0 => phioOf_FCios fun xs r h => by cases h
  | d + 1 => phioOf_FCios fun xs r h vs hv => FCio.of_runG tabOK eqsOK (env89f74io0001110 n (T89f74io0001110 n d) (FCT89f74io0001110 n d)) (par89f74io0001110 n (T89f74io0001110 n d)) mixed (fun _ => noScope_ok) Try.func89 (c := c89f74io0001110) (an := an89f74io0001110) (qks := pk89f74io0001110) (rks := rk89f74io0001110) (by kernel_rfl) (by kernel_rfl) hv ((B89f74io0001110_run n (T89f74io0001110 n d) xs).symm.trans h)
theorem FC89f74io0001110 (n : Nat × Nat) : FCios Try.prog 89 (pk89f74io0001110.map QK.flag) (P89f74io0001110 n) := FCT89f74io0001110 n n.1
abbrev R71c74io01 := (Unit) × Int × Unit
noncomputable def c71c74io01 : Code := bodyOf Try.f71
noncomputable def an71c74io01 : Ann := .l
def pk71c74io01 : List QK := [.pl (.c (.sl (.pair (.int .i64) (.int .i64)))), .of 74 [(.int .i64)]]
def rk71c74io01 : List RK := []
noncomputable def rt71c74io01 (st : St) : Option R71c74io01 := rtIO rk71c74io01 (pk71c74io01.flatMap QK.ods) st
noncomputable def io71c74io01 (n : Nat × Nat) : List IoE := [⟨89, (fun _ => true), pk89f74io0001110.map QK.flag, P89f74io0001110 n⟩]
noncomputable def E71c74io01 (n : Nat × Nat) : Env := { T := tab, phi := (consPhi 88 (fun _ => true) (P88 n) noPhi), eff := fun _ => false, fuel := n.1, hold := n.2, phio := phioL (io71c74io01 n), iop := iopL (io71c74io01 n) }
noncomputable def S71c74io01 (n : Nat × Nat) (sheets0 : List (Int × Int)) (cp_1_0 : Int) : Option R71c74io01 := run (E71c74io01 n) c71c74io01 an71c74io01 rt71c74io01 (fun _ _ => none) rt71c74io01 { tm := [.c (.sl (.pair (.int .i64) (.int .i64)) sheets0 false), .fn 74 [.ptr 1000000000 0], uu, uu, uu, uu, uu, uu, uu, uu, uu], hp := (upd emp 1000000000 (.box [.int .i64 cp_1_0])) }
theorem S71c74io01_eq (n : Nat × Nat) (sheets0 : List (Int × Int)) (cp_1_0 : Int) : S71c74io01 n sheets0 cp_1_0 =
    (S88 n sheets0).bind fun r1' =>
    (S89f74io0001110 n [] 0 0 sheets0 cp_1_0 r1').bind fun r2' =>
    some ((), r2'.2.2.1, ()) := by kernel_rfl
theorem S71c74io01_run (n : Nat × Nat) (xs : qksDen pk71c74io01) : S71c74io01 n xs.1 xs.2.1.1 = runG (E71c74io01 n) noScope c71c74io01 an71c74io01 (rtIO rk71c74io01 (pk71c74io01.flatMap QK.ods)) (fun _ _ => none) (rtIO rk71c74io01 (pk71c74io01.flatMap QK.ods)) (st1 pk71c74io01 xs Try.f71.ntmps) := by kernel_rfl
noncomputable def P71c74io01 (n : Nat × Nat) := phioOf pk71c74io01 rk71c74io01 (pk71c74io01.flatMap QK.ods) (fun xs => S71c74io01 n xs.1 xs.2.1.1)
theorem env71c74io01 (n : Nat × Nat) : EnvOK Try.prog (E71c74io01 n) := envOK (l := io71c74io01 n) (consPhi_ok (FC88 n) call88 noPhi_ok) rfl rfl (by kernel_rfl) ⟨FC89f74io0001110 n, call89, trivial⟩
theorem par71c74io01 (n : Nat × Nat) : EnvPar (E71c74io01 n) := envPar (l := io71c74io01 n) (consPhi_par phiOf_Par1 noPhi_par) rfl ⟨phioOf_Pario1, trivial⟩
theorem FC71c74io01 (n : Nat × Nat) : FCios Try.prog 71 (pk71c74io01.map QK.flag) (P71c74io01 n) := phioOf_FCios fun xs r h vs hv => FCio.of_runG tabOK eqsOK (env71c74io01 n) (par71c74io01 n) mixed (fun _ => noScope_ok) Try.func71 (c := c71c74io01) (an := an71c74io01) (qks := pk71c74io01) (rks := rk71c74io01) (by kernel_rfl) (by kernel_rfl) hv ((S71c74io01_run n xs).symm.trans h)
abbrev R31 := Int × Int
noncomputable def c31 : Code := bodyOf Try.f31
noncomputable def an31 : Ann := (.s .l (.s (.s .l (.s .l (.j [0] .l .l))) .l))
def pk31 : List PK := [.c (.sl (.pair (.int .i64) (.int .i64)))]
def rk31 : List RK := [.c (.int .i64) 2, .c (.int .i64) 3]
noncomputable def rt31 (st : St) : Option R31 := rtG rk31 st
noncomputable def io31 (n : Nat × Nat) : List IoE := [⟨71, (isFns [none, some 74]), pk71c74io01.map QK.flag, P71c74io01 n⟩]
noncomputable def E31 (n : Nat × Nat) : Env := { T := tab, phi := (consPhi 25 (fun _ => true) (P25 n) noPhi), eff := fun _ => false, fuel := n.1, hold := n.2, phio := phioL (io31 n), iop := iopL (io31 n) }
noncomputable def kq31_1 (n : Nat × Nat) : St → Option R31 := run (E31 n) (cB (cB c31)) (Ann.snd (Ann.snd an31)) rt31 (fun _ _ => none) rt31
noncomputable def kc31_2 (n : Nat × Nat) : St → Option R31 := fun s => normC [0] s (kq31_1 n)
noncomputable def S31 (n : Nat × Nat) (sheets0 : List (Int × Int)) : Option R31 := run (E31 n) c31 an31 rt31 (fun _ _ => none) rt31 { tm := [.c (.sl (.pair (.int .i64) (.int .i64)) sheets0 false), uu, uu, uu, uu, uu, uu, uu, uu, uu, uu, uu, uu, uu, uu], hp := emp }
theorem S31_eq (n : Nat × Nat) (sheets0 : List (Int × Int)) : S31 n sheets0 =
    (S25 n sheets0).bind fun r1' =>
    (bif (r1' != 0) then some (0, r1')
    else (S71c74io01 n sheets0 0).bind fun r2' =>
      some (r2'.2.1, 0)) := by kernel_rfl
theorem S31_run (n : Nat × Nat) (xs : pksDen pk31) : S31 n xs.1 = runG (E31 n) noScope c31 an31 (rtG rk31) (fun _ _ => none) (rtG rk31) (st0 pk31 xs Try.f31.ntmps) := by kernel_rfl
noncomputable def P31 (n : Nat × Nat) := phiOf pk31 rk31 (fun xs => S31 n xs.1)
theorem call31 : CallOK Try.prog 31 := callOK_of Try.func31 (by kernel_rfl) (by kernel_rfl)
theorem env31 (n : Nat × Nat) : EnvOK Try.prog (E31 n) := envOK (l := io31 n) (consPhi_ok (FC25 n) call25 noPhi_ok) rfl rfl (by kernel_rfl) ⟨FC71c74io01 n, call71, trivial⟩
theorem par31 (n : Nat × Nat) : EnvPar (E31 n) := envPar (l := io31 n) (consPhi_par phiOf_Par1 noPhi_par) rfl ⟨phioOf_Pario1, trivial⟩
theorem FC31 (n : Nat × Nat) : FCs Try.prog 31 (P31 n) := phiOf_FCs fun xs r h vs hv => FC.of_runG tabOK eqsOK (env31 n) (par31 n) mixed (fun _ => noScope_ok) Try.func31 (c := c31) (an := an31) (pks := pk31) (rks := rk31) (by kernel_rfl) (by kernel_rfl) hv ((S31_run n xs).symm.trans h)
abbrev R33 := Bool × Int
noncomputable def c33 : Code := bodyOf Try.f33
noncomputable def an33 : Ann := (.s .l (.s (.s .l (.j [0, 1, 2] (.s .l (.j [0, 1, 2] .l (.s .l (.j [0, 1, 2] .l .l)))) .l)) .l))
def pk33 : List PK := [.c (.sl (.pair (.int .i64) (.int .i64))), .c (.int .i64), .c (.int .i64)]
def rk33 : List RK := [.c .bool 6, .c (.int .i64) 7]
noncomputable def rt33 (st : St) : Option R33 := rtG rk33 st
noncomputable def E33 (n : Nat × Nat) : Env := { T := tab, phi := (consPhi 25 (fun _ => true) (P25 n) noPhi), eff := fun _ => false, fuel := n.1, hold := n.2 }
noncomputable def kq33_1 (n : Nat × Nat) : St → Option R33 := run (E33 n) (cB (cB c33)) (Ann.snd (Ann.snd an33)) rt33 (fun _ _ => none) rt33
noncomputable def kc33_2 (n : Nat × Nat) : St → Option R33 := fun s => normC [0, 1, 2] s (kq33_1 n)
noncomputable def xb33_3 (n : Nat × Nat) : Nat → St → Option R33 := fun j s => bif Nat.beq j 0 then normC [0, 1, 2] s (kq33_1 n) else (fun _ _ => none) j s
noncomputable def kc33_4 (n : Nat × Nat) : St → Option R33 := fun s => normC [0, 1, 2] s (kc33_2 n)
noncomputable def kc33_5 (n : Nat × Nat) : St → Option R33 := fun s => normC [0, 1, 2] s (kc33_4 n)
noncomputable def S33 (n : Nat × Nat) (sheets0 : List (Int × Int)) (i1 : Int) (j2 : Int) : Option R33 := run (E33 n) c33 an33 rt33 (fun _ _ => none) rt33 { tm := [.c (.sl (.pair (.int .i64) (.int .i64)) sheets0 false), .c (.int .i64 i1), .c (.int .i64 j2), uu, uu, uu, uu, uu, uu, uu, uu, uu, uu, uu, uu, uu, uu, uu, uu, uu, uu, uu, uu, uu, uu, uu, uu, uu, uu, uu, uu, uu, uu, uu, uu, uu, uu, uu, uu, uu, uu, uu, uu, uu, uu, uu, uu, uu, uu], hp := emp }
theorem S33_eq (n : Nat × Nat) (sheets0 : List (Int × Int)) (i1 : Int) (j2 : Int) : S33 n sheets0 i1 j2 =
    (S25 n sheets0).bind fun r1' =>
    (bif (r1' != 0) then some (false, r1')
    else ((bif (decide ((if j2 < i1 then j2 else i1) < 0) == false) then some (decide ((if j2 > i1 then j2 else i1) ≥ (sheets0.length : Int)))
        else some true)).bind fun b2' =>
      (bif b2' then some (false, 2)
      else (idx sheets0 i1).bind fun x3' =>
        (idx sheets0 j2).bind fun x4' =>
        some (decide ((if x4'.2 < x3'.1 then x4'.2 else x3'.1) ≤ (if x3'.2 < x4'.1 then x3'.2 else x4'.1)), 0))) := by kernel_rfl
theorem S33_run (n : Nat × Nat) (xs : pksDen pk33) : S33 n xs.1 xs.2.1 xs.2.2.1 = runG (E33 n) noScope c33 an33 (rtG rk33) (fun _ _ => none) (rtG rk33) (st0 pk33 xs Try.f33.ntmps) := by kernel_rfl
noncomputable def P33 (n : Nat × Nat) := phiOf pk33 rk33 (fun xs => S33 n xs.1 xs.2.1 xs.2.2.1)
theorem call33 : CallOK Try.prog 33 := callOK_of Try.func33 (by kernel_rfl) (by kernel_rfl)
theorem env33 (n : Nat × Nat) : EnvOK Try.prog (E33 n) := envOK0 (consPhi_ok (FC25 n) call25 noPhi_ok) rfl rfl
theorem par33 (n : Nat × Nat) : EnvPar (E33 n) := envPar0 (consPhi_par phiOf_Par1 noPhi_par) rfl
theorem FC33 (n : Nat × Nat) : FCs Try.prog 33 (P33 n) := phiOf_FCs fun xs r h vs hv => FC.of_runG tabOK eqsOK (env33 n) (par33 n) mixed (fun _ => noScope_ok) Try.func33 (c := c33) (an := an33) (pks := pk33) (rks := rk33) (by kernel_rfl) (by kernel_rfl) hv ((S33_run n xs).symm.trans h)
abbrev R75 := Int
noncomputable def c75 : Code := bodyOf Try.f75
noncomputable def an75 : Ann := (.s .l (.s .l (.s .l (.s (.s .l (.j [9] (.j [2, 7, 8, 9, 23, 24, 25] (.s .l (.s (.j [2, 7, 8, 9, 23, 24, 25] .l .l) (.j [] (.j [2, 7, 8, 9, 23, 24, 25] (.s .l (.s .l (.j [2, 7, 8, 9, 23, 24, 25] .l .l))) .l) .l))) .l) .l)) .l))))
def pk75 : List PK := [.c (.sl (.pair (.int .i64) (.int .i64))), .c (.int .i64), .c (.int .i64)]
def rk75 : List RK := [.c (.int .i64) 6]
noncomputable def rt75 (st : St) : Option R75 := rtG rk75 st
noncomputable def E75 (n : Nat × Nat) : Env := { T := tab, phi := (consPhi 64 (fun _ => true) (P64 n) noPhi), eff := fun _ => false, fuel := n.1, hold := n.2 }
noncomputable def kq75_1 (n : Nat × Nat) : St → Option R75 := run (E75 n) (cB (cB (cB (cB c75)))) (Ann.snd (Ann.snd (Ann.snd (Ann.snd an75)))) rt75 (fun _ _ => none) rt75
noncomputable def kc75_2 (n : Nat × Nat) : St → Option R75 := fun s => normC [9] s (kq75_1 n)
noncomputable def xb75_3 (n : Nat × Nat) : Nat → St → Option R75 := fun j s => bif Nat.beq j 0 then normC [9] s (kq75_1 n) else (fun _ _ => none) j s
noncomputable def F75_4 (n : Nat × Nat) : (St → Option R75) → St → Option R75 := fun K s => run (E75 n) (cA (cA (cB (cA (cB (cB (cB c75))))))) (Ann.fst (Ann.fst (Ann.snd (Ann.fst (Ann.snd (Ann.snd (Ann.snd an75))))))) (fun s => normC [2, 7, 8, 9, 23, 24, 25] s K) (xb75_3 n) rt75 s
noncomputable def kq75_5 (n : Nat × Nat) (m1 : Nat) : St → Option R75 := run (E75 n) (cB (cB (cA (cA (cB (cA (cB (cB (cB c75))))))))) (Ann.snd (Ann.snd (Ann.fst (Ann.fst (Ann.snd (Ann.fst (Ann.snd (Ann.snd (Ann.snd an75))))))))) (fun s => normC [2, 7, 8, 9, 23, 24, 25] s (loopN (F75_4 n) m1)) (xb75_3 n) rt75
noncomputable def kc75_6 (n : Nat × Nat) (m1 : Nat) : St → Option R75 := fun s => normC [2, 7, 8, 9, 23, 24, 25] s (kq75_5 n m1)
noncomputable def kq75_7 (n : Nat × Nat) (m1 : Nat) : St → Option R75 := run (E75 n) (cB (cB (cB (cA (cA (cB (cA (cB (cB (cB c75)))))))))) (Ann.snd (Ann.snd (Ann.snd (Ann.fst (Ann.fst (Ann.snd (Ann.fst (Ann.snd (Ann.snd (Ann.snd an75)))))))))) (fun s => normC [2, 7, 8, 9, 23, 24, 25] s (loopN (F75_4 n) m1)) (xb75_3 n) rt75
noncomputable def kc75_8 (n : Nat × Nat) (m1 : Nat) : St → Option R75 := fun s => normC [2, 7, 8, 9, 23, 24, 25] s (loopN (fun _ => (kq75_7 n m1)) n.2)
noncomputable def xb75_9 (n : Nat × Nat) (m1 : Nat) : Nat → St → Option R75 := fun j s => bif Nat.beq j 1 then normC [2, 7, 8, 9, 23, 24, 25] s (loopN (fun _ => (kq75_7 n m1)) n.2) else (xb75_3 n) j s
noncomputable def kc75_10 (n : Nat × Nat) (m1 : Nat) : St → Option R75 := fun s => normC [2, 7, 8, 9, 23, 24, 25] s (kc75_8 n m1)
noncomputable def L75_1 (n : Nat × Nat) (m : Nat) (k2 : Int) (v9 : Int) (v24 : Int) (v25 : Int) (own7 : List Int) (other8 : List Int) : Option R75 := loopN (F75_4 n) m { tm := [uu, uu, .c (.int .i64 k2), uu, uu, uu, uu, .own 7 none false, .own 8 none false, .c (.int .i64 v9), uu, uu, uu, uu, uu, uu, uu, uu, uu, uu, uu, uu, uu, .own 7 none false, .c (.int .i64 v24), .c (.int .i64 v25), uu, uu, uu, uu, uu, uu, uu, uu, uu, uu, uu, uu, uu, uu, uu, uu, uu, uu, uu, uu, uu, uu, uu, uu, uu, uu], hp := (upd (upd emp 8 (.arr (.int .i64) other8 false)) 7 (.arr (.int .i64) own7 false)) }
noncomputable def L75_2 (n : Nat × Nat) (m1 : Nat) (k2 : Int) (v9 : Int) (v24 : Int) (v25 : Int) (own7 : List Int) (other8 : List Int) : Option R75 := loopN (fun _ => (kq75_7 n m1)) n.2 { tm := [uu, uu, .c (.int .i64 k2), uu, uu, uu, uu, .own 7 none false, .own 8 none false, .c (.int .i64 v9), uu, uu, uu, uu, uu, uu, uu, uu, uu, uu, uu, uu, uu, .own 7 none false, .c (.int .i64 v24), .c (.int .i64 v25), uu, uu, uu, uu, uu, uu, uu, uu, uu, uu, uu, uu, uu, uu, uu, uu, uu, uu, uu, uu, uu, uu, uu, uu, uu, uu], hp := (upd (upd emp 8 (.arr (.int .i64) other8 false)) 7 (.arr (.int .i64) own7 false)) }
theorem L75_1_eq (n : Nat × Nat) (m1 : Nat) (k2 : Int) (v9 : Int) (v24 : Int) (v25 : Int) (own7 : List Int) (other8 : List Int) : L75_1 n (m1 + 1) k2 v9 v24 v25 own7 other8 =
    (bif decide (v25 < v24) then (bif inB v25 own7.length then (idx own7 v25).bind fun x4' =>
        (bif inB k2 own7.length then (idx own7 k2).bind fun x5' =>
          (bif decide (x4' < x5') then (bif inB v25 other8.length then (idx other8 v25).bind fun x6' =>
              L75_2 n m1 k2 (wr .i64 (v9 + (if x6' < x4' then x6' else x4'))) v24 v25 own7 other8
            else none)
          else (bif inB v25 other8.length then (idx other8 v25).bind fun x7' =>
              L75_2 n m1 k2 (wr .i64 (v9 + x7')) v24 v25 own7 other8
            else none))
        else none)
      else none)
    else some v9) := by kernel_rfl
theorem L75_2_raw (n : Nat × Nat) (m1 : Nat) (k2 : Int) (v9 : Int) (v24 : Int) (v25 : Int) (own7 : List Int) (other8 : List Int) : (kq75_7 n m1) { tm := [uu, uu, .c (.int .i64 k2), uu, uu, uu, uu, .own 7 none false, .own 8 none false, .c (.int .i64 v9), uu, uu, uu, uu, uu, uu, uu, uu, uu, uu, uu, uu, uu, .own 7 none false, .c (.int .i64 v24), .c (.int .i64 v25), uu, uu, uu, uu, uu, uu, uu, uu, uu, uu, uu, uu, uu, uu, uu, uu, uu, uu, uu, uu, uu, uu, uu, uu, uu, uu], hp := (upd (upd emp 8 (.arr (.int .i64) other8 false)) 7 (.arr (.int .i64) own7 false)) } =
    L75_1 n m1 k2 v9 v24 (wr .i64 (v25 + 1)) own7 other8 := by kernel_rfl
noncomputable def S75 (n : Nat × Nat) (sheets0 : List (Int × Int)) (machine1 : Int) (k2 : Int) : Option R75 := run (E75 n) c75 an75 rt75 (fun _ _ => none) rt75 { tm := [.c (.sl (.pair (.int .i64) (.int .i64)) sheets0 false), .c (.int .i64 machine1), .c (.int .i64 k2), uu, uu, uu, uu, uu, uu, uu, uu, uu, uu, uu, uu, uu, uu, uu, uu, uu, uu, uu, uu, uu, uu, uu, uu, uu, uu, uu, uu, uu, uu, uu, uu, uu, uu, uu, uu, uu, uu, uu, uu, uu, uu, uu, uu, uu, uu, uu, uu, uu], hp := emp }
theorem S75_eq (n : Nat × Nat) (sheets0 : List (Int × Int)) (machine1 : Int) (k2 : Int) : S75 n sheets0 machine1 k2 =
    (S64 n sheets0 machine1).bind fun r1' =>
    (S64 n sheets0 (wr .i64 (1 - machine1))).bind fun r2' =>
    (bif inB k2 r1'.length then (idx r1' k2).bind fun x3' =>
      L75_1 n n.1 k2 x3' (r1'.length : Int) 0 r1' r2'
    else none) := by kernel_rfl
theorem S75_run (n : Nat × Nat) (xs : pksDen pk75) : S75 n xs.1 xs.2.1 xs.2.2.1 = runG (E75 n) noScope c75 an75 (rtG rk75) (fun _ _ => none) (rtG rk75) (st0 pk75 xs Try.f75.ntmps) := by kernel_rfl
noncomputable def P75 (n : Nat × Nat) := phiOf pk75 rk75 (fun xs => S75 n xs.1 xs.2.1 xs.2.2.1)
theorem call75 : CallOK Try.prog 75 := callOK_of Try.func75 (by kernel_rfl) (by kernel_rfl)
theorem env75 (n : Nat × Nat) : EnvOK Try.prog (E75 n) := envOK0 (consPhi_ok (FC64 n) call64 noPhi_ok) rfl rfl
theorem par75 (n : Nat × Nat) : EnvPar (E75 n) := envPar0 (consPhi_par phiOf_Par1 noPhi_par) rfl
theorem FC75 (n : Nat × Nat) : FCs Try.prog 75 (P75 n) := phiOf_FCs fun xs r h vs hv => FC.of_runG tabOK eqsOK (env75 n) (par75 n) mixed (fun _ => noScope_ok) Try.func75 (c := c75) (an := an75) (pks := pk75) (rks := rk75) (by kernel_rfl) (by kernel_rfl) hv ((S75_run n xs).symm.trans h)
abbrev R35 := Int × Int
noncomputable def c35 : Code := bodyOf Try.f35
noncomputable def an35 : Ann := (.s .l (.s (.s .l (.j [0, 1, 2] (.s .l (.j [0, 1, 2] .l (.s .l (.j [0, 1, 2] .l .l)))) .l)) .l))
def pk35 : List PK := [.c (.sl (.pair (.int .i64) (.int .i64))), .c (.int .i64), .c (.int .i64)]
def rk35 : List RK := [.c (.int .i64) 6, .c (.int .i64) 7]
noncomputable def rt35 (st : St) : Option R35 := rtG rk35 st
noncomputable def E35 (n : Nat × Nat) : Env := { T := tab, phi := (consPhi 25 (fun _ => true) (P25 n) (consPhi 75 (fun _ => true) (P75 n) noPhi)), eff := fun _ => false, fuel := n.1, hold := n.2 }
noncomputable def kq35_1 (n : Nat × Nat) : St → Option R35 := run (E35 n) (cB (cB c35)) (Ann.snd (Ann.snd an35)) rt35 (fun _ _ => none) rt35
noncomputable def kc35_2 (n : Nat × Nat) : St → Option R35 := fun s => normC [0, 1, 2] s (kq35_1 n)
noncomputable def xb35_3 (n : Nat × Nat) : Nat → St → Option R35 := fun j s => bif Nat.beq j 0 then normC [0, 1, 2] s (kq35_1 n) else (fun _ _ => none) j s
noncomputable def kc35_4 (n : Nat × Nat) : St → Option R35 := fun s => normC [0, 1, 2] s (kc35_2 n)
noncomputable def kc35_5 (n : Nat × Nat) : St → Option R35 := fun s => normC [0, 1, 2] s (kc35_4 n)
noncomputable def S35 (n : Nat × Nat) (sheets0 : List (Int × Int)) (machine1 : Int) (k2 : Int) : Option R35 := run (E35 n) c35 an35 rt35 (fun _ _ => none) rt35 { tm := [.c (.sl (.pair (.int .i64) (.int .i64)) sheets0 false), .c (.int .i64 machine1), .c (.int .i64 k2), uu, uu, uu, uu, uu, uu, uu, uu, uu, uu, uu, uu, uu, uu, uu, uu, uu, uu, uu, uu, uu, uu, uu, uu, uu, uu, uu, uu, uu, uu, uu, uu, uu], hp := emp }
theorem S35_eq (n : Nat × Nat) (sheets0 : List (Int × Int)) (machine1 : Int) (k2 : Int) : S35 n sheets0 machine1 k2 =
    (S25 n sheets0).bind fun r1' =>
    (bif (r1' != 0) then some (0, r1')
    else ((bif (decide (machine1 < 0) == false) then some (decide (machine1 > 1))
        else some true)).bind fun b2' =>
      ((bif (b2' == false) then some (decide (k2 < 0))
        else some true)).bind fun b3' =>
      ((bif (b3' == false) then some (decide (k2 ≥ (sheets0.length : Int)))
        else some true)).bind fun b4' =>
      (bif b4' then some (0, 2)
      else (S75 n sheets0 machine1 k2).bind fun r5' =>
        some (r5', 0))) := by kernel_rfl
theorem S35_run (n : Nat × Nat) (xs : pksDen pk35) : S35 n xs.1 xs.2.1 xs.2.2.1 = runG (E35 n) noScope c35 an35 (rtG rk35) (fun _ _ => none) (rtG rk35) (st0 pk35 xs Try.f35.ntmps) := by kernel_rfl
noncomputable def P35 (n : Nat × Nat) := phiOf pk35 rk35 (fun xs => S35 n xs.1 xs.2.1 xs.2.2.1)
theorem call35 : CallOK Try.prog 35 := callOK_of Try.func35 (by kernel_rfl) (by kernel_rfl)
theorem env35 (n : Nat × Nat) : EnvOK Try.prog (E35 n) := envOK0 (consPhi_ok (FC25 n) call25 (consPhi_ok (FC75 n) call75 noPhi_ok)) rfl rfl
theorem par35 (n : Nat × Nat) : EnvPar (E35 n) := envPar0 (consPhi_par phiOf_Par1 (consPhi_par phiOf_Par1 noPhi_par)) rfl
theorem FC35 (n : Nat × Nat) : FCs Try.prog 35 (P35 n) := phiOf_FCs fun xs r h vs hv => FC.of_runG tabOK eqsOK (env35 n) (par35 n) mixed (fun _ => noScope_ok) Try.func35 (c := c35) (an := an35) (pks := pk35) (rks := rk35) (by kernel_rfl) (by kernel_rfl) hv ((S35_run n xs).symm.trans h)
abbrev R37 := Int × Int × Int
noncomputable def c37 : Code := bodyOf Try.f37
noncomputable def an37 : Ann := (.s .l (.s (.s .l (.s .l (.j [0, 2, 3] .l .l))) (.s .l (.s (.s .l (.j [2, 3] (.j [0, 2, 3, 6, 15] (.s .l (.s (.j [0, 2, 3, 6, 15] .l .l) (.s (.j [0, 2, 3, 6, 15] (.s .l (.s .l (.j [0, 2, 3, 6, 15] (.j [0, 2, 3, 6, 7, 15, 19, 20] (.s .l (.s (.j [0, 2, 3, 6, 7, 15, 19, 20] .l .l) (.j [] (.j [0, 2, 3, 6, 7, 15, 19, 20] (.s .l (.s .l (.s .l (.j [0, 2, 3, 6, 7, 15, 19, 20] .l .l)))) .l) .l))) .l) .l))) .l) .l))) .l) .l)) .l))))
def pk37 : List PK := [.c (.sl (.pair (.int .i64) (.int .i64)))]
def rk37 : List RK := [.c (.int .i64) 2, .c (.int .i64) 3, .c (.int .i64) 4]
noncomputable def rt37 (st : St) : Option R37 := rtG rk37 st
noncomputable def E37 (n : Nat × Nat) : Env := { T := tab, phi := (consPhi 25 (fun _ => true) (P25 n) (consPhi 75 (fun _ => true) (P75 n) noPhi)), eff := fun _ => false, fuel := n.1, hold := n.2 }
noncomputable def kq37_1 (n : Nat × Nat) : St → Option R37 := run (E37 n) (cB (cB c37)) (Ann.snd (Ann.snd an37)) rt37 (fun _ _ => none) rt37
noncomputable def kc37_2 (n : Nat × Nat) : St → Option R37 := fun s => normC [0, 2, 3] s (kq37_1 n)
noncomputable def kq37_3 (n : Nat × Nat) : St → Option R37 := run (E37 n) (cB (cB (cB (cB c37)))) (Ann.snd (Ann.snd (Ann.snd (Ann.snd an37)))) rt37 (fun _ _ => none) rt37
noncomputable def kc37_4 (n : Nat × Nat) : St → Option R37 := fun s => normC [2, 3] s (kq37_3 n)
noncomputable def xb37_5 (n : Nat × Nat) : Nat → St → Option R37 := fun j s => bif Nat.beq j 0 then normC [2, 3] s (kq37_3 n) else (fun _ _ => none) j s
noncomputable def F37_6 (n : Nat × Nat) : (St → Option R37) → St → Option R37 := fun K s => run (E37 n) (cA (cA (cB (cA (cB (cB (cB c37))))))) (Ann.fst (Ann.fst (Ann.snd (Ann.fst (Ann.snd (Ann.snd (Ann.snd an37))))))) (fun s => normC [0, 2, 3, 6, 15] s K) (xb37_5 n) rt37 s
noncomputable def kq37_7 (n : Nat × Nat) (m1 : Nat) : St → Option R37 := run (E37 n) (cB (cB (cA (cA (cB (cA (cB (cB (cB c37))))))))) (Ann.snd (Ann.snd (Ann.fst (Ann.fst (Ann.snd (Ann.fst (Ann.snd (Ann.snd (Ann.snd an37))))))))) (fun s => normC [0, 2, 3, 6, 15] s (loopN (F37_6 n) m1)) (xb37_5 n) rt37
noncomputable def kc37_8 (n : Nat × Nat) (m1 : Nat) : St → Option R37 := fun s => normC [0, 2, 3, 6, 15] s (kq37_7 n m1)
noncomputable def kq37_9 (n : Nat × Nat) (m1 : Nat) : St → Option R37 := run (E37 n) (cB (cB (cB (cA (cA (cB (cA (cB (cB (cB c37)))))))))) (Ann.snd (Ann.snd (Ann.snd (Ann.fst (Ann.fst (Ann.snd (Ann.fst (Ann.snd (Ann.snd (Ann.snd an37)))))))))) (fun s => normC [0, 2, 3, 6, 15] s (loopN (F37_6 n) m1)) (xb37_5 n) rt37
noncomputable def kc37_10 (n : Nat × Nat) (m1 : Nat) : St → Option R37 := fun s => normC [0, 2, 3, 6, 15] s (kq37_9 n m1)
noncomputable def xb37_11 (n : Nat × Nat) (m1 : Nat) : Nat → St → Option R37 := fun j s => bif Nat.beq j 1 then normC [0, 2, 3, 6, 15] s (kq37_9 n m1) else (xb37_5 n) j s
noncomputable def kc37_12 (n : Nat × Nat) (m1 : Nat) : St → Option R37 := fun s => normC [0, 2, 3, 6, 15] s (kc37_10 n m1)
noncomputable def xb37_13 (n : Nat × Nat) (m1 : Nat) : Nat → St → Option R37 := fun j s => bif Nat.beq j 2 then normC [0, 2, 3, 6, 15] s (kc37_10 n m1) else (xb37_11 n m1) j s
noncomputable def F37_14 (n : Nat × Nat) (m1 : Nat) : (St → Option R37) → St → Option R37 := fun K s => run (E37 n) (cA (cA (cB (cB (cA (cA (cB (cB (cA (cA (cB (cA (cB (cB (cB c37))))))))))))))) (Ann.fst (Ann.fst (Ann.snd (Ann.snd (Ann.fst (Ann.fst (Ann.snd (Ann.snd (Ann.fst (Ann.fst (Ann.snd (Ann.fst (Ann.snd (Ann.snd (Ann.snd an37))))))))))))))) (fun s => normC [0, 2, 3, 6, 7, 15, 19, 20] s K) (xb37_13 n m1) rt37 s
noncomputable def kq37_15 (n : Nat × Nat) (m1 m2 : Nat) : St → Option R37 := run (E37 n) (cB (cB (cA (cA (cB (cB (cA (cA (cB (cB (cA (cA (cB (cA (cB (cB (cB c37))))))))))))))))) (Ann.snd (Ann.snd (Ann.fst (Ann.fst (Ann.snd (Ann.snd (Ann.fst (Ann.fst (Ann.snd (Ann.snd (Ann.fst (Ann.fst (Ann.snd (Ann.fst (Ann.snd (Ann.snd (Ann.snd an37))))))))))))))))) (fun s => normC [0, 2, 3, 6, 7, 15, 19, 20] s (loopN (F37_14 n m1) m2)) (xb37_13 n m1) rt37
noncomputable def kc37_16 (n : Nat × Nat) (m1 m2 : Nat) : St → Option R37 := fun s => normC [0, 2, 3, 6, 7, 15, 19, 20] s (kq37_15 n m1 m2)
noncomputable def kq37_17 (n : Nat × Nat) (m1 m2 : Nat) : St → Option R37 := run (E37 n) (cB (cB (cB (cA (cA (cB (cB (cA (cA (cB (cB (cA (cA (cB (cA (cB (cB (cB c37)))))))))))))))))) (Ann.snd (Ann.snd (Ann.snd (Ann.fst (Ann.fst (Ann.snd (Ann.snd (Ann.fst (Ann.fst (Ann.snd (Ann.snd (Ann.fst (Ann.fst (Ann.snd (Ann.fst (Ann.snd (Ann.snd (Ann.snd an37)))))))))))))))))) (fun s => normC [0, 2, 3, 6, 7, 15, 19, 20] s (loopN (F37_14 n m1) m2)) (xb37_13 n m1) rt37
noncomputable def kc37_18 (n : Nat × Nat) (m1 m2 : Nat) : St → Option R37 := fun s => normC [0, 2, 3, 6, 7, 15, 19, 20] s (loopN (fun _ => (kq37_17 n m1 m2)) n.2)
noncomputable def xb37_19 (n : Nat × Nat) (m1 m2 : Nat) : Nat → St → Option R37 := fun j s => bif Nat.beq j 3 then normC [0, 2, 3, 6, 7, 15, 19, 20] s (loopN (fun _ => (kq37_17 n m1 m2)) n.2) else (xb37_13 n m1) j s
noncomputable def kc37_20 (n : Nat × Nat) (m1 m2 : Nat) : St → Option R37 := fun s => normC [0, 2, 3, 6, 7, 15, 19, 20] s (kc37_18 n m1 m2)
noncomputable def L37_1 (n : Nat × Nat) (m : Nat) (sheets0 : List (Int × Int)) (machine2 : Int) (k3 : Int) (best6 : Int) (v15 : Int) : Option R37 := loopN (F37_6 n) m { tm := [.c (.sl (.pair (.int .i64) (.int .i64)) sheets0 false), uu, .c (.int .i64 machine2), .c (.int .i64 k3), uu, uu, .c (.int .i64 best6), uu, uu, uu, uu, uu, uu, uu, uu, .c (.int .i64 v15), uu, uu, uu, uu, uu, uu, uu, uu, uu, uu, uu, uu, uu, uu, uu, uu, uu, uu, uu, uu, uu], hp := emp }
noncomputable def L37_2 (n : Nat × Nat) (m1 : Nat) (m : Nat) (sheets0 : List (Int × Int)) (machine2 : Int) (k3 : Int) (best6 : Int) (m7 : Int) (v15 : Int) (v19 : Int) (v20 : Int) : Option R37 := loopN (F37_14 n m1) m { tm := [.c (.sl (.pair (.int .i64) (.int .i64)) sheets0 false), uu, .c (.int .i64 machine2), .c (.int .i64 k3), uu, uu, .c (.int .i64 best6), .c (.int .i64 m7), uu, uu, uu, uu, uu, uu, uu, .c (.int .i64 v15), uu, uu, uu, .c (.int .i64 v19), .c (.int .i64 v20), uu, uu, uu, uu, uu, uu, uu, uu, uu, uu, uu, uu, uu, uu, uu, uu], hp := emp }
noncomputable def L37_3 (n : Nat × Nat) (m1 m2 : Nat) (sheets0 : List (Int × Int)) (machine2 : Int) (k3 : Int) (best6 : Int) (m7 : Int) (v15 : Int) (v19 : Int) (v20 : Int) : Option R37 := loopN (fun _ => (kq37_17 n m1 m2)) n.2 { tm := [.c (.sl (.pair (.int .i64) (.int .i64)) sheets0 false), uu, .c (.int .i64 machine2), .c (.int .i64 k3), uu, uu, .c (.int .i64 best6), .c (.int .i64 m7), uu, uu, uu, uu, uu, uu, uu, .c (.int .i64 v15), uu, uu, uu, .c (.int .i64 v19), .c (.int .i64 v20), uu, uu, uu, uu, uu, uu, uu, uu, uu, uu, uu, uu, uu, uu, uu, uu], hp := emp }
theorem L37_1_eq (n : Nat × Nat) (m1 : Nat) (sheets0 : List (Int × Int)) (machine2 : Int) (k3 : Int) (best6 : Int) (v15 : Int) : L37_1 n (m1 + 1) sheets0 machine2 k3 best6 v15 =
    (bif decide (v15 < 2) then L37_2 n m1 n.1 sheets0 machine2 k3 best6 v15 v15 (sheets0.length : Int) 0
    else some (machine2, k3, 0)) := by kernel_rfl
theorem L37_2_eq (n : Nat × Nat) (m1 m2 : Nat) (sheets0 : List (Int × Int)) (machine2 : Int) (k3 : Int) (best6 : Int) (m7 : Int) (v15 : Int) (v19 : Int) (v20 : Int) : L37_2 n m1 (m2 + 1) sheets0 machine2 k3 best6 m7 v15 v19 v20 =
    (bif decide (v20 < v19) then (S75 n sheets0 m7 v20).bind fun r2' =>
      (bif decide (r2' > best6) then L37_3 n m1 m2 sheets0 m7 v20 r2' m7 v15 v19 v20
      else L37_3 n m1 m2 sheets0 machine2 k3 best6 m7 v15 v19 v20)
    else L37_1 n m1 sheets0 machine2 k3 best6 (wr .i64 (v15 + 1))) := by kernel_rfl
theorem L37_3_raw (n : Nat × Nat) (m1 m2 : Nat) (sheets0 : List (Int × Int)) (machine2 : Int) (k3 : Int) (best6 : Int) (m7 : Int) (v15 : Int) (v19 : Int) (v20 : Int) : (kq37_17 n m1 m2) { tm := [.c (.sl (.pair (.int .i64) (.int .i64)) sheets0 false), uu, .c (.int .i64 machine2), .c (.int .i64 k3), uu, uu, .c (.int .i64 best6), .c (.int .i64 m7), uu, uu, uu, uu, uu, uu, uu, .c (.int .i64 v15), uu, uu, uu, .c (.int .i64 v19), .c (.int .i64 v20), uu, uu, uu, uu, uu, uu, uu, uu, uu, uu, uu, uu, uu, uu, uu, uu], hp := emp } =
    L37_2 n m1 m2 sheets0 machine2 k3 best6 m7 v15 v19 (wr .i64 (v20 + 1)) := by kernel_rfl
noncomputable def S37 (n : Nat × Nat) (sheets0 : List (Int × Int)) : Option R37 := run (E37 n) c37 an37 rt37 (fun _ _ => none) rt37 { tm := [.c (.sl (.pair (.int .i64) (.int .i64)) sheets0 false), uu, uu, uu, uu, uu, uu, uu, uu, uu, uu, uu, uu, uu, uu, uu, uu, uu, uu, uu, uu, uu, uu, uu, uu, uu, uu, uu, uu, uu, uu, uu, uu, uu, uu, uu, uu], hp := emp }
theorem S37_eq (n : Nat × Nat) (sheets0 : List (Int × Int)) : S37 n sheets0 =
    (S25 n sheets0).bind fun r1' =>
    (bif (r1' != 0) then some (0, 0, r1')
    else L37_1 n n.1 sheets0 0 0 (-1) 0) := by kernel_rfl
theorem S37_run (n : Nat × Nat) (xs : pksDen pk37) : S37 n xs.1 = runG (E37 n) noScope c37 an37 (rtG rk37) (fun _ _ => none) (rtG rk37) (st0 pk37 xs Try.f37.ntmps) := by kernel_rfl
noncomputable def P37 (n : Nat × Nat) := phiOf pk37 rk37 (fun xs => S37 n xs.1)
theorem call37 : CallOK Try.prog 37 := callOK_of Try.func37 (by kernel_rfl) (by kernel_rfl)
theorem env37 (n : Nat × Nat) : EnvOK Try.prog (E37 n) := envOK0 (consPhi_ok (FC25 n) call25 (consPhi_ok (FC75 n) call75 noPhi_ok)) rfl rfl
theorem par37 (n : Nat × Nat) : EnvPar (E37 n) := envPar0 (consPhi_par phiOf_Par1 (consPhi_par phiOf_Par1 noPhi_par)) rfl
theorem FC37 (n : Nat × Nat) : FCs Try.prog 37 (P37 n) := phiOf_FCs fun xs r h vs hv => FC.of_runG tabOK eqsOK (env37 n) (par37 n) mixed (fun _ => noScope_ok) Try.func37 (c := c37) (an := an37) (pks := pk37) (rks := rk37) (by kernel_rfl) (by kernel_rfl) hv ((S37_run n xs).symm.trans h)
end Go.Proofs.Ytnlbhjmbaedadaa
set_option linter.unusedVariables false
set_option linter.unusedSimpArgs false
set_option maxRecDepth 100000
namespace Go.Proofs.Ytnlbhjmbaedadaa
open Go.RowKit Go.Shelf

section
attribute [local go_sem] Oper.semAt_some

/-- What a round keeps: what lay below n₀, and the box that holds the slice. -/
def KpB (n₀ Bs : Nat) (W W' : World) : Prop := Below n₀ W W' ∧ W'.heap[Bs]? = W.heap[Bs]?
theorem KpB.refl (n₀ Bs : Nat) (W : World) : KpB n₀ Bs W W := ⟨Below.refl _ _, rfl⟩
theorem KpB.trans {n₀ Bs : Nat} {A B C : World} (h : KpB n₀ Bs A B) (k : KpB n₀ Bs B C) : KpB n₀ Bs A C := ⟨h.1.trans k.1, k.2.trans h.2⟩

/-- A pair of numbers is read. -/
theorem run_load_pair (w : World) (b o : Nat) (x y : Int) (h1 : w.cell? ⟨b, o, none⟩ = some (.int .i64 x)) (h2 : w.cell? ⟨b, o + 1, none⟩ = some (.int .i64 y)) :
    (Instr.loadAt 58 (.pointer (some ⟨b, o, none⟩))).run Try.prog w = .ok (.agg #[.int .i64 x, .int .i64 y]) w := by
  obtain ⟨i, d, z, hi, hd, hsz, hby, hz, hzz, ha⟩ := (Go.Vi.TabOK.sh tabOK 58 (.pair (.int .i64) (.int .i64)) (by kernel_rfl)).base.ex
  have hc := run_loadCells_list (P := Try.prog) w ⟨b, o, none⟩ [.int .i64 x, .int .i64 y] (fun j v hj => by
    rw [Go.Vi.add_eq]
    match j, hj with
    | 0, hj => cases hj; exact h1
    | 1, hj => cases hj; exact h2)
  have ha : Go.Vi.isAggD d = true := ha
  have hsz : i.size = 2 := hsz
  simp only [Instr.loadAt, Instr.sureAddr, loadVar, Sem.run_bind, Sem.run_pure, Result.andThen_ok, Go.Vi.run_isAgg hd, ha, if_true, Go.Vi.run_sizeOf' hi, hsz]
  simp only [List.length_cons, List.length_nil, Nat.reduceAdd] at hc
  rw [hc]
  rfl

set_option maxHeartbeats 2000000 in
/-- The closure of slices.Backward: J k holds when the elements from k on have come. -/
theorem backN_in (F : Fence) (n : Nat) (hC : F.fn 92) (hro : F.round = none) (hn : 1 ≤ n) (l Bs n₀ b off cap : Nat) (zs : List (Int × Int)) (hreach : zs.length * 16 ≤ 140737488351232) (hb : b < n₀) (J : Nat → World → Prop)
    (hY : ∀ k (hk : k < zs.length) W, J (k + 1) W → YieldAt F (n - 1) Try.prog l #[.int .i64 (k : Int), .agg #[.int .i64 zs[k].1, .int .i64 zs[k].2]] W fun e W' => e = .returned (.bool true) ∧ J k W' ∧ KpB n₀ Bs W W')
    (W : World) (hBs : W.cell? ⟨Bs, 0, none⟩ = some (.slice (some ⟨b, off, none⟩) zs.length cap)) (hc : ∀ j (h : j < zs.length), W.cell? ⟨b, off + j * 2, none⟩ = some (.int .i64 zs[j].1) ∧ W.cell? ⟨b, off + j * 2 + 1, none⟩ = some (.int .i64 zs[j].2)) (h0 : J zs.length W) :
    CallsIn F n Try.prog 92 #[.func (.yield l) #[] #[], .pointer (some ⟨Bs, 0, none⟩)] W fun e W' => (∃ v, e = .returned v) ∧ J 0 W' := by
  refine callsIn_of_wp Try.func92 rfl hC ?_ hro
  simp only [Try.ntmps92, List.size_toArray, List.length_cons, List.length_nil, Nat.reduceAdd, Nat.reduceSub, Array.replicate_succ, Array.replicate_zero, List.push_toArray, List.append_toArray, List.nil_append, List.cons_append]
  gi_wp2
  gi_loopw [3] (fun i wr => (∃ k : Nat, k < zs.length ∧ i = .int .i64 k ∧ J (k + 1) wr ∧ KpB n₀ Bs W wr) ∨ (i = .int .i64 (-1) ∧ J 0 wr ∧ KpB n₀ Bs W wr))
    (fun i _ => (intOf i + 1).toNat)
  case atStart =>
    rcases Nat.eq_zero_or_pos zs.length with h | h
    · exact .inr ⟨by simp [h], by rw [h] at h0; exact h0, KpB.refl _ _ _⟩
    · exact .inl ⟨zs.length - 1, by omega, by congr 1; omega, by rw [show zs.length - 1 + 1 = zs.length by omega]; exact h0, KpB.refl _ _ _⟩
  case round =>
    rcases hrel with ⟨k, hk, rfl, hJs, hnx⟩ | ⟨rfl, hJs, hnx⟩
    · have hcx := (hnx.1.cell (p := ⟨b, off + k * 2, none⟩) hb).trans (hc k hk).1
      have hcy := (hnx.1.cell (p := ⟨b, off + k * 2 + 1, none⟩) hb).trans (hc k hk).2
      have hld := run_load_pair wr b (off + k * 2) _ _ hcx hcy
      have hBs' : wr.cell? ⟨Bs, 0, none⟩ = some (.slice (some ⟨b, off, none⟩) zs.length cap) := by rw [← hBs]; simp only [World.cell?, hnx.2]
      obtain ⟨fn, tmps, assign, body, hy, hR⟩ := hY k hk wr hJs
      gi_wp2
      refine hR.mono ?_
      rintro e W3 ⟨rfl, hJ3, hk3⟩
      gi_wp2
      go_roundw
      case rel =>
        cases k with
        | zero => exact .inr ⟨by simp, hJ3, hnx.trans hk3⟩
        | succ k => exact .inl ⟨k, by omega, by congr 1; omega, hJ3, hnx.trans hk3⟩
      case measure => simp [intOf]
    · gi_wp2
      go_end0
      exact ⟨⟨_, rfl⟩, hJs⟩
end

set_option maxHeartbeats 1000000 in
/-- slices.Backward(s): the slice value is boxed; the function value captures the box. -/
theorem back_in (F : Fence) (n : Nat) (hB : F.fn 77) (hro : F.round = none) (a : Option Addr) (len cap : Nat) (w : World) :
    CallsIn F n Try.prog 77 #[.slice a len cap] w fun e w' => e = .returned (.func (.func 92) #[] #[.pointer (some ⟨w.heap.size, 0, none⟩)]) ∧ w' = w.alloc (.cells #[.slice a len cap] 22) := by
  refine callsIn_of_wp Try.func77 rfl hB ?_ hro
  simp only [Try.ntmps77, List.size_toArray, List.length_cons, List.length_nil, Nat.reduceAdd, Nat.reduceSub, Array.replicate_succ, Array.replicate_zero, List.push_toArray, List.append_toArray, List.nil_append, List.cons_append]
  gi_wp2
  go_ret
  exact ⟨rfl, rfl⟩

/-- How a body that is never left must end. -/
def nrmW (R : World → Prop) : Exit → Act → World → Prop
  | .normal, _, w => R w
  | _, _, _ => False

/-- A loop over slices.Backward, its rounds in their order. -/
theorem rangeBack {F : Fence} {n : Nat} (hro : F.round = none) (hn : 2 ≤ n) (h92 : F.fn 92) {g : Operand} {ps : Array Tmp} {assign body : Code} {Q : Exit → Act → World → Prop} {a : Act} {w : World}
    {Bs n₀ b off cap : Nat} {zs : List (Int × Int)} (hreach : zs.length * 16 ≤ 140737488351232) (hg : a.eval g = .func (.func 92) #[] #[.pointer (some ⟨Bs, 0, none⟩)]) (hps : ps.size = 2) (hb : b < n₀) (hn₀ : n₀ ≤ w.heap.size) (hBl : Bs < w.heap.size)
    (hBs : w.cell? ⟨Bs, 0, none⟩ = some (.slice (some ⟨b, off, none⟩) zs.length cap)) (hc : ∀ j (h : j < zs.length), w.cell? ⟨b, off + j * 2, none⟩ = some (.int .i64 zs[j].1) ∧ w.cell? ⟨b, off + j * 2 + 1, none⟩ = some (.int .i64 zs[j].2))
    (I : Nat → World → Prop) (hI : OwnFrom w.heap.size I) (h0 : I zs.length w) (a₁ : Fin zs.length → Nat → Act) (asg : Fin zs.length → World → World)
    (I2 : Nat → Nat → World → Prop) (hI2 : ∀ p, OwnFrom w.heap.size (fun k => I2 k p)) (hasg : ∀ (k : Nat) (hk : k < zs.length) (W : World), w.heap.size ≤ W.heap.size → I (k + 1) W → KeepsFrom w.heap.size W (asg ⟨k, hk⟩ W) ∧ KpB n₀ Bs W (asg ⟨k, hk⟩ W) ∧ I2 k W.heap.size (asg ⟨k, hk⟩ W))
    (hassign : ∀ (l : Nat) (x : Fin zs.length) (W : World) (K : Act → World → Prop), K (a₁ x W.heap.size) (asg x W) →
      assign.wpIn (F.inRound l) (n - 1 - 1) Try.prog (Exit.then K (fun _ _ _ => False)) { tmps := (ps.zip #[.int .i64 (x.val : Int), .agg #[.int .i64 (zs[x.val]'x.isLt).1, .int .i64 (zs[x.val]'x.isLt).2]]).foldl (fun t (p, v) => t.setIfInBounds p v) a.tmps, defers := [] } W)
    (hbody : ∀ (l k : Nat) (hk : k < zs.length) (p : Nat) (W : World), I2 k p W → body.wpIn (F.inRound l) (n - 1 - 1) Try.prog (nrmW fun W' => KeepsFrom w.heap.size W W' ∧ KpB n₀ Bs W W' ∧ I k W') (a₁ ⟨k, hk⟩ p) W)
    (hdone : ∀ (D : Nat) (W : World), w.heap.size ≤ D → I 0 W → W.heap[D]? = some (.deferred (some [])) → Q .normal { a with defers := { target := .collected D, args := #[] } :: a.defers } W) :
    (Code.rangeFunc g ps assign body).wpIn F n Try.prog Q a w := by
  refine wpIn_rangeFunc fun fn hfn => ?_
  rw [hro]
  generalize hL : w.heap.size + 1 = L
  let r0 : Loop := { state := .ready, pending := none, fn, tmps := a.tmps, params := ps, assign, body, defers := w.heap.size }
  generalize hW1 : (w.alloc (.deferred (some []))).alloc (.loop r0) = W1
  have s1 : W1.heap.size = w.heap.size + 2 := by rw [← hW1]; simp
  have hl1 : W1.heap[L]? = some (.loop r0) := by
    have := World.alloc_heap_new (w.alloc (.deferred (some []))) (.loop r0)
    rw [World.size_alloc, hL, hW1] at this
    exact this
  have hd1 : W1.heap[w.heap.size]? = some (.deferred (some [])) := by
    rw [← hW1]
    exact (Below.heap_alloc _ _ _ (by simp)).trans (World.alloc_heap_new w _)
  have hB1 : Below w.heap.size w W1 := by rw [← hW1]; exact ((Below.refl _ w).alloc (Nat.le_refl _) _).alloc (by simp) _
  refine ⟨L, [{ target := .collected w.heap.size, args := #[] }], W1, { target := .fn (.func 92) #[.pointer (some ⟨Bs, 0, none⟩)], args := #[.func (.yield L) #[] #[]] }, W1, 92, #[.func (.yield L) #[] #[], .pointer (some ⟨Bs, 0, none⟩)], W1, ?_, ?_, ?_, ?_, fun _ => by omega, ?_⟩
  · rw [run_enterLoop_outer, hW1, hL]
  · simp only [resolve, hg]
    simp [go_sem]
  · intro f' hf'
    simp [Target.leads] at hf'
    subst hf'
    exact h92
  · simp [invoke, go_sem, enters_of Try.func92 (by kernel_rfl) rfl]
  · have hK : ∀ (X : World) (j : Nat) (o o' : Loop), w.heap.size ≤ j → X.heap[j]? = some (.loop o) → KpB n₀ Bs X (X.putObj j (.loop o')) := fun X j o o' hj ho => ⟨belowK_b (w := w) hn₀ X j _ _ hj ho rfl rfl, World.putObj_heap_other (by omega)⟩
    refine (backN_in F (n - 1) h92 hro (by omega) L Bs n₀ b off cap zs hreach hb (fun k W => I k W ∧ W.heap[L]? = some (.loop r0) ∧ W.heap[w.heap.size]? = some (.deferred (some []))) ?_ W1
      ((hB1.cell (p := ⟨Bs, 0, none⟩) hBl).trans hBs) (fun j hj => ⟨(hB1.cell (p := ⟨b, off + j * 2, none⟩) (by show b < _; omega)).trans (hc j hj).1, (hB1.cell (p := ⟨b, off + j * 2 + 1, none⟩) (by show b < _; omega)).trans (hc j hj).2⟩) ⟨by rw [← hW1]; exact hI.alloc _ (hI.alloc _ h0), hl1, hd1⟩).mono ?_
    · rintro k hk W ⟨hi, hl, hd⟩
      have hltW := (Array.getElem?_eq_some_iff.1 hl).1
      obtain ⟨q1, q2, q3⟩ := hasg k hk W (by omega) hi
      have hlA := q1.same _ _ (by omega) hl rfl
      have hdA := q1.same _ _ (Nat.le_refl _) hd rfl
      have hlt := (Array.getElem?_eq_some_iff.1 hlA).1
      refine ⟨_, _, _, _, run_yield (r := r0) hl (by rw [show r0.params = ps from rfl, hps]; rfl), roundIn_of_wpIn hfn (hassign L ⟨k, hk⟩ W _ ⟨_, run_beginRound hlA rfl, ?_⟩)⟩
      have hi2 := (hI2 W.heap.size).putObj (.loop { r0 with state := .busy }) q3 (by omega) hlA rfl
      have hl2 : ((asg ⟨k, hk⟩ W).putObj L (.loop { r0 with state := .busy })).heap[L]? = some (.loop { r0 with state := .busy }) := World.putObj_heap_same hlt
      have hd2 : ((asg ⟨k, hk⟩ W).putObj L (.loop { r0 with state := .busy })).heap[w.heap.size]? = some (.deferred (some [])) := (World.putObj_heap_other (by omega)).trans hdA
      refine wpIn_mono (hbody L k hk W.heap.size _ hi2) ?_
      intro e a3 W3 hp
      cases e with
      | normal =>
        obtain ⟨k1, k2, k3⟩ := hp
        have hl3 := k1.same _ _ (by omega) hl2 rfl
        have hd3 := k1.same _ _ (Nat.le_refl _) hd2 rfl
        exact ⟨_, _, run_endRound none hl3, rfl, ⟨hI.putObj _ k3 (by omega) hl3 rfl, World.putObj_heap_same (Array.getElem?_eq_some_iff.1 hl3).1, (World.putObj_heap_other (by omega)).trans hd3⟩,
          (q2.trans ((hK _ L _ _ (by omega) hlA).trans k2)).trans (hK W3 L _ _ (by omega) hl3)⟩
      | _ => exact hp.elim
    · rintro e W2 ⟨⟨v, rfl⟩, hi, hl, hd⟩
      exact ⟨none, _, run_endLoop hl (by simp [r0]), hdone _ _ (Nat.le_refl _) (hI.putObj _ hi (by omega) hl rfl) ((World.putObj_heap_other (by omega)).trans hd)⟩
end Go.Proofs.Ytnlbhjmbaedadaa
