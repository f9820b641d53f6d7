/- Texts of this claim, joined: G5 to Co5. -/
import Derived.KernelRfl
import Derived.Test.YtjgmfdgpgdaclaaProg
import Derived.WalkKit
import Derived.Test.YtjgmfdgpgdaclaaP8
set_option linter.unusedVariables false
set_option linter.unusedSimpArgs false
set_option maxRecDepth 100000
namespace Go.Proofs.Ytjgmfdgpgdaclaa
open Go.Vi
/- headword/headwordlaw12.CoinWith -/
abbrev R5 := Bool
noncomputable def c5 : Code := bodyOf Try.f5
noncomputable def an5 : Ann := (.s .l (.s (.s .l (.j [0, 1, 2, 47, 48, 49, 52, 53, 54, 57, 58, 59, 62] .l .l)) .l))
def pk5 : List PK := [.c (.sl (.int .i64)), .c (.int .i64), .c (.int .i64)]
def rk5 : List RK := [.c .bool 6]
noncomputable def rt5 (st : St) : Option R5 := rtG rk5 st
noncomputable def E5 (n : Nat × Nat) : Env := { T := tab, phi := (consPhi 17 (fun _ => true) (P17 n) (consPhi 33 (fun _ => true) (P33 n) (consPhi 34 (fun _ => true) (P34 n) (consPhi 35 (fun _ => true) (P35 n) (consPhi 36 (fun _ => true) (P36 n) noPhi))))), eff := fun _ => false, fuel := n.1, hold := n.2 }
noncomputable def kq5_1 (n : Nat × Nat) : St → Option R5 := run (E5 n) (cB (cB c5)) (Ann.snd (Ann.snd an5)) rt5 (fun _ _ => none) rt5
noncomputable def kc5_2 (n : Nat × Nat) : St → Option R5 := fun s => normC [0, 1, 2, 47, 48, 49, 52, 53, 54, 57, 58, 59, 62] s (kq5_1 n)
noncomputable def S5 (n : Nat × Nat) (coins0 : List Int) (one1 : Int) (many2 : Int) : Option R5 := run (E5 n) c5 an5 rt5 (fun _ _ => none) rt5 { tm := [.c (.sl (.int .i64) coins0 false), .c (.int .i64 one1), .c (.int .i64 many2), uu, uu, uu, uu, uu, uu, uu, uu, uu, uu, uu, uu, uu, uu, uu, uu, uu, uu, uu, uu, uu, uu, uu, uu, uu, uu, uu, uu, uu, uu, uu, uu, uu, uu, uu, uu, uu, uu, uu, uu, uu, uu, uu, uu, uu, uu, uu, uu, uu, uu, uu, uu, uu, uu, uu, uu, uu, uu, uu, uu, uu], hp := emp }
theorem S5_eq (n : Nat × Nat) (coins0 : List Int) (one1 : Int) (many2 : Int) : S5 n coins0 one1 many2 =
    (bif decide ((coins0.length : Int) > 40) then (S17 n).bind fun r1' =>
      some r1'
    else (S33 n coins0 one1).bind fun r2' =>
      (S34 n coins0 one1).bind fun r3' =>
      (S35 n coins0 many2).bind fun r4' =>
      (S36 n coins0 many2).bind fun r5' =>
      ((bif ((r2'.1 == r3'.1) == true) then some (r2'.2 == r3'.2)
        else some false)).bind fun b6' =>
      ((bif (b6' == true) then some (r4'.1 == r5'.1)
        else some false)).bind fun b7' =>
      ((bif (b7' == true) then some (r4'.2 == r5'.2)
        else some false)).bind fun b8' =>
      ((bif (b8' == true) then (S17 n).bind fun r9' =>
          some r9'
        else some false)).bind fun b10' =>
      some b10') := by kernel_rfl
theorem S5_run (n : Nat × Nat) (xs : pksDen pk5) : S5 n xs.1 xs.2.1 xs.2.2.1 = runG (E5 n) noScope c5 an5 (rtG rk5) (fun _ _ => none) (rtG rk5) (st0 pk5 xs Try.f5.ntmps) := by kernel_rfl
noncomputable def P5 (n : Nat × Nat) := phiOf pk5 rk5 (fun xs => S5 n xs.1 xs.2.1 xs.2.2.1)
theorem call5 : CallOK Try.prog 5 := callOK_of Try.func5 (by kernel_rfl) (by kernel_rfl)
theorem env5 (n : Nat × Nat) : EnvOK Try.prog (E5 n) := envOK0 (consPhi_ok (FC17 n) call17 (consPhi_ok (FC33 n) call33 (consPhi_ok (FC34 n) call34 (consPhi_ok (FC35 n) call35 (consPhi_ok (FC36 n) call36 noPhi_ok))))) rfl rfl
theorem par5 (n : Nat × Nat) : EnvPar (E5 n) := envPar0 (consPhi_par phiOf_Par1 (consPhi_par phiOf_Par1 (consPhi_par phiOf_Par1 (consPhi_par phiOf_Par1 (consPhi_par phiOf_Par1 noPhi_par))))) rfl
theorem FC5 (n : Nat × Nat) : FCs Try.prog 5 (P5 n) := phiOf_FCs fun xs r h vs hv => FC.of_runG tabOK eqsOK (env5 n) (par5 n) mixed (fun _ => noScope_ok) Try.func5 (c := c5) (an := an5) (pks := pk5) (rks := rk5) (by kernel_rfl) (by kernel_rfl) hv ((S5_run n xs).symm.trans h)
end Go.Proofs.Ytjgmfdgpgdaclaa
set_option linter.unusedVariables false
set_option linter.unusedSimpArgs false
set_option maxRecDepth 100000
namespace Go.Proofs.Ytjgmfdgpgdaclaa
open Go.Vi
/-D 5 -/
noncomputable def D5 (n : Nat × Nat) (coins0 : List Int) (one1 : Int) (many2 : Int) : Option R5 :=
    (bif decide ((coins0.length : Int) > 40) then (D17 n).bind fun r1' =>
      some r1'
    else (D33 n coins0 one1).bind fun r2' =>
      (D34 n coins0 one1).bind fun r3' =>
      (D35 n coins0 many2).bind fun r4' =>
      (D36 n coins0 many2).bind fun r5' =>
      ((bif ((r2'.1 == r3'.1) == true) then some (r2'.2 == r3'.2)
        else some false)).bind fun b6' =>
      ((bif (b6' == true) then some (r4'.1 == r5'.1)
        else some false)).bind fun b7' =>
      ((bif (b7' == true) then some (r4'.2 == r5'.2)
        else some false)).bind fun b8' =>
      ((bif (b8' == true) then (D17 n).bind fun r9' =>
          some r9'
        else some false)).bind fun b10' =>
      some b10')
theorem S5_D (n : Nat × Nat) (hn : n.2 = 1) : S5 n = D5 n := by
  funext coins0 one1 many2; refine (S5_eq n coins0 one1 many2).trans ?_
  unfold D5
  (try simp only [S17_D n hn, S33_D n hn, S34_D n hn, S35_D n hn, S36_D n hn]) <;> first | with_reducible rfl | rfl
end Go.Proofs.Ytjgmfdgpgdaclaa
/-
  Coins: the law CoinWith.
-/
set_option linter.unusedVariables false
set_option linter.unusedSimpArgs false
namespace Go.Proofs.Ytjgmfdgpgdaclaa
open Go.Vi
theorem with_ok (cs : List Int) (one many : Int) : S5 N cs one many = some true := by
  rw [S5_D N rfl]
  unfold D5
  rw [with_eq hN1, rwith_eq hN1, reach_eq hN1, rreach_eq hN1, works_eq]
  simp only [Option.bind_some, beq_self_eq_true, cond_true]
  cases decide ((cs.length : Int) > 40) <;> rfl
end Go.Proofs.Ytjgmfdgpgdaclaa
