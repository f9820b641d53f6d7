/- Reign: plain laws: sums of fractions, sums of rests, and proofs. -/
import Derived.Test.YtombednapelokaaMb
set_option linter.unusedVariables false
set_option linter.unusedSimpArgs false
namespace Go.Proofs.Ytombednapelokaa
open Go.Vi
/-! ### Values within bounds -/
structure Bd (f : Frc) : Prop where
  dp : 1 ≤ f.2
  dl : f.2 ≤ 72
  np : 0 ≤ f.1
  nl : f.1 ≤ 100 * f.2
/-! ### Fractions of any sign in lowest terms -/
def redZ (a : Int) (b : Nat) : Frc := (a.tdiv (Nat.gcd a.natAbs b : Nat), ((b / Nat.gcd a.natAbs b : Nat) : Int))
theorem absI (a : Int) : (if (0 - a) > a then (0 - a) else a) = ((a.natAbs : Nat) : Int) := by
  split <;> omega
theorem tdiv_abs_le (a : Int) (g : Nat) : (a.tdiv g).natAbs ≤ a.natAbs := by
  rw [Int.natAbs_tdiv]
  exact Nat.div_le_self _ _
theorem reducedZ_eq {n : Nat × Nat} (hn : 100000000000000000000 ≤ n.1) {a : Int} {b : Nat} (hb : 0 < b) (h1 : a.natAbs ≤ 9223372036854775807) (h2 : b ≤ 9223372036854775807) : D98 n a (b : Int) = some (redZ a b) := by
  unfold D98 D105
  have hw : wr .i64 (0 - a) = 0 - a := wr_ok (by omega) (by omega)
  rw [hw, absI, gcd_loop n n.1 a.natAbs b (by omega)]
  have hg : 0 < Nat.gcd a.natAbs b := Nat.gcd_pos_of_pos_right _ hb
  have h0 : (((Nat.gcd a.natAbs b : Nat) : Int) == 0) = false := by
    simp
    omega
  simp only [Option.bind_some, h0, cond_false]
  have l1 := tdiv_abs_le a (Nat.gcd a.natAbs b)
  have l2 : b / Nat.gcd a.natAbs b ≤ b := Nat.div_le_self _ _
  have e2 : Int.tdiv (b : Int) (Nat.gcd a.natAbs b : Nat) = ((b / Nat.gcd a.natAbs b : Nat) : Int) := rfl
  rw [e2, wr_nat (Nat.le_trans l2 h2), wr_ok (by omega) (by omega)]
  rfl
/-- What a fraction in lowest terms is. -/
theorem redZ_spec (a : Int) {b : Nat} (hb : 0 < b) : ∃ (p : Int) (q g : Nat), redZ a b = (p, (q : Int)) ∧ 0 < g ∧ 0 < q ∧ a = p * g ∧ b = q * g ∧ Nat.gcd p.natAbs q = 1 := by
  have hg : 0 < Nat.gcd a.natAbs b := Nat.gcd_pos_of_pos_right _ hb
  have hd : (((Nat.gcd a.natAbs b : Nat) : Int)) ∣ a := Int.natAbs_dvd_natAbs.1 (by rw [Int.natAbs_natCast]; exact Nat.gcd_dvd_left _ _)
  refine ⟨a.tdiv (Nat.gcd a.natAbs b : Nat), b / Nat.gcd a.natAbs b, Nat.gcd a.natAbs b, rfl, hg, Nat.div_pos (Nat.le_of_dvd hb (Nat.gcd_dvd_right _ _)) hg, (Int.tdiv_mul_cancel hd).symm, (Nat.div_mul_cancel (Nat.gcd_dvd_right _ _)).symm, ?_⟩
  rw [Int.natAbs_tdiv, Int.natAbs_natCast]
  exact Nat.coprime_div_gcd_div_gcd hg
/-! ### The sum of two fractions -/
/-! ### Sums of rests -/
theorem rest_bound {s f : Frc} (hs : 0 ≤ s.1 ∧ s.1 ≤ 100 ∧ 1 ≤ s.2 ∧ s.2 ≤ 9) (hf : Bd f) : wr .i64 (s.2 * (wr .i64 ((wr .i64 (s.1 * f.2)) - f.1))) = s.2 * (s.1 * f.2 - f.1) ∧ (s.2 * (s.1 * f.2 - f.1)).natAbs ≤ 900 * f.2.toNat := by
  have h1 := hf.dp
  have h2 := hf.dl
  have h3 := hf.np
  have h4 := hf.nl
  have m0 : 0 ≤ s.1 * f.2 := Int.mul_nonneg hs.1 (by omega)
  have m1 : s.1 * f.2 ≤ 100 * f.2 := Int.mul_le_mul_of_nonneg_right hs.2.1 (by omega)
  have m2 : (s.1 * f.2 - f.1).natAbs ≤ 100 * f.2.toNat := by omega
  have m3 : (s.2 * (s.1 * f.2 - f.1)).natAbs ≤ 9 * (100 * f.2.toNat) := by
    rw [Int.natAbs_mul]
    exact Nat.mul_le_mul (by omega) m2
  have m4 : f.2.toNat ≤ 72 := by omega
  rw [wr_ok (x := s.1 * f.2) (by omega) (by omega), wr_ok (x := s.1 * f.2 - f.1) (by omega) (by omega), wr_ok (x := s.2 * (s.1 * f.2 - f.1)) (by omega) (by omega)]
  exact ⟨rfl, by omega⟩
end Go.Proofs.Ytombednapelokaa
