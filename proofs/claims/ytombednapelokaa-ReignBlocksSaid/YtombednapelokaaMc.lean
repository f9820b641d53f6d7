/- Reign: plain laws: the formula of means, of the program and of the reference. -/
import Derived.Test.YtombednapelokaaMb
set_option linter.unusedVariables false
set_option linter.unusedSimpArgs false
namespace Go.Proofs.Ytombednapelokaa
open Go.Vi
def Row (l : List Src) (a i k : Nat) (x : Frc) : Prop := ∃ b, i ≤ b ∧ b < k ∧ x = M l a b
theorem Row_Fr {l : List Src} (h : Ok l) {a i : Nat} (ha : a ≤ i) {x : Frc} (hx : Row l a i l.length x) : Fr x := by
  obtain ⟨b, h1, h2, rfl⟩ := hx
  exact M_Fr h (by omega) h2
def HiS (l : List Src) (i : Nat) (h : Frc) : Prop := ∃ O : List Frc, O.length = i + 1 ∧ (∀ j (hj : j < O.length), Bst fle (Row l j i l.length) O[j]) ∧ Bst fge (· ∈ O) h
section
variable {n : Nat × Nat} (hn : 4611686018427387904 ≤ n.1) {l : List Src} (ho : Ok l)
include hn ho
/-! The smallest of the greatest -/
end
end Go.Proofs.Ytombednapelokaa
