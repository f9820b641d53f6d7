/- Reign: plain laws: means of parts, fractions compared, and the formula of means. -/
import Derived.Test.YtombednapelokaaMa
set_option linter.unusedVariables false
set_option linter.unusedSimpArgs false
namespace Go.Proofs.Ytombednapelokaa
open Go.Vi
theorem orB (x y : Bool) : (bif (x == false) then some y else some true) = some (x || y) := by cases x <;> rfl
theorem andB (x y : Bool) : (bif (x == true) then some y else some false) = some (x && y) := by cases x <;> rfl
/-! ### Fractions -/
abbrev Frc := Int × Int
structure Fr (f : Frc) : Prop where
  dp : 0 < f.2
  dl : f.2 ≤ 72
  np : 0 ≤ f.1
  nl : f.1 ≤ 7200
  cop : Nat.gcd f.1.toNat f.2.toNat = 1
def fle (a b : Frc) : Prop := a.1 * b.2 ≤ b.1 * a.2
def fge (a b : Frc) : Prop := fle b a
theorem fle_trans {a b c : Frc} (ha : 0 < a.2) (hb : 0 < b.2) (hc : 0 < c.2) (h1 : fle a b) (h2 : fle b c) : fle a c := by
  unfold fle at *
  have e1 := Int.mul_le_mul_of_nonneg_right h1 (Int.le_of_lt hc)
  have e2 := Int.mul_le_mul_of_nonneg_right h2 (Int.le_of_lt ha)
  have e3 : a.1 * c.2 * b.2 ≤ c.1 * a.2 * b.2 := by
    have x1 : a.1 * b.2 * c.2 = a.1 * c.2 * b.2 := by rw [Int.mul_assoc, Int.mul_comm b.2 c.2, ← Int.mul_assoc]
    have x2 : b.1 * a.2 * c.2 = b.1 * c.2 * a.2 := by rw [Int.mul_assoc, Int.mul_comm a.2 c.2, ← Int.mul_assoc]
    have x3 : c.1 * b.2 * a.2 = c.1 * a.2 * b.2 := by rw [Int.mul_assoc, Int.mul_comm b.2 a.2, ← Int.mul_assoc]
    omega
  exact Int.le_of_mul_le_mul_right e3 hb
theorem fle_anti {a b : Frc} (ha : Fr a) (hb : Fr b) (h1 : fle a b) (h2 : fle b a) : a = b := by
  have e : a.1 * b.2 = b.1 * a.2 := Int.le_antisymm h1 h2
  obtain ⟨p, q⟩ := a
  obtain ⟨r, s⟩ := b
  obtain ⟨p, rfl⟩ := Int.eq_ofNat_of_zero_le ha.np
  obtain ⟨q, rfl⟩ := Int.eq_ofNat_of_zero_le (Int.le_of_lt ha.dp)
  obtain ⟨r, rfl⟩ := Int.eq_ofNat_of_zero_le hb.np
  obtain ⟨s, rfl⟩ := Int.eq_ofNat_of_zero_le (Int.le_of_lt hb.dp)
  have e' : p * s = r * q := by
    have e2 : (p : Int) * (s : Int) = (r : Int) * (q : Int) := e
    exact_mod_cast e2
  have c1 : Nat.gcd p q = 1 := ha.cop
  have c2 : Nat.gcd r s = 1 := hb.cop
  have hq : 0 < q := by have := ha.dp; simpa using this
  have d1 : q ∣ s := (Nat.Coprime.dvd_of_dvd_mul_left (Nat.Coprime.symm c1) (by rw [e']; exact Nat.dvd_mul_left q r))
  have d2 : s ∣ q := (Nat.Coprime.dvd_of_dvd_mul_left (Nat.Coprime.symm c2) (by rw [← e']; exact Nat.dvd_mul_left s p))
  have hqs := Nat.dvd_antisymm d1 d2
  subst hqs
  have := Nat.eq_of_mul_eq_mul_right hq e'
  subst this
  rfl
theorem prodb {x y : Int} (h1 : 0 ≤ x) (h2 : x ≤ 7200) (h3 : 0 < y) (h4 : y ≤ 72) : 0 ≤ x * y ∧ x * y ≤ 518400 := by
  refine ⟨Int.mul_nonneg h1 (Int.le_of_lt h3), ?_⟩
  have := Int.mul_le_mul h2 h4 (Int.le_of_lt h3) (by omega)
  omega
theorem cmp_eq (n : Nat × Nat) {a b : Frc} (ha : Fr a) (hb : Fr b) : D88 n a b = some (a.1 * b.2 - b.1 * a.2) := by
  have h1 := prodb ha.np ha.nl hb.dp hb.dl
  have h2 := prodb hb.np hb.nl ha.dp ha.dl
  unfold D88
  rw [wr_ok (x := a.1 * b.2) (by omega) (by omega), wr_ok (x := b.1 * a.2) (by omega) (by omega), wr_ok (by omega) (by omega)]
theorem red_Fr {num den : Nat} (hd : 0 < den) (hl : den ≤ 72) (hn : num ≤ 7200) : Fr (red num den) := by
  have hg : 0 < Nat.gcd num den := Nat.gcd_pos_of_pos_right _ hd
  have l1 : num / Nat.gcd num den ≤ num := Nat.div_le_self _ _
  have l2 : den / Nat.gcd num den ≤ den := Nat.div_le_self _ _
  have l3 : 0 < den / Nat.gcd num den := Nat.div_pos (Nat.le_of_dvd hd (Nat.gcd_dvd_right _ _)) hg
  unfold red
  refine ⟨?_, ?_, ?_, ?_, ?_⟩
  · show (0 : Int) < ((den / Nat.gcd num den : Nat) : Int)
    omega
  · show ((den / Nat.gcd num den : Nat) : Int) ≤ 72
    omega
  · show (0 : Int) ≤ ((num / Nat.gcd num den : Nat) : Int)
    exact Int.natCast_nonneg _
  · show ((num / Nat.gcd num den : Nat) : Int) ≤ 7200
    have := Nat.div_le_self num (Nat.gcd num den)
    omega
  · show Nat.gcd ((num / Nat.gcd num den : Nat) : Int).toNat ((den / Nat.gcd num den : Nat) : Int).toNat = 1
    rw [Int.toNat_natCast, Int.toNat_natCast]
    exact Nat.coprime_div_gcd_div_gcd hg
theorem mn_Fr {l : List Src} (h : Ok l) (hl : 0 < l.length) : Fr (mn l) := by
  have hs := Ok.sums h.2
  have := h.1
  exact red_Fr (by omega) (by omega) (by omega)
/-- The mean of the sources from a to b. -/
def M (l : List Src) (a b : Nat) : Frc := mn ((l.take (b + 1)).drop a)
theorem M_Fr {l : List Src} (h : Ok l) {a b : Nat} (hab : a ≤ b) (hb : b < l.length) : Fr (M l a b) :=
  mn_Fr ((h.take _).drop _) (by simp; omega)
/-! ### The best of some -/
def Bst (R : Frc → Frc → Prop) (S : Frc → Prop) (m : Frc) : Prop := S m ∧ ∀ x, S x → R m x
theorem Bst.congr {R : Frc → Frc → Prop} {S S' : Frc → Prop} {m : Frc} (h : Bst R S m) (e : ∀ x, S' x ↔ S x) : Bst R S' m :=
  ⟨(e m).2 h.1, fun x hx => h.2 x ((e x).1 hx)⟩
/-! ### The least and the greatest of a list -/
end Go.Proofs.Ytombednapelokaa
