/- Reign: plain laws: joined: neighbours are joined until values rise: these are the nearest values. -/
import Derived.Test.YtombednapelokaaMs
set_option linter.unusedVariables false
set_option linter.unusedSimpArgs false
namespace Go.Proofs.Ytombednapelokaa
open Go.Vi
/-! ### The mean of the law -/
theorem jsum_loop (n : Nat × Nat) (l : List Src) (ho : Ok l) : ∀ (m k a b : Nat), k ≤ l.length → l.length - k < m → a + ysum (l.drop k) = ysum l → b + tsum (l.drop k) = tsum l → DL66_1 n m (a : Int) (b : Int) l (l.length : Int) (k : Int) = some (((ysum l : Nat) : Int), ((tsum l : Nat) : Int))
  | 0, k, _, _, _, h, _, _ => by omega
  | m + 1, k, a, b, hk, h, ha, hb => by
    have hs := Ok.sums ho.2
    have hle := ho.1
    rw [DL66_1_succ]
    unfold DF66_1
    by_cases hlt : k < l.length
    · rw [show decide ((k : Int) < (l.length : Int)) = true by simpa using hlt, cond_true, idx_nat hlt]
      have hk2 := ho.2 l[k] (List.getElem_mem hlt)
      have hp := prod_cast hk2
      rw [ysum_drop hlt] at ha
      rw [tsum_drop hlt] at hb
      simp only [Option.bind_some]
      rw [hp, wr_ok (x := ((l[k].1.toNat * l[k].2.toNat : Nat) : Int)) (by omega) (by omega), wr_ok (x := (a : Int) + _) (by omega) (by omega), wr_ok (x := (b : Int) + _) (by omega) (by omega), wr_ok (x := (k : Int) + 1) (by omega) (by omega)]
      have ih := jsum_loop n l ho m (k + 1) (a + l[k].1.toNat * l[k].2.toNat) (b + l[k].2.toNat) (by omega) (by omega) (by omega) (by omega)
      rw [show (a : Int) + ((l[k].1.toNat * l[k].2.toNat : Nat) : Int) = ((a + l[k].1.toNat * l[k].2.toNat : Nat) : Int) by omega, show (b : Int) + l[k].2 = ((b + l[k].2.toNat : Nat) : Int) by omega,
        show (k : Int) + 1 = ((k + 1 : Nat) : Int) by omega]
      exact ih
    · rw [show decide ((k : Int) < (l.length : Int)) = false by simpa using hlt, cond_false]
      rw [List.drop_of_length_le (by omega)] at ha hb
      simp only [ysum, tsum, Nat.add_zero] at ha hb
      rw [ha, hb]
theorem jmean_eq {n : Nat × Nat} (hn : 4611686018427387904 ≤ n.1) {l : List Src} (ho : Ok l) (hne : 0 < l.length) : D50 n l = some (mn l) := by
  have hs := Ok.sums ho.2
  have hle := ho.1
  unfold D50 D66
  have h1 := jsum_loop n l ho n.1 0 0 0 (by omega) (by omega) (by simp) (by simp)
  simp only [Int.natCast_zero] at h1
  rw [h1]
  simp only [Option.bind_some]
  have hg : 0 < Nat.gcd (ysum l) (tsum l) := Nat.gcd_pos_of_pos_right _ (by omega)
  have h0 : (((Nat.gcd (ysum l) (tsum l) : Nat) : Int) == 0) = false := by
    simp
    omega
  rw [common_eq (by omega) (by omega) (by omega)]
  simp only [Option.bind_some, h0, cond_false]
  have l1 : ysum l / Nat.gcd (ysum l) (tsum l) ≤ ysum l := Nat.div_le_self _ _
  have l2 : tsum l / Nat.gcd (ysum l) (tsum l) ≤ tsum l := Nat.div_le_self _ _
  have e1 : Int.tdiv (ysum l : Int) (Nat.gcd (ysum l) (tsum l) : Nat) = ((ysum l / Nat.gcd (ysum l) (tsum l) : Nat) : Int) := rfl
  have e2 : Int.tdiv (tsum l : Int) (Nat.gcd (ysum l) (tsum l) : Nat) = ((tsum l / Nat.gcd (ysum l) (tsum l) : Nat) : Int) := rfl
  rw [e1, e2, wr_nat (by omega), wr_nat (by omega)]
  rfl
/-! ### Ends of blocks -/
def SegE (l : List Src) : Nat → List Nat → Prop
  | b, [] => b = l.length
  | b, e :: r => b < e ∧ e ≤ l.length ∧ Loc l b e ∧ SegE l e r
def ltM (a b : Frc) : Prop := a.1 * b.2 < b.1 * a.2
def lst : List Nat → Nat → Nat
  | [], b => b
  | e :: r, _ => lst r e
def ci (E : List Nat) : List Int := List.map (fun (e : Nat) => (e : Int)) E
theorem SegE.at {l : List Src} : ∀ {A : List Nat} {b x : Nat} {r : List Nat}, SegE l b (A ++ x :: r) → lst A b < x ∧ x ≤ l.length ∧ Loc l (lst A b) x ∧ SegE l x r ∧ b ≤ lst A b ∧ A.length + b ≤ lst A b
  | [], b, x, r, h => ⟨h.1, h.2.1, h.2.2.1, h.2.2.2, Nat.le_refl _, by simp [lst]⟩
  | a :: A, b, x, r, h => by
    obtain ⟨h1, h2, h3, h4⟩ := h
    obtain ⟨i1, i2, i3, i4, i5, i6⟩ := SegE.at h4
    exact ⟨i1, i2, i3, i4, by show b ≤ lst A a; omega, by show (A.length + 1) + b ≤ lst A a; omega⟩
theorem SegE.join {l : List Src} (ho : Ok l) : ∀ {A : List Nat} {b x y : Nat} {r : List Nat}, SegE l b (A ++ x :: y :: r) → fle (Mx l x y) (Mx l (lst A b) x) → SegE l b (A ++ y :: r)
  | [], b, x, y, r, h, hf => by
    obtain ⟨h1, h2, h3, h4, h5, h6, h7⟩ := h
    exact ⟨by omega, h5, Loc.join ho h1 h4 h5 h3 h6 hf, h7⟩
  | a :: A, b, x, y, r, h, hf => ⟨h.1, h.2.1, h.2.2.1, SegE.join ho h.2.2.2 hf⟩
section
variable {n : Nat × Nat} (hn : 4611686018427387904 ≤ n.1) {l : List Src} (ho : Ok l)
include hn ho
theorem jseg {a c : Nat} (h : a < c) (hc : c ≤ l.length) : bounds (some (a : Int)) (some (c : Int)) none l.length = true ∧ D50 n ((l.take (Int.toNat (c : Int))).drop (Int.toNat (a : Int))) = some (Mx l a c) := by
  refine ⟨by simp [bounds]; omega, ?_⟩
  rw [Int.toNat_natCast, Int.toNat_natCast]
  exact jmean_eq hn ((ho.take _).drop _) (by simp; omega)
omit hn ho in
theorem SegE.len : ∀ {E : List Nat} {b : Nat}, SegE l b E → E.length + b ≤ l.length
  | [], b, h => by have : b = l.length := h; simp; omega
  | e :: E, b, h => by have := SegE.len h.2.2.2; have := h.1; simp; omega
end
end Go.Proofs.Ytombednapelokaa
