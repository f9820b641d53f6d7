/- Reign: plain laws of the functions that check, fall, copy, and take means. -/
import Derived.Test.YtombednapelokaaCD1
set_option linter.unusedVariables false
set_option linter.unusedSimpArgs false
namespace Go.Proofs.Ytombednapelokaa
open Go.Vi
theorem wr_ok {x : Int} (h1 : -9223372036854775808 ≤ x) (h2 : x ≤ 9223372036854775807) : wr .i64 x = x := by
  have : wr .i64 x = (x + 9223372036854775808) % 18446744073709551616 - 9223372036854775808 := by
    simp only [wr, IntKind.wrap, IntKind.signed, IntKind.bits]
    simp
    split <;> omega
  rw [this]
  omega
theorem wr_nat {x : Nat} (h : x ≤ 9223372036854775807) : wr .i64 (x : Int) = x := wr_ok (by omega) (by omega)
theorem idx_nat {α : Type} {l : List α} {k : Nat} (h : k < l.length) : idx l (k : Int) = some l[k] := by
  unfold idx
  rw [if_pos (by omega), Int.toNat_natCast, List.getElem?_eq_getElem h]
theorem drop_cons {α : Type} {l : List α} {k : Nat} (h : k < l.length) : l.drop k = l[k] :: l.drop (k + 1) := List.drop_eq_getElem_cons h
abbrev Src := Int × Int
def okS (s : Src) : Bool := decide (0 ≤ s.1) && decide (s.1 ≤ 100) && decide (1 ≤ s.2) && decide (s.2 ≤ 9)
/-! ### A copy -/
/-! ### Checks -/
def chk (l : List Src) : Int := if l.length = 0 then 4 else if 8 < l.length then 3 else bif l.all okS then 0 else 1
theorem okS_false {s : Src} (h : s.1 < 0 ∨ 100 < s.1 ∨ s.2 < 1 ∨ 9 < s.2) : okS s = false := by
  unfold okS
  rcases h with h | h | h | h
  · rw [decide_eq_false (by omega : ¬ 0 ≤ s.1)]; simp
  · rw [decide_eq_false (by omega : ¬ s.1 ≤ 100)]; simp
  · rw [decide_eq_false (by omega : ¬ 1 ≤ s.2)]; simp
  · rw [decide_eq_false (by omega : ¬ s.2 ≤ 9)]; simp
theorem okS_true {s : Src} (h1 : 0 ≤ s.1) (h2 : s.1 ≤ 100) (h3 : 1 ≤ s.2) (h4 : s.2 ≤ 9) : okS s = true := by
  unfold okS
  simp [h1, h2, h3, h4]
theorem chk_loop (n : Nat × Nat) (l : List Src) (hl : l.length ≤ 8) : ∀ (m k : Nat), k ≤ l.length → l.length - k < m → DL24_1 n m l (l.length : Int) (k : Int) = some (bif (l.drop k).all okS then 0 else 1)
  | 0, k, _, h => by omega
  | m + 1, k, hk, h => by
    rw [DL24_1_succ]
    unfold DF24_1
    by_cases hlt : k < l.length
    · rw [show decide ((k : Int) < (l.length : Int)) = true by simpa using hlt, cond_true, idx_nat hlt, drop_cons hlt]
      simp only [Option.bind_some, List.all_cons]
      have ih := chk_loop n l hl m (k + 1) (by omega) (by omega)
      rw [show ((k + 1 : Nat) : Int) = wr .i64 ((k : Int) + 1) by rw [wr_ok (by omega) (by omega)]; omega] at ih
      generalize hs : l[k] = s
      by_cases h1 : s.1 < 0
      · rw [okS_false (.inl h1)]; simp [h1]
      by_cases h2 : 100 < s.1
      · rw [okS_false (.inr (.inl h2))]; simp [h1, h2]
      by_cases h3 : s.2 < 1
      · rw [okS_false (.inr (.inr (.inl h3)))]; simp [h1, h2, h3]
      by_cases h4 : 9 < s.2
      · rw [okS_false (.inr (.inr (.inr h4)))]; simp [h1, h2, h3, h4]
      rw [okS_true (by omega) (by omega) (by omega) (by omega)]
      simp only [h1, h2, h3, h4, gt_iff_lt, decide_false, beq_self_eq_true, cond_true, cond_false, Option.bind_some, Bool.true_and]
      exact ih
    · rw [show decide ((k : Int) < (l.length : Int)) = false by simpa using hlt, cond_false, List.drop_of_length_le (by omega)]
      simp
theorem chk_eq {n : Nat × Nat} (hn : 100 ≤ n.1) (l : List Src) : D24 n l = some (chk l) := by
  unfold D24 chk
  by_cases h0 : l.length = 0
  · simp [h0]
  rw [show (((l.length : Int)) == 0) = false by simpa using h0, cond_false, if_neg h0]
  by_cases h8 : 8 < l.length
  · rw [show decide ((l.length : Int) > 8) = true by simp; omega, cond_true, if_pos h8]
  · rw [show decide ((l.length : Int) > 8) = false by simp; omega, cond_false, if_neg h8]
    have := chk_loop n l (by omega) n.1 0 (by omega) (by omega)
    simpa using this
/-- What a passed check says. -/
structure Good (l : List Src) : Prop where
  pos : 0 < l.length
  le : l.length ≤ 8
  all : ∀ s ∈ l, 0 ≤ s.1 ∧ s.1 ≤ 100 ∧ 1 ≤ s.2 ∧ s.2 ≤ 9
theorem good_chk {l : List Src} (h : Good l) : chk l = 0 := by
  unfold chk
  rw [if_neg (by have := h.pos; omega), if_neg (by have := h.le; omega), show l.all okS = true from List.all_eq_true.2 fun s hs => by
    obtain ⟨h1, h2, h3, h4⟩ := h.all s hs
    exact okS_true h1 h2 h3 h4]
  rfl
/-! ### Where they fall -/
/-! ### Divisors -/
theorem gcd_loop (n : Nat × Nat) : ∀ (m : Nat) (a b : Nat), b < m → DL105_1 n m (a : Int) (b : Int) = some ((Nat.gcd a b : Nat) : Int)
  | 0, a, b, h => by omega
  | m + 1, a, b, h => by
    rw [DL105_1_succ]
    unfold DF105_1
    by_cases hb : b = 0
    · subst hb
      simp
    · have h1 : (((b : Int)) != 0) = true := by simpa using hb
      have h2 : (((b : Int)) == 0) = false := by simpa using hb
      rw [h1, cond_true, h2, cond_false]
      have := gcd_loop n m b (a % b) (by have := Nat.mod_lt a (Nat.pos_of_ne_zero hb); omega)
      rw [show Int.tmod (a : Int) (b : Int) = ((a % b : Nat) : Int) from rfl, this]
      congr 2
      rw [Nat.gcd_comm a b, Nat.gcd_rec b a, Nat.gcd_comm]
/-- A fraction in lowest terms, of a number that is not below 0. -/
def red (num den : Nat) : Int × Int := (((num / Nat.gcd num den : Nat) : Int), ((den / Nat.gcd num den : Nat) : Int))
theorem reduced_eq {n : Nat × Nat} {num den : Nat} (hd : 0 < den) (hn : den < n.1) (h1 : num ≤ 9223372036854775807) (h2 : den ≤ 9223372036854775807) : D98 n (num : Int) (den : Int) = some (red num den) := by
  unfold D98 D105
  have hw : wr .i64 (0 - (num : Int)) = 0 - (num : Int) := wr_ok (by omega) (by omega)
  have hif : (if (wr .i64 (0 - (num : Int))) > (num : Int) then (wr .i64 (0 - (num : Int))) else (num : Int)) = (num : Int) := by
    rw [hw]
    split <;> omega
  rw [hif, gcd_loop n n.1 num den hn]
  have hg : 0 < Nat.gcd num den := Nat.gcd_pos_of_pos_right _ hd
  have h0 : (((Nat.gcd num den : Nat) : Int) == 0) = false := by
    simp
    omega
  simp only [Option.bind_some, h0, cond_false]
  have e1 : Int.tdiv (num : Int) (Nat.gcd num den : Nat) = ((num / Nat.gcd num den : Nat) : Int) := rfl
  have e2 : Int.tdiv (den : Int) (Nat.gcd num den : Nat) = ((den / Nat.gcd num den : Nat) : Int) := rfl
  have l1 : num / Nat.gcd num den ≤ num := Nat.div_le_self _ _
  have l2 : den / Nat.gcd num den ≤ den := Nat.div_le_self _ _
  rw [e1, e2, wr_nat (Nat.le_trans l1 h1), wr_nat (Nat.le_trans l2 h2)]
  rfl
/-! ### Means -/
def ysum : List Src → Nat
  | [] => 0
  | s :: r => s.1.toNat * s.2.toNat + ysum r
def tsum : List Src → Nat
  | [] => 0
  | s :: r => s.2.toNat + tsum r
def mn (l : List Src) : Int × Int := red (ysum l) (tsum l)
/-- Sources as they should be, so many at most. -/
def Ok (l : List Src) : Prop := l.length ≤ 8 ∧ ∀ s ∈ l, 0 ≤ s.1 ∧ s.1 ≤ 100 ∧ 1 ≤ s.2 ∧ s.2 ≤ 9
theorem Good.ok {l : List Src} (h : Good l) : Ok l := ⟨h.le, h.all⟩
theorem Ok.drop {l : List Src} (h : Ok l) (k : Nat) : Ok (l.drop k) := ⟨by have := h.1; simp; omega, fun s hs => h.2 s (List.mem_of_mem_drop hs)⟩
theorem Ok.take {l : List Src} (h : Ok l) (k : Nat) : Ok (l.take k) := ⟨by have := h.1; simp; omega, fun s hs => h.2 s (List.mem_of_mem_take hs)⟩
theorem Ok.sums : ∀ {l : List Src}, (∀ s ∈ l, 0 ≤ s.1 ∧ s.1 ≤ 100 ∧ 1 ≤ s.2 ∧ s.2 ≤ 9) → ysum l ≤ 900 * l.length ∧ tsum l ≤ 9 * l.length ∧ l.length ≤ tsum l
  | [], _ => by simp [ysum, tsum]
  | s :: r, h => by
    have ih := Ok.sums (l := r) fun s hs => h s (List.mem_cons_of_mem _ hs)
    have hs := h s (by simp)
    have h1 : s.1.toNat ≤ 100 := by omega
    have h2 : s.2.toNat ≤ 9 := by omega
    have h3 := Nat.mul_le_mul h1 h2
    simp only [ysum, tsum, List.length_cons]
    omega
theorem ysum_drop {l : List Src} {k : Nat} (h : k < l.length) : ysum (l.drop k) = l[k].1.toNat * l[k].2.toNat + ysum (l.drop (k + 1)) := by
  rw [drop_cons h]
  rfl
theorem tsum_drop {l : List Src} {k : Nat} (h : k < l.length) : tsum (l.drop k) = l[k].2.toNat + tsum (l.drop (k + 1)) := by
  rw [drop_cons h]
  rfl
theorem prod_cast {s : Src} (h : 0 ≤ s.1 ∧ s.1 ≤ 100 ∧ 1 ≤ s.2 ∧ s.2 ≤ 9) : s.1 * s.2 = ((s.1.toNat * s.2.toNat : Nat) : Int) := by
  rw [Int.natCast_mul, Int.toNat_of_nonneg h.1, Int.toNat_of_nonneg (by omega)]
theorem mean_loop (n : Nat × Nat) (hn : 4611686018427387904 ≤ n.1) (l : List Src) (ho : Ok l) (hne : 0 < l.length) : ∀ (m k : Nat) (a b : Nat), k ≤ l.length → l.length - k < m → a + ysum (l.drop k) = ysum l → b + tsum (l.drop k) = tsum l →
    DL70_1 n m (a : Int) (b : Int) l (l.length : Int) (k : Int) 0 0 = some (mn l)
  | 0, k, _, _, _, h, _, _ => by omega
  | m + 1, k, a, b, hk, h, ha, hb => by
    have hs := Ok.sums ho.2
    have hle := ho.1
    rw [DL70_1_succ]
    unfold DF70_1
    by_cases hlt : k < l.length
    · rw [show decide ((k : Int) < (l.length : Int)) = true by simpa using hlt, cond_true, idx_nat hlt]
      have hk2 := ho.2 l[k] (List.getElem_mem hlt)
      have hp := prod_cast hk2
      rw [ysum_drop hlt] at ha
      rw [tsum_drop hlt] at hb
      have h1 : l[k].1.toNat ≤ 100 := by omega
      have h2 : l[k].2.toNat ≤ 9 := by omega
      have h3 := Nat.mul_le_mul h1 h2
      simp only [Option.bind_some]
      rw [hp, wr_ok (x := ((l[k].1.toNat * l[k].2.toNat : Nat) : Int)) (by omega) (by omega), wr_ok (x := (a : Int) + _) (by omega) (by omega), wr_ok (x := (b : Int) + _) (by omega) (by omega), wr_ok (x := (k : Int) + 1) (by omega) (by omega)]
      have ih := mean_loop n hn l ho hne m (k + 1) (a + l[k].1.toNat * l[k].2.toNat) (b + l[k].2.toNat) (by omega) (by omega) (by omega) (by omega)
      rw [show (a : Int) + ((l[k].1.toNat * l[k].2.toNat : Nat) : Int) = ((a + l[k].1.toNat * l[k].2.toNat : Nat) : Int) by omega, show (b : Int) + l[k].2 = ((b + l[k].2.toNat : Nat) : Int) by omega,
        show (k : Int) + 1 = ((k + 1 : Nat) : Int) by omega]
      exact ih
    · rw [show decide ((k : Int) < (l.length : Int)) = false by simpa using hlt, cond_false]
      rw [List.drop_of_length_le (by omega)] at ha hb
      simp only [ysum, tsum, Nat.add_zero] at ha hb
      subst ha hb
      rw [reduced_eq (by omega) (by omega) (by omega) (by omega)]
      rfl
theorem mean_eq {n : Nat × Nat} (hn : 4611686018427387904 ≤ n.1) {l : List Src} (ho : Ok l) (hne : 0 < l.length) : D70 n l = some (mn l) := by
  unfold D70
  exact mean_loop n hn l ho hne n.1 0 0 0 (by omega) (by have := ho.1; omega) (by simp) (by simp)
end Go.Proofs.Ytombednapelokaa
