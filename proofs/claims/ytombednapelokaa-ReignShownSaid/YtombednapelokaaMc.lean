/- Reign: plain laws: the formula of means, of the program and of the reference. -/
import Derived.Test.YtombednapelokaaMb
set_option linter.unusedVariables false
set_option linter.unusedSimpArgs false
namespace Go.Proofs.Ytombednapelokaa
open Go.Vi

def Row (l : List Src) (a i k : Nat) (x : Frc) : Prop := ∃ b, i ≤ b ∧ b < k ∧ x = M l a b
def Col (l : List Src) (b k : Nat) (x : Frc) : Prop := ∃ a, a < k ∧ x = M l a b

theorem Row_Fr {l : List Src} (h : Ok l) {a i : Nat} (ha : a ≤ i) {x : Frc} (hx : Row l a i l.length x) : Fr x := by
  obtain ⟨b, h1, h2, rfl⟩ := hx
  exact M_Fr h (by omega) h2
theorem Col_Fr {l : List Src} (h : Ok l) {b k : Nat} (hk : k ≤ b + 1) (hb : b < l.length) {x : Frc} (hx : Col l b k x) : Fr x := by
  obtain ⟨a, h1, rfl⟩ := hx
  exact M_Fr h (by omega) hb

theorem Row_succ {l : List Src} {a i k : Nat} (h : i ≤ k) (x : Frc) : Row l a i (k + 1) x ↔ Row l a i k x ∨ x = M l a k := by
  constructor
  · rintro ⟨b, h1, h2, rfl⟩
    by_cases hb : b = k
    · subst hb; exact .inr rfl
    · exact .inl ⟨b, h1, by omega, rfl⟩
  · rintro (⟨b, h1, h2, rfl⟩ | rfl)
    · exact ⟨b, h1, by omega, rfl⟩
    · exact ⟨k, h, by omega, rfl⟩
theorem Col_succ {l : List Src} {b k : Nat} (x : Frc) : Col l b (k + 1) x ↔ Col l b k x ∨ x = M l k b := by
  constructor
  · rintro ⟨a, h1, rfl⟩
    by_cases hb : a = k
    · subst hb; exact .inr rfl
    · exact .inl ⟨a, by omega, rfl⟩
  · rintro (⟨a, h1, rfl⟩ | rfl)
    · exact ⟨a, by omega, rfl⟩
    · exact ⟨k, by omega, rfl⟩
theorem Row_one {l : List Src} {a i : Nat} : Bst fle (Row l a i (i + 1)) (M l a i) :=
  ⟨⟨i, by omega, by omega, rfl⟩, fun x ⟨b, h1, h2, e⟩ => by
    have : b = i := by omega
    subst this
    rw [e]
    exact fle_refl _⟩

def HiS (l : List Src) (i : Nat) (h : Frc) : Prop := ∃ O : List Frc, O.length = i + 1 ∧ (∀ j (hj : j < O.length), Bst fle (Row l j i l.length) O[j]) ∧ Bst fge (· ∈ O) h
theorem HiS_uniq {l : List Src} (ho : Ok l) {i : Nat} {h h' : Frc} (h1 : HiS l i h) (h2 : HiS l i h') : h = h' := by
  obtain ⟨O, a1, a2, a3⟩ := h1
  obtain ⟨O', b1, b2, b3⟩ := h2
  have : O = O' := by
    apply List.ext_getElem (by omega)
    intro j c1 c2
    exact Bst.uniq_le (fun x hx => Row_Fr ho (by omega) hx) (a2 j c1) (b2 j c2)
  subst this
  refine Bst.uniq_ge (fun x hx => ?_) a3 b3
  obtain ⟨j, hj, rfl⟩ := List.getElem_of_mem hx
  exact Row_Fr ho (by omega) (a2 j hj).1

theorem rows_app {l : List Src} {i : Nat} {O : List Frc} {y : Frc} (h : ∀ j (hj : j < O.length), Bst fle (Row l j i l.length) O[j]) (hy : Bst fle (Row l O.length i l.length) y) :
    ∀ j (hj : j < (O ++ [y]).length), Bst fle (Row l j i l.length) (O ++ [y])[j] := by
  intro j hj
  rw [List.getElem_append]
  split
  · exact h j (by assumption)
  · have : j = O.length := by simp at hj; omega
    subst this
    simpa using hy
theorem mem_app {O : List Frc} {y : Frc} (x : Frc) : x ∈ O ++ [y] ↔ x ∈ O ∨ x = y := by simp

section
variable {n : Nat × Nat} (hn : 4611686018427387904 ≤ n.1) {l : List Src} (ho : Ok l)
include hn ho

/-- A mean as the code asks for it. -/
theorem part_eq {a b : Nat} (hab : a ≤ b) (hb : b < l.length) : wr .i64 ((b : Int) + 1) = ((b + 1 : Nat) : Int) ∧ bounds (some (a : Int)) (some ((b + 1 : Nat) : Int)) (some ((b + 1 : Nat) : Int)) l.length = true ∧
    bounds (some (a : Int)) (some ((b + 1 : Nat) : Int)) none l.length = true ∧ D70 n ((l.take (Int.toNat ((b + 1 : Nat) : Int))).drop (Int.toNat (a : Int))) = some (M l a b) ∧ D72 n ((l.take (Int.toNat ((b + 1 : Nat) : Int))).drop (Int.toNat (a : Int))) = some (M l a b) := by
  have h8 := ho.1
  have hok : Ok ((l.take (b + 1)).drop a) := (ho.take _).drop _
  have hlen : 0 < ((l.take (b + 1)).drop a).length := by simp; omega
  refine ⟨by rw [wr_ok (by omega) (by omega)]; omega, by simp [bounds]; omega, by simp [bounds]; omega, ?_, ?_⟩
  · rw [Int.toNat_natCast, Int.toNat_natCast]
    exact mean_eq hn hok hlen
  · rw [Int.toNat_natCast, Int.toNat_natCast]
    exact meanr_eq hn hok hlen

theorem hi_inner {i a : Nat} (hi : i < l.length) (ha : a ≤ i) (f1 : (List (Int × Int)) → Int → Int → Int → Int → Int → (List (Int × Int)) → Int → Option R73) (v38 v39 u v : Int) (outer : List Frc) (s : Int) : ∀ (m b : Nat) (inner : List Frc), i ≤ b → b ≤ l.length → l.length - b < m → inner.length = b - i → (∀ x, x ∈ inner ↔ Row l a i b x) →
    ∃ r, Bst fle (Row l a i l.length) r ∧ DL73_3 n f1 m l (i : Int) (a : Int) (b : Int) v38 v39 u v outer s inner = bif decide (outer.length + [r].length ≤ lim) then f1 l (i : Int) v38 (wr .i64 (v39 + 1)) u v (outer ++ [r]) s else none
  | 0, b, inner, _, _, h, _, _ => by omega
  | m + 1, b, inner, hib, hb, h, hlen, hmem => by
    have h8 := ho.1
    rw [DL73_3_succ]
    unfold DF73_3
    by_cases hlt : b < l.length
    · obtain ⟨e1, e2, e3, e4, e5⟩ := part_eq hn ho (a := a) (by omega) hlt
      rw [show decide ((b : Int) < (l.length : Int)) = true by simpa using hlt, cond_true, e1, e2, cond_true, e4]
      simp only [Option.bind_some]
      rw [show decide (inner.length + [M l a b].length ≤ lim) = true by simp [lim]; omega, cond_true]
      exact hi_inner hi ha f1 v38 v39 u v outer s m (b + 1) (inner ++ [M l a b]) (by omega) (by omega) (by omega) (by simp; omega) (fun x => by
        rw [mem_app, hmem, Row_succ hib])
    · have hbl : b = l.length := by omega
      subst hbl
      rw [show decide ((l.length : Int) < (l.length : Int)) = false by simp, cond_false]
      obtain ⟨r, h1, h2⟩ := min_eq (n := n) (by omega) (L := inner) (fun x hx => Row_Fr ho ha ((hmem x).1 hx)) (by omega) (by omega)
      rw [h1]
      exact ⟨r, h2.congr fun x => (hmem x).symm, rfl⟩

theorem hi_outer {i : Nat} (hi : i < l.length) : ∀ (m a : Nat) (O : List Frc), a ≤ i + 1 → i + 1 - a < m → O.length = a → (∀ j (hj : j < O.length), Bst fle (Row l j i l.length) O[j]) →
    ∃ h, HiS l i h ∧ DL73_1 n m l (i : Int) ((i + 1 : Nat) : Int) (a : Int) 0 0 O 1 = some (h, 0)
  | 0, a, O, _, h, _, _ => by omega
  | m + 1, a, O, hai, h, hlen, hO => by
    have h8 := ho.1
    rw [DL73_1_succ]
    unfold DF73_1
    by_cases hlt : a < i + 1
    · rw [show decide ((a : Int) < ((i + 1 : Nat) : Int)) = true by simp; omega, cond_true]
      obtain ⟨r, h1, h2⟩ := hi_inner hn ho hi (a := a) (by omega) (DL73_1 n m) ((i + 1 : Nat) : Int) (a : Int) 0 0 O 1 n.1 i [] (by omega) (by omega) (by omega) (by simp) (fun x => by
        constructor
        · intro hx; cases hx
        · rintro ⟨b, h3, h4, _⟩; omega)
      rw [h2, show decide (O.length + [r].length ≤ lim) = true by simp [lim]; omega, cond_true, show wr .i64 ((a : Int) + 1) = ((a + 1 : Nat) : Int) by rw [wr_ok (by omega) (by omega)]; omega]
      subst hlen
      exact hi_outer hi m (O.length + 1) (O ++ [r]) (by omega) (by omega) (by simp) (rows_app hO h1)
    · rw [show decide ((a : Int) < ((i + 1 : Nat) : Int)) = false by simp; omega, cond_false]
      have hF : ∀ x ∈ O, Fr x := by
        intro x hx
        obtain ⟨j, hj, rfl⟩ := List.getElem_of_mem hx
        exact Row_Fr ho (by omega) (hO j hj).1
      obtain ⟨r, h1, h2⟩ := sgn_eq1 (n := n) (by omega) hF (by omega) (by omega)
      rw [h1]
      exact ⟨r, ⟨O, by omega, hO, h2⟩, rfl⟩

theorem hr_inner {i a : Nat} (hi : i < l.length) (ha : a ≤ i) (f1 : (List (Int × Int)) → Int → Int → Int → Int → Int → Int → Option R75) (u v : Int) (best : Frc) (hbest : a = 0 ∨ Fr best) : ∀ (m b : Nat) (c : Frc), i < b → b ≤ l.length → l.length - b < m → Bst fle (Row l a i b) c →
    ∃ r, Bst fle (Row l a i l.length) r ∧ DL75_2 n f1 m l (i : Int) (a : Int) (b : Int) u v best.1 best.2 c.1 c.2 =
      (if a = 0 ∨ best.1 * r.2 < r.1 * best.2 then f1 l (i : Int) ((a + 1 : Nat) : Int) u v r.1 r.2 else f1 l (i : Int) ((a + 1 : Nat) : Int) u v best.1 best.2)
  | 0, b, c, _, _, h, _ => by omega
  | m + 1, b, c, hib, hb, h, hc => by
    have h8 := ho.1
    have hw : wr .i64 ((a : Int) + 1) = ((a + 1 : Nat) : Int) := by rw [wr_ok (by omega) (by omega)]; omega
    rw [DL75_2_succ]
    unfold DF75_2 DL75_3 DL75_4
    by_cases hlt : b < l.length
    · obtain ⟨e1, e2, e3, e4, e5⟩ := part_eq hn ho (a := a) (by omega) hlt
      rw [show decide ((b : Int) < (l.length : Int)) = true by simpa using hlt, cond_true, e1, e3, cond_true, e5]
      have hS : ∀ x, Row l a i (b + 1) x → Fr x := fun x ⟨b', h1, h2, e⟩ => by rw [e]; exact M_Fr ho (by omega) (by omega)
      have hx : Fr (M l a b) := M_Fr ho (by omega) hlt
      have hcF : Fr c := hS c ((Row_succ (by omega) c).2 (.inl hc.1))
      simp only [Option.bind_some, Prod.eta, less_eq n hx hcF]
      by_cases hl2 : (M l a b).1 * c.2 < c.1 * (M l a b).2
      · simp only [hl2, decide_true, cond_true]
        exact hr_inner hi ha f1 u v best hbest m (b + 1) (M l a b) (by omega) (by omega) (by omega) (hc.ext_le hS (Row_succ (by omega)) (by unfold fle; omega))
      · simp only [hl2, decide_false, cond_false]
        exact hr_inner hi ha f1 u v best hbest m (b + 1) c (by omega) (by omega) (by omega) (hc.keep (Row_succ (by omega)) (by unfold fle; omega))
    · have hbl : b = l.length := by omega
      subst hbl
      rw [show decide ((l.length : Int) < (l.length : Int)) = false by simp, cond_false]
      refine ⟨c, hc, ?_⟩
      have hcF : Fr c := Row_Fr ho ha hc.1
      by_cases ha0 : a = 0
      · have h1 : (((a : Int)) == 0) = true := by simp; omega
        rw [if_pos (Or.inl ha0)]
        simp only [h1, show (true == false) = false from rfl, cond_false, cond_true, Option.bind_some, hw]
      · have hbF : Fr best := hbest.resolve_left ha0
        have h1 : (((a : Int)) == 0) = false := by simpa using ha0
        simp only [h1, beq_self_eq_true, cond_true, Prod.eta, less_eq n hbF hcF, Option.bind_some, ha0, false_or, hw]
        by_cases hl2 : best.1 * c.2 < c.1 * best.2
        · simp [hl2]
        · simp [hl2]

theorem hr_outer {i : Nat} (hi : i < l.length) : ∀ (m a : Nat) (O : List Frc) (best : Frc), a ≤ i + 1 → i + 1 - a < m → O.length = a → (∀ j (hj : j < O.length), Bst fle (Row l j i l.length) O[j]) → (0 < a → Bst fge (· ∈ O) best) →
    ∃ h, HiS l i h ∧ DL75_1 n m l (i : Int) (a : Int) 0 0 best.1 best.2 = some h
  | 0, a, O, best, _, h, _, _, _ => by omega
  | m + 1, a, O, best, hai, h, hlen, hO, hbest => by
    have h8 := ho.1
    have hF : ∀ x ∈ O, Fr x := by
      intro x hx
      obtain ⟨j, hj, rfl⟩ := List.getElem_of_mem hx
      exact Row_Fr ho (by omega) (hO j hj).1
    rw [DL75_1_succ]
    unfold DF75_1
    by_cases hlt : a < i + 1
    · obtain ⟨e1, e2, e3, e4, e5⟩ := part_eq hn ho (a := a) (b := i) (by omega) hi
      rw [show decide ((a : Int) ≤ (i : Int)) = true by simp; omega, cond_true, e1, e3, cond_true, e5]
      simp only [Option.bind_some]
      have hb0 : a = 0 ∨ Fr best := by
        rcases Nat.eq_zero_or_pos a with h0 | h0
        · exact .inl h0
        · exact .inr (hF best (hbest h0).1)
      obtain ⟨r, h1, h2⟩ := hr_inner hn ho hi (a := a) (by omega) (DL75_1 n m) 0 0 best hb0 n.1 (i + 1) (M l a i) (by omega) (by omega) (by omega) Row_one
      rw [h2]
      subst hlen
      have hF' : ∀ x, x ∈ O ++ [r] → Fr x := by
        intro x hx
        rcases (mem_app x).1 hx with hx | rfl
        · exact hF x hx
        · exact Row_Fr ho (by omega) h1.1
      by_cases hc : O.length = 0 ∨ best.1 * r.2 < r.1 * best.2
      · rw [if_pos hc]
        refine hr_outer hi m (O.length + 1) (O ++ [r]) r (by omega) (by omega) (by simp) (rows_app hO h1) fun _ => ?_
        rcases Nat.eq_zero_or_pos O.length with h0 | h0
        · have : O = [] := List.length_eq_zero_iff.1 h0
          subst this
          exact ⟨by simp, fun x hx => by simp at hx; subst hx; exact fle_refl _⟩
        · exact (hbest h0).ext_ge hF' mem_app (by unfold fge fle; omega)
      · rw [if_neg hc]
        refine hr_outer hi m (O.length + 1) (O ++ [r]) best (by omega) (by omega) (by simp) (rows_app hO h1) fun _ => ?_
        exact (hbest (by omega)).keep mem_app (by unfold fge fle; omega)
    · rw [show decide ((a : Int) ≤ (i : Int)) = false by simp; omega, cond_false]
      exact ⟨best, ⟨O, by omega, hO, hbest (by omega)⟩, rfl⟩

/-! The smallest of the greatest -/
end

/-- High, of the program and of the reference. -/
theorem high_eq {n : Nat × Nat} (hn : 4611686018427387904 ≤ n.1) (l : List Src) (i : Int) : ∃ r, D26 n l i = some r ∧ D27 n l i = some r ∧ (chk l = 0 → 0 ≤ i → i < l.length → r.2 = 0 ∧ HiS l i.toNat r.1) := by
  unfold D26 D27 D73 D74
  rw [chk_eq (by omega), chkr_eq (by omega)]
  simp only [Option.bind_some, in_eq, orB, andB]
  by_cases h : chk l = 0
  · have hg := chk_good h
    have h1 := hg.pos
    have h2 := hg.le
    rw [h]
    simp only [bne_self_eq_false, cond_false, beq_self_eq_true, Bool.true_and]
    rw [wr_ok (x := (l.length : Int) - 1) (by omega) (by omega)]
    by_cases hin : 0 ≤ i ∧ i < (l.length : Int)
    · obtain ⟨k, rfl⟩ := Int.eq_ofNat_of_zero_le hin.1
      have hk : k < l.length := by omega
      have hA : (decide ((k : Int) < 0) || decide ((k : Int) ≥ (l.length : Int))) = false := by simp; omega
      have hB : (!(decide (0 ≤ (k : Int)) && decide ((k : Int) ≤ (l.length : Int) - 1))) = false := by simp; omega
      rw [hA, hB]
      simp only [cond_false, gt_iff_lt, Int.zero_lt_one, decide_true, cond_true, bne_self_eq_false]
      rw [show wr .i64 ((k : Int) + 1) = ((k + 1 : Nat) : Int) by rw [wr_ok (by omega) (by omega)]; omega]
      obtain ⟨x, hx, e1⟩ := hi_outer hn hg.ok hk n.1 0 [] (by omega) (by omega) rfl (by simp)
      obtain ⟨y, hy, e2⟩ := hr_outer hn hg.ok hk n.1 0 [] (0, 0) (by omega) (by omega) rfl (by simp) (by omega)
      have := HiS_uniq hg.ok hx hy
      subst this
      simp only [Int.natCast_zero] at e1 e2
      unfold D75
      rw [e1, e2]
      exact ⟨(x, 0), rfl, rfl, fun _ _ _ => ⟨rfl, by simpa using hx⟩⟩
    · have hA : (decide (i < 0) || decide (i ≥ (l.length : Int))) = true := by simp; omega
      have hB : (!(decide (0 ≤ i) && decide (i ≤ (l.length : Int) - 1))) = true := by simp; omega
      rw [hA, hB]
      simp only [cond_true]
      exact ⟨((0, 0), 2), rfl, rfl, fun _ h3 h4 => absurd ⟨h3, h4⟩ hin⟩
  · have h' : (chk l != 0) = true := by simpa using h
    have h'' : (chk l == 0) = false := by simpa using h
    simp only [h', h'', cond_true, cond_false, Bool.false_and]
    exact ⟨_, rfl, by simp only [Option.bind_some, h', cond_true], fun h3 => absurd h3 h⟩

end Go.Proofs.Ytombednapelokaa
