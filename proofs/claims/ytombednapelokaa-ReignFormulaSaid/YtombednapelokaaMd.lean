/- Reign: plain laws: the smallest of the greatest means. -/
import Derived.Test.YtombednapelokaaMc
set_option linter.unusedVariables false
set_option linter.unusedSimpArgs false
namespace Go.Proofs.Ytombednapelokaa
open Go.Vi

def LoS (l : List Src) (i : Nat) (h : Frc) : Prop := ∃ O : List Frc, O.length = l.length - i ∧ (∀ j (hj : j < O.length), Bst fge (Col l (i + j) (i + 1)) O[j]) ∧ Bst fle (· ∈ O) h

theorem LoS_uniq {l : List Src} (ho : Ok l) {i : Nat} (hi : i < l.length) {h h' : Frc} (h1 : LoS l i h) (h2 : LoS l i h') : h = h' := by
  obtain ⟨O, a1, a2, a3⟩ := h1
  obtain ⟨O', b1, b2, b3⟩ := h2
  have : O = O' := by
    apply List.ext_getElem (by omega)
    intro j c1 c2
    exact Bst.uniq_ge (fun x hx => Col_Fr ho (by omega) (by omega) hx) (a2 j c1) (b2 j c2)
  subst this
  refine Bst.uniq_le (fun x hx => ?_) a3 b3
  obtain ⟨j, hj, rfl⟩ := List.getElem_of_mem hx
  exact Col_Fr ho (by omega) (by omega) (a2 j hj).1

theorem cols_app {l : List Src} {i : Nat} {O : List Frc} {y : Frc} (h : ∀ j (hj : j < O.length), Bst fge (Col l (i + j) (i + 1)) O[j]) (hy : Bst fge (Col l (i + O.length) (i + 1)) y) :
    ∀ j (hj : j < (O ++ [y]).length), Bst fge (Col l (i + j) (i + 1)) (O ++ [y])[j] := by
  intro j hj
  rw [List.getElem_append]
  split
  · exact h j (by assumption)
  · have : j = O.length := by simp at hj; omega
    subst this
    simpa using hy

section
variable {n : Nat × Nat} (hn : 4611686018427387904 ≤ n.1) {l : List Src} (ho : Ok l)
include hn ho

theorem lo_inner {i b : Nat} (hib : i ≤ b) (hb : b < l.length) (f1 : (List (Int × Int)) → Int → Int → Int → Int → (List (Int × Int)) → Int → Option R73) (u v : Int) (outer : List Frc) (s : Int) : ∀ (m a : Nat) (inner : List Frc), a ≤ i + 1 → i + 1 - a < m → inner.length = a → (∀ x, x ∈ inner ↔ Col l b a x) →
    ∃ r, Bst fge (Col l b (i + 1)) r ∧ DL73_4 n f1 m l (i : Int) (b : Int) ((i + 1 : Nat) : Int) (a : Int) u v outer s inner = bif decide (outer.length + [r].length ≤ lim) then f1 l (i : Int) (wr .i64 ((b : Int) + 1)) u v (outer ++ [r]) s else none
  | 0, a, inner, _, h, _, _ => by omega
  | m + 1, a, inner, hai, h, hlen, hmem => by
    have h8 := ho.1
    rw [DL73_4_succ]
    unfold DF73_4
    by_cases hlt : a < i + 1
    · obtain ⟨e1, e2, e3, e4, e5⟩ := part_eq hn ho (a := a) (b := b) (by omega) hb
      rw [show decide ((a : Int) < ((i + 1 : Nat) : Int)) = true by simp; omega, cond_true, e1, e2, cond_true, e4]
      simp only [Option.bind_some]
      rw [show decide (inner.length + [M l a b].length ≤ lim) = true by simp [lim]; omega, cond_true, show wr .i64 ((a : Int) + 1) = ((a + 1 : Nat) : Int) by rw [wr_ok (by omega) (by omega)]; omega, ← e1]
      exact lo_inner hib hb f1 u v outer s m (a + 1) (inner ++ [M l a b]) (by omega) (by omega) (by simp; omega) (fun x => by
        rw [mem_app, hmem, Col_succ])
    · have hbl : a = i + 1 := by omega
      subst hbl
      rw [show decide (((i + 1 : Nat) : Int) < ((i + 1 : Nat) : Int)) = false by simp, cond_false]
      obtain ⟨r, h1, h2⟩ := max_eq (n := n) (by omega) (L := inner) (fun x hx => Col_Fr ho (by omega) hb ((hmem x).1 hx)) (by omega) (by omega)
      rw [h1]
      exact ⟨r, h2.congr fun x => (hmem x).symm, rfl⟩

theorem lo_outer {i : Nat} (hi : i < l.length) : ∀ (m b : Nat) (O : List Frc), i ≤ b → b ≤ l.length → l.length - b < m → O.length = b - i → (∀ j (hj : j < O.length), Bst fge (Col l (i + j) (i + 1)) O[j]) →
    ∃ h, LoS l i h ∧ DL73_2 n m l (i : Int) (b : Int) 0 0 O (-1) = some (h, 0)
  | 0, b, O, _, _, h, _, _ => by omega
  | m + 1, b, O, hib, hbl, h, hlen, hO => by
    have h8 := ho.1
    rw [DL73_2_succ]
    unfold DF73_2
    by_cases hlt : b < l.length
    · rw [show decide ((b : Int) < (l.length : Int)) = true by simpa using hlt, cond_true, show wr .i64 ((i : Int) + 1) = ((i + 1 : Nat) : Int) by rw [wr_ok (by omega) (by omega)]; omega]
      obtain ⟨r, h1, h2⟩ := lo_inner hn ho (i := i) hib hlt (DL73_2 n m) 0 0 O (-1) n.1 0 [] (by omega) (by omega) (by simp) (fun x => by
        constructor
        · intro hx; cases hx
        · rintro ⟨a, h3, _⟩; omega)
      simp only [Int.natCast_zero] at h2
      rw [h2, show decide (O.length + [r].length ≤ lim) = true by simp [lim]; omega, cond_true, show wr .i64 ((b : Int) + 1) = ((b + 1 : Nat) : Int) by rw [wr_ok (by omega) (by omega)]; omega]
      exact lo_outer hi m (b + 1) (O ++ [r]) (by omega) (by omega) (by omega) (by simp; omega) (cols_app hO (by rw [show i + O.length = b by omega]; exact h1))
    · rw [show decide ((b : Int) < (l.length : Int)) = false by simpa using hlt, cond_false]
      have hF : ∀ x ∈ O, Fr x := by
        intro x hx
        obtain ⟨j, hj, rfl⟩ := List.getElem_of_mem hx
        exact Col_Fr ho (by omega) (by omega) (hO j hj).1
      obtain ⟨r, h1, h2⟩ := sgn_eq2 (n := n) (by omega) hF (by omega) (by omega)
      rw [h1]
      exact ⟨r, ⟨O, by omega, hO, h2⟩, rfl⟩

theorem lr_inner {i b : Nat} (hib : i ≤ b) (hb : b < l.length) (f1 : (List (Int × Int)) → Int → Int → Int → Int → Int → Int → Option R76) (u v : Int) (best : Frc) (hbest : b = i ∨ Fr best) : ∀ (m a : Nat) (c : Frc), a ≤ i → i - a < m → Bst fge (fun x => Col l b a x ∨ x = M l i b) c →
    ∃ r, Bst fge (Col l b (i + 1)) r ∧ DL76_2 n f1 m l (i : Int) (b : Int) (a : Int) u v best.1 best.2 c.1 c.2 =
      (if b = i ∨ r.1 * best.2 < best.1 * r.2 then f1 l (i : Int) ((b + 1 : Nat) : Int) u v r.1 r.2 else f1 l (i : Int) ((b + 1 : Nat) : Int) u v best.1 best.2)
  | 0, a, c, _, h, _ => by omega
  | m + 1, a, c, hai, h, hc => by
    have h8 := ho.1
    have hw : wr .i64 ((b : Int) + 1) = ((b + 1 : Nat) : Int) := by rw [wr_ok (by omega) (by omega)]; omega
    have hw2 : wr .i64 ((a : Int) + 1) = ((a + 1 : Nat) : Int) := by rw [wr_ok (by omega) (by omega)]; omega
    have hcF : Fr c := by
      rcases hc.1 with h1 | h1
      · exact Col_Fr ho (by omega) hb h1
      · rw [h1]; exact M_Fr ho hib hb
    rw [DL76_2_succ]
    unfold DF76_2 DL76_3 DL76_4
    by_cases hlt : a < i
    · obtain ⟨e1, e2, e3, e4, e5⟩ := part_eq hn ho (a := a) (b := b) (by omega) hb
      rw [show decide ((a : Int) < (i : Int)) = true by simpa using hlt, cond_true, e1, e3, cond_true, e5]
      have hS : ∀ x, (Col l b (a + 1) x ∨ x = M l i b) → Fr x := by
        rintro x (hx | rfl)
        · exact Col_Fr ho (by omega) hb hx
        · exact M_Fr ho hib hb
      have hx : Fr (M l a b) := M_Fr ho (by omega) hb
      have hext : ∀ x, (Col l b (a + 1) x ∨ x = M l i b) ↔ (Col l b a x ∨ x = M l i b) ∨ x = M l a b := by
        intro x
        rw [Col_succ]
        constructor
        · rintro ((h1 | h1) | h1)
          · exact .inl (.inl h1)
          · exact .inr h1
          · exact .inl (.inr h1)
        · rintro ((h1 | h1) | h1)
          · exact .inl (.inl h1)
          · exact .inr h1
          · exact .inl (.inr h1)
      simp only [Option.bind_some, Prod.eta, less_eq n hcF hx, hw2]
      by_cases hl2 : c.1 * (M l a b).2 < (M l a b).1 * c.2
      · simp only [hl2, decide_true, cond_true]
        exact lr_inner hib hb f1 u v best hbest m (a + 1) (M l a b) (by omega) (by omega) (hc.ext_ge hS hext (by unfold fge fle; omega))
      · simp only [hl2, decide_false, cond_false]
        exact lr_inner hib hb f1 u v best hbest m (a + 1) c (by omega) (by omega) (hc.keep hext (by unfold fge fle; omega))
    · have hbl : a = i := by omega
      subst hbl
      rw [show decide ((a : Int) < (a : Int)) = false by simp, cond_false]
      refine ⟨c, hc.congr fun x => Col_succ x, ?_⟩
      by_cases ha0 : b = a
      · have h1 : (((b : Int)) == (a : Int)) = true := by simp; omega
        rw [if_pos (Or.inl ha0)]
        simp only [h1, show (true == false) = false from rfl, cond_false, cond_true, Option.bind_some, hw]
      · have hbF : Fr best := hbest.resolve_left ha0
        have h1 : (((b : Int)) == (a : Int)) = false := by simp; omega
        simp only [h1, beq_self_eq_true, cond_true, Prod.eta, less_eq n hcF hbF, Option.bind_some, ha0, false_or, hw]
        by_cases hl2 : c.1 * best.2 < best.1 * c.2
        · simp [hl2]
        · simp [hl2]

theorem lr_outer {i : Nat} (hi : i < l.length) : ∀ (m b : Nat) (O : List Frc) (best : Frc), i ≤ b → b ≤ l.length → l.length - b < m → O.length = b - i → (∀ j (hj : j < O.length), Bst fge (Col l (i + j) (i + 1)) O[j]) → (i < b → Bst fle (· ∈ O) best) →
    ∃ h, LoS l i h ∧ DL76_1 n m l (i : Int) (b : Int) 0 0 best.1 best.2 = some h
  | 0, b, O, best, _, _, h, _, _, _ => by omega
  | m + 1, b, O, best, hib, hbl, h, hlen, hO, hbest => by
    have h8 := ho.1
    have hF : ∀ x ∈ O, Fr x := by
      intro x hx
      obtain ⟨j, hj, rfl⟩ := List.getElem_of_mem hx
      exact Col_Fr ho (by omega) (by omega) (hO j hj).1
    rw [DL76_1_succ]
    unfold DF76_1
    by_cases hlt : b < l.length
    · obtain ⟨e1, e2, e3, e4, e5⟩ := part_eq hn ho (a := i) (b := b) (by omega) hlt
      rw [show decide ((b : Int) < (l.length : Int)) = true by simpa using hlt, cond_true, e1, e3, cond_true, e5]
      simp only [Option.bind_some]
      have hb0 : b = i ∨ Fr best := by
        rcases Nat.eq_or_lt_of_le hib with h0 | h0
        · exact .inl h0.symm
        · exact .inr (hF best (hbest h0).1)
      obtain ⟨r, h1, h2⟩ := lr_inner hn ho hib hlt (DL76_1 n m) 0 0 best hb0 n.1 0 (M l i b) (by omega) (by omega) ⟨.inr rfl, fun x hx => by
        rcases hx with ⟨a, h3, _⟩ | rfl
        · omega
        · exact fle_refl _⟩
      simp only [Int.natCast_zero] at h2
      rw [h2]
      have hF' : ∀ x, x ∈ O ++ [r] → Fr x := by
        intro x hx
        rcases (mem_app x).1 hx with hx | rfl
        · exact hF x hx
        · exact Col_Fr ho (by omega) hlt h1.1
      have hcols := cols_app hO (y := r) (by rw [show i + O.length = b by omega]; exact h1)
      by_cases hc : b = i ∨ r.1 * best.2 < best.1 * r.2
      · rw [if_pos hc]
        refine lr_outer hi m (b + 1) (O ++ [r]) r (by omega) (by omega) (by omega) (by simp; omega) hcols fun _ => ?_
        rcases Nat.eq_or_lt_of_le hib with h0 | h0
        · have : O = [] := List.length_eq_zero_iff.1 (by omega)
          subst this
          exact ⟨by simp, fun x hx => by simp at hx; subst hx; exact fle_refl _⟩
        · exact (hbest h0).ext_le hF' mem_app (by unfold fle; omega)
      · rw [if_neg hc]
        refine lr_outer hi m (b + 1) (O ++ [r]) best (by omega) (by omega) (by omega) (by simp; omega) hcols fun _ => ?_
        exact (hbest (by omega)).keep mem_app (by unfold fle; omega)
    · rw [show decide ((b : Int) < (l.length : Int)) = false by simpa using hlt, cond_false]
      exact ⟨best, ⟨O, by omega, hO, hbest (by omega)⟩, rfl⟩

end

theorem low_eq {n : Nat × Nat} (hn : 4611686018427387904 ≤ n.1) (l : List Src) (i : Int) : ∃ r, D28 n l i = some r ∧ D29 n l i = some r ∧ (chk l = 0 → 0 ≤ i → i < l.length → r.2 = 0 ∧ LoS l i.toNat r.1) := by
  unfold D28 D29 D73 D74
  rw [chk_eq (by omega), chkr_eq (by omega)]
  simp only [Option.bind_some, in_eq, orB, andB]
  by_cases h : chk l = 0
  · have hg := chk_good h
    have h1 := hg.pos
    have h2 := hg.le
    rw [h]
    simp only [bne_self_eq_false, cond_false, beq_self_eq_true, Bool.true_and]
    rw [wr_ok (x := (l.length : Int) - 1) (by omega) (by omega)]
    by_cases hin : 0 ≤ i ∧ i < (l.length : Int)
    · obtain ⟨k, rfl⟩ := Int.eq_ofNat_of_zero_le hin.1
      have hk : k < l.length := by omega
      have hA : (decide ((k : Int) < 0) || decide ((k : Int) ≥ (l.length : Int))) = false := by simp; omega
      have hB : (!(decide (0 ≤ (k : Int)) && decide ((k : Int) ≤ (l.length : Int) - 1))) = false := by simp; omega
      rw [hA, hB]
      simp only [cond_false, show decide ((-1 : Int) > 0) = false from rfl, bne_self_eq_false]
      obtain ⟨x, hx, e1⟩ := lo_outer hn hg.ok hk n.1 k [] (by omega) (by omega) (by omega) (by simp) (by simp)
      obtain ⟨y, hy, e2⟩ := lr_outer hn hg.ok hk n.1 k [] (0, 0) (by omega) (by omega) (by omega) (by simp) (by simp) (by omega)
      have := LoS_uniq hg.ok hk hx hy
      subst this
      unfold D76
      rw [e1, e2]
      exact ⟨(x, 0), rfl, rfl, fun _ _ _ => ⟨rfl, by simpa using hx⟩⟩
    · have hA : (decide (i < 0) || decide (i ≥ (l.length : Int))) = true := by simp; omega
      have hB : (!(decide (0 ≤ i) && decide (i ≤ (l.length : Int) - 1))) = true := by simp; omega
      rw [hA, hB]
      simp only [cond_true]
      exact ⟨((0, 0), 2), rfl, rfl, fun _ h3 h4 => absurd ⟨h3, h4⟩ hin⟩
  · have h' : (chk l != 0) = true := by simpa using h
    have h'' : (chk l == 0) = false := by simpa using h
    simp only [h', h'', cond_true, cond_false, Bool.false_and]
    exact ⟨_, rfl, by simp only [Option.bind_some, h', cond_true], fun h3 => absurd h3 h⟩


end Go.Proofs.Ytombednapelokaa
