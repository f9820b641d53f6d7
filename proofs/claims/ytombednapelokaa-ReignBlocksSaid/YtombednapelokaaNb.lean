/- Reign: plain laws: nearest values, the cost and sums of rests of any sources. -/
import Derived.Test.YtombednapelokaaNa
set_option linter.unusedVariables false
set_option linter.unusedSimpArgs false
namespace Go.Proofs.Ytombednapelokaa
open Go.Vi
abbrev N5 : Nat × Nat := (100000000000000000000, 1)
theorem works_val5 : D18 N5 = some true := by kernel_rfl
theorem ChT.cover : ∀ {K : List (Nat × Nat)} {t : Nat}, ChT K t → ∀ i, i < t → ∃ x ∈ K, x.1 ≤ i ∧ i < x.2
  | [], t, h, i, hi => by
    have : t = 0 := h
    omega
  | (b, e) :: r, t, ⟨h1, h2, h3⟩, i, hi => by
    rcases Nat.lt_or_ge i b with hb | hb
    · obtain ⟨x, hx, h5⟩ := h3.cover i hb
      exact ⟨x, List.mem_cons_of_mem _ hx, h5⟩
    · exact ⟨(b, e), by simp, hb, by simp only; omega⟩
theorem K_uniq {l : List Src} : ∀ {K K' : List (Nat × Nat)} {t : Nat}, ChT K t → ChT K' t → IncT l K → IncT l K' → (∀ x ∈ K, ∀ y ∈ K', ∀ i, x.1 ≤ i → i < x.2 → y.1 ≤ i → i < y.2 → Mx l x.1 x.2 = Mx l y.1 y.2) → K = K'
  | [], [], _, _, _, _, _, _ => rfl
  | [], (b, e) :: r, t, h, ⟨h1, h2, _⟩, _, _, _ => by
    have : t = 0 := h
    omega
  | (b, e) :: r, [], t, ⟨h1, h2, _⟩, h, _, _, _ => by
    have : t = 0 := h
    omega
  | (b, e) :: r, (b', e') :: r', t, ⟨h1, h2, h3⟩, ⟨h1', h2', h3'⟩, hi, hi', hv => by
    subst h1
    subst h1'
    have hbb : b = b' := by
      rcases Nat.lt_trichotomy b b' with h | h | h
      · exfalso
        obtain ⟨y, hy, y1, y2⟩ := h3'.cover (b' - 1) (by omega)
        have e1 := hv (b, e') (by simp) y (List.mem_cons_of_mem _ hy) (b' - 1) (by simp only; omega) (by simp only; omega) y1 y2
        have e2 := hv (b, e') (by simp) (b', e') (by simp) b' (by simp only; omega) (by simp only; omega) (Nat.le_refl _) (by simp only; omega)
        have := hi'.1 y hy
        rw [← e1, ← e2] at this
        omega
      · exact h
      · exfalso
        obtain ⟨y, hy, y1, y2⟩ := h3.cover (b - 1) (by omega)
        have e1 := hv y (List.mem_cons_of_mem _ hy) (b', e') (by simp) (b - 1) y1 y2 (by simp only; omega) (by simp only; omega)
        have e2 := hv (b, e') (by simp) (b', e') (by simp) b (Nat.le_refl _) (by simp only; omega) (by simp only; omega) (by simp only; omega)
        have := hi.1 y hy
        rw [e1, e2] at this
        omega
    subst hbb
    rw [K_uniq h3 h3' hi.2 hi'.2 fun x hx y hy => hv x (List.mem_cons_of_mem _ hx) y (List.mem_cons_of_mem _ hy)]
theorem Blk.uniq {l : List Src} (ho : Ok l) {K K' : List (Nat × Nat)} (h : Blk l K l.length) (h' : Blk l K' l.length) : K = K' := by
  refine K_uniq h.ch h'.ch h.inc h'.inc fun x hx y hy i x1 x2 y1 y2 => ?_
  have rx := h.ch.rng x hx
  have ry := h'.ch.rng y hy
  have hs : ∀ {a c : Nat}, a ≤ c → Yk l c - Yk l a ≤ Yk l c - Yk l a ∧ Tk l c - Tk l a = Tk l c - Tk l a := fun _ => ⟨Int.le_refl _, rfl⟩
  exact fle_anti (Mx_Fr ho rx.1 rx.2) (Mx_Fr ho ry.1 ry.2) (more_le ho ho rfl hs h h' hx hy x1 x2 y1 y2) (more_le ho ho rfl hs h' h hy hx y1 y2 x1 x2)
theorem all_of18 {l : List Src} (hg : Good l) {K : List (Nat × Nat)} (hK : Blk l K l.length) : D30 N5 l = some (vals l K.reverse, 0) ∧ (vals l K.reverse).length = l.length ∧ (∀ f ∈ vals l K.reverse, Val f) ∧
    (∀ x ∈ K, ∀ i (h : i < (vals l K.reverse).length), x.1 ≤ i → i < x.2 → (vals l K.reverse)[i] = Mx l x.1 x.2) ∧
    (∃ (P : Int) (R : Nat), D35 N5 l = some ((P, (R : Int)), 0) ∧ 0 < R ∧ P.natAbs ≤ 1440000 * R ∧ 0 < (K.reverse.foldl (cstep l) (0, 1)).2 ∧ (K.reverse.foldl (cstep l) (0, 1)).2 ≤ 104976 ∧ R ≤ 104976 ∧ 0 ≤ P ∧ P * (K.reverse.foldl (cstep l) (0, 1)).2 = R * (K.reverse.foldl (cstep l) (0, 1)).1 ∧ Nat.gcd P.natAbs R = 1) ∧
    ∃ Rs, D37 N5 l = some (Rs, 0) ∧ Rs.length = l.length ∧ ∀ i (hi : i < Rs.length), ∀ x ∈ K, x.1 ≤ i → i < x.2 → Rst l (Mx l x.1 x.2) x.1 (i + 1) Rs[i] := by
  have ho := hg.ok
  have h8 := hg.le
  have c1 := chk_eq (n := N5) (by decide) l
  rw [good_chk hg] at c1
  obtain ⟨K', k1, k2, k3⟩ := near_eq (n := N5) (by decide) ho
  have := Blk.uniq ho k1 hK
  subst this
  obtain ⟨g1, g2⟩ := vals_get l k1.ch
  have hVb : ∀ x ∈ K', ∀ i (h : i < (vals l K'.reverse).length), x.1 ≤ i → i < x.2 → (vals l K'.reverse)[i] = Mx l x.1 x.2 := by
    intro x hx i hi a1 a2
    obtain ⟨y, hy, b1, b2, e⟩ := g2 i _ (List.getElem?_eq_getElem hi)
    rw [e, k1.ch.uniq3 x hx y hy i a1 a2 b1 b2]
  have hKl := k1.ch.len
  refine ⟨?_, g1, ?_, hVb, ?_, ?_⟩
  · unfold D30
    rw [c1]
    simp only [Option.bind_some, bne_self_eq_false, cond_false, k3]
  · intro f hf
    obtain ⟨i, hi, rfl⟩ := List.getElem_of_mem hf
    obtain ⟨x, hx, _, _, e⟩ := g2 i _ (List.getElem?_eq_getElem hi)
    rw [e]
    have := k1.ch.rng x hx
    exact Mx_Val ho this.1 this.2
  · obtain ⟨P, R, o1, o2, o3, o4, o5, o6, o7, o8, o9⟩ := cost_spec18 (n := N5) (by decide) hg (L := K'.reverse) K'.reverse [] 0 N5.1 0 1 (0, 1) rfl k1.ch.toCb (by omega) (by show _ < 100000000000000000000; simp; omega) (by omega) (by simp) (by simp) (by simp) (by simp) (by simp) (by simp; omega) (by simp)
    have h3 : (K'.reverse.foldl (cstep l) (0, 1)).2 ≤ 104976 := by
      have h1 : 18 ^ l.length ≤ 18 ^ 8 := Nat.pow_le_pow_right (by omega) (by omega)
      rcases Nat.lt_or_ge 104976 (K'.reverse.foldl (cstep l) (0, 1)).2 with h2 | h2
      · have := Nat.mul_le_mul (show 104977 ≤ (K'.reverse.foldl (cstep l) (0, 1)).2 by omega) (show 104977 ≤ (K'.reverse.foldl (cstep l) (0, 1)).2 by omega)
        omega
      · exact h2
    have hRl := Nat.le_of_dvd o4 o6
    refine ⟨P, R, ?_, o2, ?_, o4, h3, by omega, ?_, o7, o9⟩
    · unfold D35
      rw [c1]
      simp only [Option.bind_some, bne_self_eq_false, cond_false, k2, List.length_map]
      exact o1
    · exact Nat.le_trans o3 (Nat.mul_le_mul_right _ (by omega))
    · have h5 : 0 ≤ P * ((K'.reverse.foldl (cstep l) (0, 1)).2 : Int) := by
        rw [o7]
        exact Int.mul_nonneg (by omega) o8
      exact Int.nonneg_of_mul_nonneg_left h5 (by omega)
  · obtain ⟨Rs, r1, r2, r3⟩ := rests_spec (n := N5) (by decide) hg k1 g1 hVb (fun i hi => k1.ch.cover i hi) N5.1 0 0 1 [] (by omega) (by show _ < 100000000000000000000; omega) rfl (by omega) (by simp) (by simp) (fun x hx x1 x2 => by
      have : x.1 = 0 := by omega
      rw [this, dv_self]
      simp) (by simp)
    refine ⟨Rs, ?_, r1, r3⟩
    unfold D37 D83
    rw [c1]
    simp only [Option.bind_some, bne_self_eq_false, cond_false, k3]
    have r2' : DL83_1 N5 N5.1 (vals l K'.reverse) l (l.length : Int) 0 0 1 [] = some Rs := r2
    rw [r2']
    rfl
theorem fracs_loop (n : Nat × Nat) {v : List Frc} (hl : v.length ≤ 1000) : ∀ (m k : Nat), k ≤ v.length → v.length - k < m → DL51_1 n m v v (k : Int) = some true
  | 0, k, _, h => by omega
  | m + 1, k, hk, h => by
    rw [DL51_1_succ]
    unfold DF51_1
    by_cases hlt : k < v.length
    · rw [show decide ((k : Int) < (v.length : Int)) = true by simpa using hlt, cond_true, idx_nat hlt]
      simp only [Option.bind_some, beq_self_eq_true, Bool.and_self, Bool.not_true, cond_false]
      rw [show wr .i64 ((k : Int) + 1) = ((k + 1 : Nat) : Int) by rw [wr_ok (by omega) (by omega)]; omega]
      exact fracs_loop n hl m (k + 1) hlt (by omega)
    · rw [show decide ((k : Int) < (v.length : Int)) = false by simpa using hlt, cond_false]
theorem fracs_eq {n : Nat × Nat} (hn : 2000 ≤ n.1) {v : List Frc} (hl : v.length ≤ 1000) : D51 n v v = some true := by
  unfold D51
  rw [show (((v.length : Int)) != (v.length : Int)) = false by simp, cond_false]
  exact fracs_loop n hl n.1 0 (by omega) (by omega)
end Go.Proofs.Ytombednapelokaa
