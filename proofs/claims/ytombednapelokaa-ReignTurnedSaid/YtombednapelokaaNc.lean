/- Reign: plain laws: sources in the opposite order, with what is left of 100 for each year. -/
import Derived.Test.YtombednapelokaaNb
set_option linter.unusedVariables false
set_option linter.unusedSimpArgs false
namespace Go.Proofs.Ytombednapelokaa
open Go.Vi

def tf (s : Src) : Src := (100 - s.1, s.2)
def tl (l : List Src) : List Src := l.reverse.map tf
def tn (L : Nat) (x : Nat × Nat) : Nat × Nat := (L - x.2, L - x.1)

theorem tl_len (l : List Src) : (tl l).length = l.length := by simp [tl]
theorem tl_cons (s : Src) (r : List Src) : tl (s :: r) = tl r ++ [tf s] := by simp [tl]
theorem tl_tl (l : List Src) : tl (tl l) = l := by
  unfold tl
  rw [← List.map_reverse, List.reverse_reverse, List.map_map]
  have : tf ∘ tf = id := by
    funext s
    simp only [Function.comp, tf, id]
    rw [show (100 : Int) - (100 - s.1) = s.1 by omega]
  rw [this, List.map_id]
theorem Ok.tl {l : List Src} (h : Ok l) : Ok (tl l) := by
  refine ⟨by rw [tl_len]; exact h.1, fun s hs => ?_⟩
  unfold Go.Proofs.Ytombednapelokaa.tl at hs
  obtain ⟨x, hx, rfl⟩ := List.mem_map.1 hs
  have := h.2 x (List.mem_reverse.1 hx)
  simp only [tf]
  omega
theorem Good.tl {l : List Src} (h : Good l) : Good (tl l) := by
  have o := h.ok.tl
  exact ⟨by rw [tl_len]; exact h.pos, o.1, o.2⟩

theorem q2s_app : ∀ (a b : List Src), q2s (a ++ b) = q2s a + q2s b
  | [], b => by simp [q2s]
  | s :: a, b => by simp only [List.cons_append, q2s, q2s_app a b]; omega

theorem tl_sums : ∀ {l : List Src}, (∀ s ∈ l, 0 ≤ s.1 ∧ s.1 ≤ 100 ∧ 1 ≤ s.2) → tsum (tl l) = tsum l ∧ ysum (tl l) + ysum l = 100 * tsum l ∧ q2s (tl l) + 200 * ysum l = 10000 * tsum l + q2s l
  | [], _ => by simp [tl, ysum, tsum, q2s]
  | s :: r, h => by
    obtain ⟨i1, i2, i3⟩ := tl_sums (l := r) fun x hx => h x (List.mem_cons_of_mem _ hx)
    have hs := h s (by simp)
    obtain ⟨y, hy⟩ := Int.eq_ofNat_of_zero_le hs.1
    have e1 : s.1.toNat = y := by omega
    obtain ⟨z, hz⟩ : ∃ z, y + z = 100 := ⟨100 - y, by omega⟩
    have e2 : (100 - s.1).toNat = z := by omega
    have e3 : z = 100 - y := by omega
    rw [tl_cons, tsum_app, ysum_app, q2s_app]
    simp only [tf, ysum, tsum, q2s, e1, e2, Nat.add_zero]
    generalize s.2.toNat = t
    have h1 : z * t + y * t = 100 * t := by rw [← Nat.add_mul, Nat.add_comm z y, hz]
    have h2 : t * z * z + 200 * (y * t) = 10000 * t + t * y * y := by
      have a1 : t * z * z + t * y * z = 100 * (t * z) := by rw [← hz]; grind
      have a2 : t * y * z + t * y * y = 100 * (t * y) := by rw [← hz]; grind
      have a3 : t * z + t * y = 100 * t := by rw [← hz]; grind
      have a4 : y * t = t * y := Nat.mul_comm _ _
      omega
    omega

theorem tl_seg {l : List Src} {a b : Nat} (hab : a ≤ b) (hb : b ≤ l.length) : ((tl l).take (l.length - a)).drop (l.length - b) = tl ((l.take b).drop a) := by
  unfold tl
  rw [← List.map_take, ← List.map_drop]
  congr 1
  rw [List.take_reverse, show l.length - (l.length - a) = a by omega, List.drop_reverse, List.drop_take]
  congr 2
  simp
  omega

theorem red_turn (y t : Nat) (ht : 0 < t) (hy : y ≤ 100 * t) {z : Nat} (hz : z + y = 100 * t) : red z t = (100 * (red y t).2 - (red y t).1, (red y t).2) := by
  have hg : Nat.gcd z t = Nat.gcd y t := by
    apply Nat.dvd_antisymm
    · refine Nat.dvd_gcd ?_ (Nat.gcd_dvd_right _ _)
      have h1 : Nat.gcd z t ∣ z + y := by rw [hz]; exact Nat.dvd_trans (Nat.gcd_dvd_right z t) (Nat.dvd_mul_left _ _)
      exact (Nat.dvd_add_right (Nat.gcd_dvd_left z t)).1 h1
    · refine Nat.dvd_gcd ?_ (Nat.gcd_dvd_right _ _)
      have h1 : Nat.gcd y t ∣ y + z := by rw [Nat.add_comm, hz]; exact Nat.dvd_trans (Nat.gcd_dvd_right y t) (Nat.dvd_mul_left _ _)
      exact (Nat.dvd_add_right (Nat.gcd_dvd_left y t)).1 h1
  have h0 : 0 < Nat.gcd y t := Nat.gcd_pos_of_pos_right _ ht
  unfold red
  rw [hg]
  have d1 := Nat.gcd_dvd_left y t
  have d2 := Nat.gcd_dvd_right y t
  have d3 := Nat.gcd_dvd_left z t
  rw [hg] at d3
  generalize Nat.gcd y t = g at *
  obtain ⟨y1, rfl⟩ := d1
  obtain ⟨t1, rfl⟩ := d2
  obtain ⟨z1, rfl⟩ := d3
  rw [Nat.mul_div_cancel_left _ h0, Nat.mul_div_cancel_left _ h0, Nat.mul_div_cancel_left _ h0]
  have : g * (z1 + y1) = g * (100 * t1) := by rw [Nat.mul_add, hz]; grind
  have := Nat.eq_of_mul_eq_mul_left h0 this
  simp only [Prod.mk.injEq, and_true]
  omega

theorem seg_ok3 {l : List Src} (ho : Ok l) (a c : Nat) : ∀ s ∈ (l.take c).drop a, 0 ≤ s.1 ∧ s.1 ≤ 100 ∧ 1 ≤ s.2 := fun s hs => by
  have := ho.2 s (List.mem_of_mem_take (List.mem_of_mem_drop hs))
  omega

section
variable {l : List Src} (ho : Ok l)
include ho

theorem Mx_turn {a b : Nat} (h : a < b) (hb : b ≤ l.length) : Mx (tl l) (l.length - b) (l.length - a) = (100 * (Mx l a b).2 - (Mx l a b).1, (Mx l a b).2) := by
  obtain ⟨e1, e2, _⟩ := tl_sums (seg_ok3 ho a b)
  have hT := T_pos ho h hb
  rw [← (seg_sums l (Nat.le_of_lt h)).2] at hT
  unfold Mx mn
  rw [tl_seg (Nat.le_of_lt h) hb, e1]
  exact red_turn _ _ (by omega) (by omega) e2

theorem dv_turn {a b : Nat} (h : a ≤ b) (hb : b ≤ l.length) (v : Frc) : dv (tl l) (100 * v.2 - v.1, v.2) (l.length - b) (l.length - a) = - dv l v a b := by
  obtain ⟨e1, e2, _⟩ := tl_sums (seg_ok3 ho a b)
  obtain ⟨s1, s2⟩ := seg_sums l h
  obtain ⟨t1, t2⟩ := seg_sums (tl l) (show l.length - b ≤ l.length - a by omega)
  rw [tl_seg h hb] at t1 t2
  unfold dv
  rw [← s1, ← s2, ← t1, ← t2, e1]
  have e3 : ((ysum (tl ((l.take b).drop a)) : Nat) : Int) = 100 * ((tsum ((l.take b).drop a) : Nat) : Int) - ((ysum ((l.take b).drop a) : Nat) : Int) := by omega
  rw [e3]
  grind
end

theorem IncT_iff {l : List Src} : ∀ {K : List (Nat × Nat)}, IncT l K ↔ K.Pairwise fun x y => (Mx l y.1 y.2).1 * (Mx l x.1 x.2).2 < (Mx l x.1 x.2).1 * (Mx l y.1 y.2).2
  | [] => by simp [IncT]
  | x :: r => by simp only [IncT, List.pairwise_cons, IncT_iff (K := r)]

/-- A chain from one place down to another. -/
def ChF : List (Nat × Nat) → Nat → Nat → Prop
  | [], t, s => t = s
  | (b, e) :: r, t, s => e = t ∧ b < e ∧ ChF r b s
theorem ChF_iff : ∀ {K : List (Nat × Nat)} {t : Nat}, ChF K t 0 ↔ ChT K t
  | [], _ => Iff.rfl
  | (b, e) :: r, t => by simp only [ChF, ChT, ChF_iff (K := r)]
theorem ChF.app : ∀ {K : List (Nat × Nat)} {t s u v : Nat}, ChF K t s → u < v → v = s → ChF (K ++ [(u, v)]) t u
  | [], t, s, u, v, h, h1, h2 => by
    have : t = s := h
    exact ⟨by omega, h1, rfl⟩
  | (b, e) :: r, t, s, u, v, ⟨a1, a2, a3⟩, h1, h2 => ⟨a1, a2, a3.app h1 h2⟩
theorem ChF.turn {L : Nat} : ∀ {K : List (Nat × Nat)} {t s : Nat}, ChF K t s → t ≤ L → ChF (K.map (tn L)).reverse (L - s) (L - t)
  | [], t, s, h, _ => by
    have : t = s := h
    subst this
    rfl
  | (b, e) :: r, t, s, ⟨h1, h2, h3⟩, ht => by
    subst h1
    have ih := h3.turn (L := L) (by omega)
    rw [List.map_cons, List.reverse_cons]
    exact ih.app (by simp only; omega) rfl

theorem ChT.turn {K : List (Nat × Nat)} {L : Nat} (h : ChT K L) : ChT (K.map (tn L)).reverse L := by
  have := (ChF_iff.2 h).turn (L := L) (Nat.le_refl _)
  rw [Nat.sub_self, Nat.sub_zero] at this
  exact ChF_iff.1 this

theorem Blk.turn {l : List Src} (ho : Ok l) {K : List (Nat × Nat)} (h : Blk l K l.length) : Blk (tl l) (K.map (tn l.length)).reverse (tl l).length := by
  rw [tl_len]
  refine ⟨h.ch.turn, fun y hy => ?_, ?_⟩
  · obtain ⟨x, hx, rfl⟩ := List.mem_map.1 (List.mem_reverse.1 hy)
    have hr := h.ch.rng x hx
    intro k h1 h2
    simp only [tn] at h1 h2 ⊢
    obtain ⟨j, hjl, rfl⟩ : ∃ j, j ≤ l.length ∧ k = l.length - j := ⟨l.length - k, by omega, by omega⟩
    rw [Mx_turn ho hr.1 hr.2]
    have hb : x.1 ≤ j ∧ j ≤ x.2 := by omega
    rw [dv_turn ho hb.2 hr.2]
    have hm := dv_mean ho hr.1 hr.2
    rw [dv_add l _ x.1 j x.2] at hm
    have := h.loc x hx j hb.1 hb.2
    omega
  · rw [IncT_iff, List.pairwise_reverse, List.pairwise_map]
    refine List.Pairwise.imp_of_mem ?_ (IncT_iff.1 h.inc)
    intro x y hx hy hlt
    have rx := h.ch.rng x hx
    have ry := h.ch.rng y hy
    simp only [tn]
    rw [Mx_turn ho rx.1 rx.2, Mx_turn ho ry.1 ry.2]
    simp only
    generalize (Mx l y.1 y.2).1 = p at *
    generalize (Mx l y.1 y.2).2 = q at *
    generalize (Mx l x.1 x.2).1 = r at *
    generalize (Mx l x.1 x.2).2 = s at *
    have e1 : (100 * s - r) * q = 100 * (s * q) - r * q := by grind
    have e2 : (100 * q - p) * s = 100 * (s * q) - p * s := by grind
    omega

/-! ### The cost -/
theorem fold_rev {α β : Type} (f : β → α → β) (hf : ∀ b x y, f (f b x) y = f (f b y) x) : ∀ (l : List α) (b : β), l.reverse.foldl f b = l.foldl f b
  | [], _ => rfl
  | x :: r, b => by
    rw [List.reverse_cons, List.foldl_append, fold_rev f hf r b]
    simp only [List.foldl_cons, List.foldl_nil]
    have : ∀ (l : List α) (b : β), f (l.foldl f b) x = l.foldl f (f b x) := by
      intro l
      induction l with
      | nil => intro b; rfl
      | cons y l ih => intro b; rw [List.foldl_cons, List.foldl_cons, ih, hf]
    exact this r b

theorem cstep_comm (l : List Src) (a : Int × Nat) (x y : Nat × Nat) (hx : 0 ≤ (Mx l x.1 x.2).2) (hy : 0 ≤ (Mx l y.1 y.2).2) : cstep l (cstep l a x) y = cstep l (cstep l a y) x := by
  unfold cstep
  obtain ⟨p, hp⟩ := Int.eq_ofNat_of_zero_le hx
  obtain ⟨q, hq⟩ := Int.eq_ofNat_of_zero_le hy
  simp only [hp, hq, Int.toNat_natCast, Int.natCast_mul, Prod.mk.injEq]
  exact ⟨by grind, by grind⟩

theorem Mx_den (l : List Src) (x : Nat × Nat) : 0 ≤ (Mx l x.1 x.2).2 := by unfold Mx mn red; exact Int.natCast_nonneg _

theorem fold_turn {l : List Src} (ho : Ok l) : ∀ (r : List (Nat × Nat)) (a : Int × Nat), (∀ x ∈ r, x.1 < x.2 ∧ x.2 ≤ l.length) → (r.map (tn l.length)).foldl (cstep (tl l)) a = r.foldl (cstep l) a
  | [], a, _ => rfl
  | x :: r, a, h => by
    have hx := h x (by simp)
    have e : cstep (tl l) a (tn l.length x) = cstep l a x := by
      obtain ⟨e1, e2, e3⟩ := tl_sums (seg_ok3 ho x.1 x.2)
      have hm := dv_mean ho hx.1 hx.2
      obtain ⟨s1, s2⟩ := seg_sums l (Nat.le_of_lt hx.1)
      unfold dv at hm
      rw [← s1, ← s2] at hm
      unfold cstep tn
      simp only [Mx_turn ho hx.1 hx.2, tl_seg (Nat.le_of_lt hx.1) hx.2]
      generalize ysum (tl ((l.take x.2).drop x.1)) = Y' at *
      generalize q2s (tl ((l.take x.2).drop x.1)) = Q' at *
      generalize ysum ((l.take x.2).drop x.1) = Y at *
      generalize tsum ((l.take x.2).drop x.1) = T at *
      generalize q2s ((l.take x.2).drop x.1) = Q at *
      generalize (Mx l x.1 x.2).1 = p at *
      generalize (Mx l x.1 x.2).2 = q at *
      have h1 : (Y' : Int) = 100 * T - Y := by omega
      have h2 : (Q' : Int) = 10000 * T + Q - 200 * Y := by omega
      simp only [Prod.mk.injEq, and_true]
      rw [h1, h2]
      have h3 : q * (Y : Int) = p * T := by omega
      grind
    rw [List.map_cons, List.foldl_cons, List.foldl_cons, e]
    exact fold_turn ho r _ fun y hy => h y (by simp [hy])

theorem cost_turn {l : List Src} (ho : Ok l) {K : List (Nat × Nat)} (h : Blk l K l.length) : (K.map (tn l.length)).reverse.reverse.foldl (cstep (tl l)) (0, 1) = K.reverse.foldl (cstep l) (0, 1) := by
  rw [List.reverse_reverse, fold_turn ho _ _ (fun x hx => h.ch.rng x hx), fold_rev (cstep l) fun b x y => cstep_comm l b x y (Mx_den l x) (Mx_den l y)]

end Go.Proofs.Ytombednapelokaa
