/- Reign: plain laws: blocks; the nearest values are those of the formula of means. -/
import Derived.Test.YtombednapelokaaMc
set_option linter.unusedVariables false
set_option linter.unusedSimpArgs false
namespace Go.Proofs.Ytombednapelokaa
open Go.Vi
/-! ### Sums up to a place -/
def Yk (l : List Src) (k : Nat) : Int := (ysum (l.take k) : Nat)
def Tk (l : List Src) (k : Nat) : Int := (tsum (l.take k) : Nat)
/-- How much the sources from a to c are, held against a value. -/
def dv (l : List Src) (v : Frc) (a c : Nat) : Int := v.2 * (Yk l c - Yk l a) - v.1 * (Tk l c - Tk l a)
def Mx (l : List Src) (a c : Nat) : Frc := mn ((l.take c).drop a)
theorem ysum_app : ∀ (a b : List Src), ysum (a ++ b) = ysum a + ysum b
  | [], b => by simp [ysum]
  | s :: a, b => by simp only [List.cons_append, ysum, ysum_app a b]; omega
theorem tsum_app : ∀ (a b : List Src), tsum (a ++ b) = tsum a + tsum b
  | [], b => by simp [tsum]
  | s :: a, b => by simp only [List.cons_append, tsum, tsum_app a b]; omega
theorem seg_sums (l : List Src) {a c : Nat} (h : a ≤ c) : ((ysum ((l.take c).drop a) : Nat) : Int) = Yk l c - Yk l a ∧ ((tsum ((l.take c).drop a) : Nat) : Int) = Tk l c - Tk l a := by
  have e : l.take c = l.take a ++ (l.take c).drop a := by
    have := List.take_append_drop a (l.take c)
    rw [List.take_take, Nat.min_eq_left h] at this
    exact this.symm
  unfold Yk Tk
  constructor
  · have := congrArg ysum e
    rw [ysum_app] at this
    omega
  · have := congrArg tsum e
    rw [tsum_app] at this
    omega
theorem dv_add (l : List Src) (v : Frc) (a b c : Nat) : dv l v a c = dv l v a b + dv l v b c := by
  unfold dv
  have h1 : v.2 * (Yk l c - Yk l a) = v.2 * (Yk l b - Yk l a) + v.2 * (Yk l c - Yk l b) := by rw [← Int.mul_add]; congr 1; omega
  have h2 : v.1 * (Tk l c - Tk l a) = v.1 * (Tk l b - Tk l a) + v.1 * (Tk l c - Tk l b) := by rw [← Int.mul_add]; congr 1; omega
  omega
theorem dv_self (l : List Src) (v : Frc) (a : Nat) : dv l v a a = 0 := by simp [dv]
theorem T_nonneg (l : List Src) {a c : Nat} (h : a ≤ c) : 0 ≤ Tk l c - Tk l a := by
  have := (seg_sums l h).2
  omega
section
variable {l : List Src} (ho : Ok l)
include ho
theorem Mx_Fr {a c : Nat} (h : a < c) (hc : c ≤ l.length) : Fr (Mx l a c) := mn_Fr ((ho.take _).drop _) (by simp; omega)
theorem T_pos {a c : Nat} (h : a < c) (hc : c ≤ l.length) : 0 < Tk l c - Tk l a := by
  have hs := Ok.sums ((ho.take c).drop a).2
  have := (seg_sums l (Nat.le_of_lt h)).2
  have hl : ((l.take c).drop a).length = c - a := by simp; omega
  omega
/-- A mean, and a value held against it. -/
theorem Mx_eq {a c : Nat} (h : a < c) (hc : c ≤ l.length) : ∃ g : Int, 0 < g ∧ Yk l c - Yk l a = (Mx l a c).1 * g ∧ Tk l c - Tk l a = (Mx l a c).2 * g := by
  obtain ⟨h1, h2⟩ := seg_sums l (Nat.le_of_lt h)
  have hT := T_pos ho h hc
  have hd : 0 < tsum ((l.take c).drop a) := by omega
  have hg : 0 < Nat.gcd (ysum ((l.take c).drop a)) (tsum ((l.take c).drop a)) := Nat.gcd_pos_of_pos_right _ hd
  refine ⟨(Nat.gcd (ysum ((l.take c).drop a)) (tsum ((l.take c).drop a)) : Nat), by omega, ?_, ?_⟩
  · rw [← h1]
    show _ = ((ysum ((l.take c).drop a) / Nat.gcd _ _ : Nat) : Int) * _
    rw [← Int.natCast_mul, Nat.div_mul_cancel (Nat.gcd_dvd_left _ _)]
  · rw [← h2]
    show _ = ((tsum ((l.take c).drop a) / Nat.gcd _ _ : Nat) : Int) * _
    rw [← Int.natCast_mul, Nat.div_mul_cancel (Nat.gcd_dvd_right _ _)]
theorem dv_mean {a c : Nat} (h : a < c) (hc : c ≤ l.length) : dv l (Mx l a c) a c = 0 := by
  obtain ⟨g, hg, e1, e2⟩ := Mx_eq ho h hc
  unfold dv
  rw [e1, e2]
  have : (Mx l a c).2 * ((Mx l a c).1 * g) = (Mx l a c).1 * ((Mx l a c).2 * g) := Int.mul_left_comm _ _ _
  omega
theorem fle_mean {a c : Nat} (h : a < c) (hc : c ≤ l.length) (v : Frc) : fle v (Mx l a c) ↔ 0 ≤ dv l v a c := by
  obtain ⟨g, hg, e1, e2⟩ := Mx_eq ho h hc
  unfold dv fle
  rw [e1, e2]
  have h1 : v.2 * ((Mx l a c).1 * g) - v.1 * ((Mx l a c).2 * g) = ((Mx l a c).1 * v.2 - v.1 * (Mx l a c).2) * g := by
    rw [Int.sub_mul, Int.mul_comm (Mx l a c).1 v.2, Int.mul_assoc, Int.mul_assoc]
  rw [h1]
  constructor
  · intro hle
    exact Int.mul_nonneg (by omega) (by omega)
  · intro hle
    have := Int.nonneg_of_mul_nonneg_left hle hg
    omega
theorem mean_fle {a c : Nat} (h : a < c) (hc : c ≤ l.length) (v : Frc) : fle (Mx l a c) v ↔ dv l v a c ≤ 0 := by
  obtain ⟨g, hg, e1, e2⟩ := Mx_eq ho h hc
  unfold dv fle
  rw [e1, e2]
  have h1 : v.2 * ((Mx l a c).1 * g) - v.1 * ((Mx l a c).2 * g) = -((v.1 * (Mx l a c).2 - (Mx l a c).1 * v.2) * g) := by
    rw [Int.sub_mul, Int.mul_comm (Mx l a c).1 v.2, Int.mul_assoc, Int.mul_assoc]
    omega
  rw [h1]
  constructor
  · intro hle
    have := Int.mul_nonneg (a := v.1 * (Mx l a c).2 - (Mx l a c).1 * v.2) (b := g) (by omega) (by omega)
    omega
  · intro hle
    have := Int.nonneg_of_mul_nonneg_left (a := v.1 * (Mx l a c).2 - (Mx l a c).1 * v.2) (b := g) (by omega) hg
    omega
end
theorem dv_mono {l : List Src} {w v : Frc} (hw : 0 < w.2) (hv : 0 < v.2) (h : fle w v) {a c : Nat} (hac : a ≤ c) (hd : 0 ≤ dv l v a c) : 0 ≤ dv l w a c := by
  have hT := T_nonneg l hac
  unfold dv fle at *
  generalize Yk l c - Yk l a = Y at *
  generalize Tk l c - Tk l a = T at *
  have m1 : w.1 * v.2 * T ≤ v.1 * w.2 * T := Int.mul_le_mul_of_nonneg_right h hT
  have m2 : 0 ≤ w.2 * (v.2 * Y - v.1 * T) := Int.mul_nonneg (by omega) hd
  have m3 : w.2 * (v.2 * Y - v.1 * T) = v.2 * (w.2 * Y) - v.1 * w.2 * T := by
    rw [Int.mul_sub, Int.mul_left_comm, ← Int.mul_assoc w.2 v.1 T, Int.mul_comm w.2 v.1]
  have m4 : v.2 * (w.2 * Y - w.1 * T) = v.2 * (w.2 * Y) - w.1 * v.2 * T := by
    rw [Int.mul_sub, ← Int.mul_assoc v.2 w.1 T, Int.mul_comm v.2 w.1]
  have m5 : 0 ≤ v.2 * (w.2 * Y - w.1 * T) := by omega
  exact Int.nonneg_of_mul_nonneg_right m5 hv
theorem dv_mono' {l : List Src} {w v : Frc} (hw : 0 < w.2) (hv : 0 < v.2) (h : fle v w) {a c : Nat} (hac : a ≤ c) (hd : dv l v a c ≤ 0) : dv l w a c ≤ 0 := by
  have hT := T_nonneg l hac
  unfold dv fle at *
  generalize Yk l c - Yk l a = Y at *
  generalize Tk l c - Tk l a = T at *
  have m1 : v.1 * w.2 * T ≤ w.1 * v.2 * T := Int.mul_le_mul_of_nonneg_right h hT
  have m2 : 0 ≤ w.2 * (v.1 * T - v.2 * Y) := Int.mul_nonneg (by omega) (by omega)
  have m3 : w.2 * (v.1 * T - v.2 * Y) = v.1 * w.2 * T - v.2 * (w.2 * Y) := by
    rw [Int.mul_sub, Int.mul_left_comm w.2 v.2 Y, ← Int.mul_assoc w.2 v.1 T, Int.mul_comm w.2 v.1]
  have m4 : v.2 * (w.1 * T - w.2 * Y) = w.1 * v.2 * T - v.2 * (w.2 * Y) := by
    rw [Int.mul_sub, ← Int.mul_assoc v.2 w.1 T, Int.mul_comm v.2 w.1]
  have m5 : 0 ≤ v.2 * (w.1 * T - w.2 * Y) := by omega
  have := Int.nonneg_of_mul_nonneg_right m5 hv
  omega
/-! ### Blocks, the last one first -/
def ChT : List (Nat × Nat) → Nat → Prop
  | [], t => t = 0
  | (b, e) :: r, t => e = t ∧ b < e ∧ ChT r b
def Loc (l : List Src) (b e : Nat) : Prop := ∀ k, b ≤ k → k ≤ e → 0 ≤ dv l (Mx l b e) b k
def IncT (l : List Src) : List (Nat × Nat) → Prop
  | [] => True
  | x :: r => (∀ y ∈ r, (Mx l y.1 y.2).1 * (Mx l x.1 x.2).2 < (Mx l x.1 x.2).1 * (Mx l y.1 y.2).2) ∧ IncT l r
structure Blk (l : List Src) (K : List (Nat × Nat)) (t : Nat) : Prop where
  ch : ChT K t
  loc : ∀ x ∈ K, Loc l x.1 x.2
  inc : IncT l K
theorem ChT.rng : ∀ {K : List (Nat × Nat)} {t : Nat}, ChT K t → ∀ x ∈ K, x.1 < x.2 ∧ x.2 ≤ t
  | [], _, _, x, hx => by cases hx
  | (b, e) :: r, t, h, x, hx => by
    obtain ⟨h1, h2, h3⟩ := h
    rcases List.mem_cons.1 hx with rfl | hx
    · exact ⟨h2, by simp only; omega⟩
    · have := ChT.rng h3 x hx
      omega
section
variable {l : List Src} (ho : Ok l)
include ho
theorem chain_le {v : Frc} (hv : 0 < v.2) : ∀ {K : List (Nat × Nat)} {t : Nat}, ChT K t → t ≤ l.length → (∀ x ∈ K, Loc l x.1 x.2) → (∀ x ∈ K, fle (Mx l x.1 x.2) v) → ∀ k, k ≤ t → dv l v k t ≤ 0
  | [], t, h, _, _, _, k, hk => by
    have : t = 0 := h
    have : k = t := by omega
    subst this
    rw [dv_self]
    omega
  | (b, e) :: r, t, h, ht, hl, hx, k, hk => by
    obtain ⟨rfl, h2, h3⟩ := h
    have hL := hl (b, e) (by simp)
    have hF := Mx_Fr ho h2 ht
    have hm := dv_mean ho h2 ht
    have base : ∀ k, b ≤ k → k ≤ e → dv l v k e ≤ 0 := by
      intro k h5 h6
      have h7 : 0 ≤ dv l (Mx l b e) b k := hL k h5 h6
      have h8 := dv_add l (Mx l b e) b k e
      exact dv_mono' (l := l) hv hF.dp (hx (b, e) (by simp)) h6 (by omega)
    rcases Nat.lt_or_ge k b with hkb | hkb
    · have h5 := chain_le hv h3 (by omega) (fun x hx' => hl x (List.mem_cons_of_mem _ hx')) (fun x hx' => hx x (List.mem_cons_of_mem _ hx')) k (by omega)
      have h6 := base b (Nat.le_refl _) (by omega)
      rw [dv_add l v k b e]
      omega
    · exact base k hkb hk
theorem Blk.glob : ∀ {K : List (Nat × Nat)} {t : Nat}, Blk l K t → t ≤ l.length → ∀ x ∈ K, ∀ k, k ≤ t → 0 ≤ dv l (Mx l x.1 x.2) x.1 k
  | [], _, _, _, x, hx, _, _ => by cases hx
  | (b, e) :: r, t, h, ht, x, hx, k, hk => by
    obtain ⟨⟨rfl, h2, h3⟩, hl, hi, hinc⟩ := h
    have hr : Blk l r b := ⟨h3, fun y hy => hl y (List.mem_cons_of_mem _ hy), hinc⟩
    have hF := Mx_Fr ho h2 ht
    rcases List.mem_cons.1 hx with rfl | hx
    · rcases Nat.lt_or_ge k b with hkb | hkb
      · have := chain_le ho hF.dp h3 (by omega) hr.loc (fun y hy => by
          have h9 := hi y hy
          simp only at h9
          exact Int.le_of_lt h9) k (by omega)
        have h8 := dv_add l (Mx l b e) b k b
        rw [dv_self] at h8
        simp only
        omega
      · exact hl (b, e) (by simp) k hkb hk
    · rcases Nat.lt_or_ge k b with hkb | hkb
      · exact Blk.glob hr (by omega) x hx k (by omega)
      · have h5 := Blk.glob hr (by omega) x hx b (Nat.le_refl _)
        have h6 := hl (b, e) (by simp) k hkb hk
        have hx2 := ChT.rng h3 x hx
        have h7 := dv_mono (l := l) (Mx_Fr ho hx2.1 (by omega)).dp hF.dp (by have h9 := hi x hx; simp only at h9; exact Int.le_of_lt h9) hkb h6
        rw [dv_add l _ x.1 b k]
        omega
/-- Two blocks become one. -/
theorem Loc.join {b c e : Nat} (h1 : b < c) (h2 : c < e) (he : e ≤ l.length) (hb : Loc l b c) (hn : Loc l c e) (hle : fle (Mx l c e) (Mx l b c)) : Loc l b e := by
  have F1 := Mx_Fr ho h1 (by omega)
  have F2 := Mx_Fr ho h2 he
  have F := Mx_Fr ho (a := b) (c := e) (by omega) he
  have m1 := dv_mean ho h1 (by omega)
  have m2 := dv_mean ho h2 he
  have m := dv_mean ho (a := b) (c := e) (by omega) he
  -- the joined mean lies between the two
  have u1 : fle (Mx l b e) (Mx l b c) := by
    rw [mean_fle ho (by omega) he, dv_add l _ b c e, m1]
    have := dv_mono' (l := l) F1.dp F2.dp hle (a := c) (c := e) (by omega) (by omega)
    omega
  have u2 : fle (Mx l c e) (Mx l b e) := by
    rw [fle_mean ho (by omega) he, dv_add l _ b c e, m2]
    have := dv_mono (l := l) F2.dp F1.dp hle (a := b) (c := c) (by omega) (by omega)
    omega
  intro k hk1 hk2
  rcases Nat.lt_or_ge k c with hkc | hkc
  · exact dv_mono (l := l) F.dp F1.dp u1 hk1 (hb k hk1 (by omega))
  · have h5 := hn k hkc hk2
    have h6 := dv_add l (Mx l c e) c k e
    have h7 := dv_mono' (l := l) F.dp F2.dp u2 hk2 (by omega)
    have h8 := dv_add l (Mx l b e) b k e
    omega
theorem Loc.one {k : Nat} (h : k < l.length) : Loc l k (k + 1) := by
  intro j h1 h2
  rcases Nat.eq_or_lt_of_le h1 with rfl | h3
  · rw [dv_self]; omega
  · have : j = k + 1 := by omega
    subst this
    rw [dv_mean ho (by omega) (by omega)]
    omega
/-- The value of a block is the greatest of the smallest means. -/
theorem Blk.hi {K : List (Nat × Nat)} (h : Blk l K l.length) {x : Nat × Nat} (hx : x ∈ K) {i : Nat} (h1 : x.1 ≤ i) (h2 : i < x.2) {hv : Frc} (hh : HiS l i hv) : hv = Mx l x.1 x.2 := by
  obtain ⟨b, e⟩ := x
  simp only at h1 h2
  have hr := h.ch.rng (b, e) hx
  simp only at hr
  have F := Mx_Fr ho hr.1 hr.2
  have hg := h.glob ho (Nat.le_refl _) (b, e) hx
  simp only at hg
  obtain ⟨O, o1, o2, o3⟩ := hh
  have hmem : ∀ y ∈ O, Fr y := by
    intro y hy
    obtain ⟨j, hj, rfl⟩ := List.getElem_of_mem hy
    exact Row_Fr ho (by omega) (o2 j hj).1
  have hF := hmem hv o3.1
  refine fle_anti hF F ?_ ?_
  · obtain ⟨a, ha, rfl⟩ := List.getElem_of_mem o3.1
    have hM := (o2 a ha).2 (M l a (e - 1)) ⟨e - 1, by omega, by omega, rfl⟩
    have e1 : M l a (e - 1) = Mx l a e := by unfold M Mx; rw [show e - 1 + 1 = e by omega]
    rw [e1] at hM
    have h5 := hg a (by omega)
    have h6 := dv_add l (Mx l b e) b a e
    rw [dv_mean ho hr.1 hr.2] at h6
    have h7 : fle (Mx l a e) (Mx l b e) := (mean_fle ho (by omega) hr.2 _).2 (by omega)
    exact fle_trans hF.dp (Mx_Fr ho (a := a) (c := e) (by omega) hr.2).dp F.dp hM h7
  · have hb : b < O.length := by omega
    obtain ⟨c, c1, c2, c3⟩ := (o2 b hb).1
    have e1 : M l b c = Mx l b (c + 1) := rfl
    have h5 : fle (Mx l b e) (O[b]) := by
      rw [c3, e1, fle_mean ho (by omega) (by omega)]
      exact hg (c + 1) (by omega)
    have h6 : fle O[b] hv := o3.2 O[b] (List.getElem_mem hb)
    exact fle_trans F.dp (hmem _ (List.getElem_mem hb)).dp hF.dp h5 h6
end
end Go.Proofs.Ytombednapelokaa
