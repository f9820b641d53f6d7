/- Reign: plain laws: the nearest values cost the least; values that are proved are the nearest ones. -/
import Derived.Test.YtombednapelokaaNj
import Derived.Test.YtombednapelokaaMo
set_option linter.unusedVariables false
set_option linter.unusedSimpArgs false
namespace Go.Proofs.Ytombednapelokaa
open Go.Vi
/-! ### Other values -/
/-- The cost of whole values. -/
def cst : List Src → List Int → Int
  | s :: l, z :: Z => s.2 * (s.1 - z) * (s.1 - z) + cst l Z
  | _, _ => 0
def cw (p q : Int) : List Src → List Int → Int
  | s :: l, z :: Z => s.2 * ((z * q - p) * (z * q - p)) + cw p q l Z
  | _, _ => 0
def cf (p q : Int) : List Src → List Int → Int
  | s :: l, z :: Z => s.2 * (s.1 * q - p) * (z * q - p) + cf p q l Z
  | _, _ => 0
/-- Sums of rests from E on are not below 0, and 0 at the end. -/
def Pf (p q : Int) : Int → List Src → Prop
  | E, [] => E = 0
  | E, s :: l => 0 ≤ E ∧ Pf p q (E + s.2 * (s.1 * q - p)) l
theorem cst_app : ∀ (a b : List Src) (c d : List Int), a.length = c.length → cst (a ++ b) (c ++ d) = cst a c + cst b d
  | [], b, [], d, _ => by simp [cst]
  | [], b, _ :: _, d, h => by simp at h
  | _ :: _, b, [], d, h => by simp at h
  | s :: a, b, z :: c, d, h => by
    simp only [List.cons_append, cst]
    rw [cst_app a b c d (by simpa using h)]
    omega
theorem cst_eq (p q : Int) : ∀ (u : List Src) (w : List Int), u.length = w.length → q * q * cst u w = rss (p, q) u + cw p q u w - 2 * cf p q u w
  | [], [], _ => by simp [cst, rss, cw, cf]
  | [], _ :: _, h => by simp at h
  | _ :: _, [], h => by simp at h
  | s :: u, z :: w, h => by
    have ih := cst_eq p q u w (by simpa using h)
    simp only [cst, rss, cw, cf]
    rw [Int.mul_add, ih]
    grind
theorem cw_nonneg (p q : Int) : ∀ (u : List Src) (w : List Int), (∀ x ∈ u, 0 ≤ x.1 ∧ x.1 ≤ 100 ∧ 1 ≤ x.2 ∧ x.2 ≤ 9) → 0 ≤ cw p q u w ∧ (cw p q u w = 0 → u.length = w.length → ∀ z ∈ w, z * q = p)
  | [], [], _ => ⟨Int.le_refl _, fun _ _ z hz => by simp at hz⟩
  | [], z :: w, _ => ⟨Int.le_refl _, fun _ h => by simp at h⟩
  | s :: u, [], _ => ⟨Int.le_refl _, fun _ h => by simp at h⟩
  | s :: u, z :: w, h => by
    obtain ⟨i1, i2⟩ := cw_nonneg p q u w fun x hx => h x (by simp [hx])
    have hs := h s (by simp)
    have hsq : 0 ≤ (z * q - p) * (z * q - p) := by
      rcases Int.le_total 0 (z * q - p) with h | h
      · exact Int.mul_nonneg h h
      · exact Int.mul_nonneg_of_nonpos_of_nonpos h h
    have h1 : 0 ≤ s.2 * ((z * q - p) * (z * q - p)) := Int.mul_nonneg (by omega) hsq
    refine ⟨by simp only [cw]; omega, fun h0 hl y hy => ?_⟩
    simp only [cw] at h0
    rcases List.mem_cons.1 hy with rfl | hy
    · have h2 : s.2 * ((y * q - p) * (y * q - p)) = 0 := by omega
      rcases Int.mul_eq_zero.1 h2 with h3 | h3
      · omega
      · rcases Int.mul_eq_zero.1 h3 with h4 | h4 <;> omega
    · exact i2 (by omega) (by simpa using hl) y hy
theorem cw_zero (p q : Int) : ∀ (u : List Src) (w : List Int), (∀ z ∈ w, z * q = p) → cw p q u w = 0 ∧ cf p q u w = 0
  | [], [], _ => ⟨rfl, rfl⟩
  | [], _ :: _, _ => ⟨rfl, rfl⟩
  | _ :: _, [], _ => ⟨rfl, rfl⟩
  | s :: u, z :: w, h => by
    obtain ⟨i1, i2⟩ := cw_zero p q u w fun y hy => h y (by simp [hy])
    have hz := h z (by simp)
    simp only [cw, cf, i1, i2]
    rw [show z * q - p = 0 by omega]
    simp
theorem cf_le (p q : Int) (hq : 0 < q) : ∀ (u : List Src) (w : List Int) (E z0 : Int), u.length = w.length → (z0 :: w).Pairwise (· ≤ ·) → Pf p q E u → cf p q u w ≤ - (E * (z0 * q - p))
  | [], [], E, z0, _, _, h => by
    have : E = 0 := h
    subst this
    simp [cf]
  | [], _ :: _, _, _, h, _, _ => by simp at h
  | _ :: _, [], _, _, h, _, _ => by simp at h
  | s :: u, z :: w, E, z0, hl, hp, ⟨h1, h2⟩ => by
    obtain ⟨p1, p2⟩ := List.pairwise_cons.1 hp
    have ih := cf_le p q hq u w (E + s.2 * (s.1 * q - p)) z (by simpa using hl) p2 h2
    have hz := p1 z (by simp)
    have h3 : E * (z0 * q - p) ≤ E * (z * q - p) := by
      refine Int.mul_le_mul_of_nonneg_left ?_ h1
      have := Int.mul_le_mul_of_nonneg_right hz (Int.le_of_lt hq)
      omega
    simp only [cf]
    have h4 : (E + s.2 * (s.1 * q - p)) * (z * q - p) = E * (z * q - p) + s.2 * (s.1 * q - p) * (z * q - p) := by grind
    omega
section
variable {l : List Src} (hg : Good l)
include hg
/-- Sums of rests of a block. -/
theorem pf_of {b e : Nat} (he : e ≤ l.length) (hloc : Loc l b e) (hm : dv l (Mx l b e) b e = 0) : ∀ (k i : Nat), i + k = e → b ≤ i → Pf (Mx l b e).1 (Mx l b e).2 (dv l (Mx l b e) b i) ((l.take e).drop i)
  | 0, i, hi, hb => by
    have : i = e := by omega
    subst this
    rw [List.drop_of_length_le (by simp; omega)]
    exact hm
  | k + 1, i, hi, hb => by
    have hil : i < l.length := by omega
    have hie : i < (l.take e).length := by simp; omega
    rw [List.drop_eq_getElem_cons hie, List.getElem_take]
    refine ⟨hloc i hb (by omega), ?_⟩
    have := pf_of he hloc hm k (i + 1) (by omega) (by omega)
    rw [rest_step (Mx l b e) (b := b) hil (hg.all l[i] (List.getElem_mem hil))] at this
    exact this
/-- In one block. -/
theorem seg_opt {b e : Nat} (hbe : b < e) (he : e ≤ l.length) (hloc : Loc l b e) {w : List Int} (hw : w.length = e - b) (hup : w.Pairwise (· ≤ ·)) :
    ((q2s ((l.take e).drop b) : Nat) : Int) * (Mx l b e).2 - ((ysum ((l.take e).drop b) : Nat) : Int) * (Mx l b e).1 ≤ cst ((l.take e).drop b) w * (Mx l b e).2 ∧
    (cst ((l.take e).drop b) w * (Mx l b e).2 = ((q2s ((l.take e).drop b) : Nat) : Int) * (Mx l b e).2 - ((ysum ((l.take e).drop b) : Nat) : Int) * (Mx l b e).1 ↔ ∀ z ∈ w, z * (Mx l b e).2 = (Mx l b e).1) := by
  have ho := hg.ok
  have hm := dv_mean ho hbe he
  have hsok : Ok ((l.take e).drop b) := (ho.take e).drop b
  have F := Mx_Fr ho hbe he
  have hlen : ((l.take e).drop b).length = w.length := by simp; omega
  have hpf := pf_of hg he hloc hm (e - b) b (by omega) (Nat.le_refl _)
  rw [dv_self] at hpf
  have hcf : cf (Mx l b e).1 (Mx l b e).2 ((l.take e).drop b) w ≤ 0 := by
    match w, hw, hup, hlen with
    | [], hw, _, _ => simp at hw; omega
    | z :: w, _, hup, hlen =>
      have := cf_le (Mx l b e).1 (Mx l b e).2 F.dp ((l.take e).drop b) (z :: w) 0 z hlen (List.pairwise_cons.2 ⟨fun y hy => by
        rcases List.mem_cons.1 hy with rfl | hy
        · exact Int.le_refl _
        · exact (List.pairwise_cons.1 hup).1 y hy, hup⟩) hpf
      simpa using this
  have heq := cst_eq (Mx l b e).1 (Mx l b e).2 ((l.take e).drop b) w hlen
  obtain ⟨w1, w2⟩ := cw_nonneg (Mx l b e).1 (Mx l b e).2 ((l.take e).drop b) w hsok.2
  have hw0 := cw_zero (Mx l b e).1 (Mx l b e).2 ((l.take e).drop b) w
  have hrss := rss_eq (Mx l b e) hsok.2
  obtain ⟨s1, s2⟩ := seg_sums l (Nat.le_of_lt hbe)
  unfold dv at hm
  rw [← s1, ← s2] at hm
  have hq := F.dp
  rw [show ((Mx l b e).1, (Mx l b e).2) = Mx l b e from rfl] at heq
  generalize cst ((l.take e).drop b) w = A at *
  generalize cw (Mx l b e).1 (Mx l b e).2 ((l.take e).drop b) w = W at *
  generalize cf (Mx l b e).1 (Mx l b e).2 ((l.take e).drop b) w = F' at *
  generalize rss (Mx l b e) ((l.take e).drop b) = Z at *
  generalize (Mx l b e).1 = p at *
  generalize (Mx l b e).2 = q at *
  generalize ((ysum ((l.take e).drop b) : Nat) : Int) = Y at *
  generalize ((tsum ((l.take e).drop b) : Nat) : Int) = T at *
  generalize ((q2s ((l.take e).drop b) : Nat) : Int) = Q at *
  have h5 : p * T = q * Y := by omega
  have key : q * (A * q - (Q * q - Y * p)) = W - 2 * F' := by
    have : q * (A * q - (Q * q - Y * p)) = q * q * A - (q * q * Q - 2 * q * p * Y + p * p * T) := by grind
    rw [this, heq, hrss]
    omega
  have h6 : 0 ≤ A * q - (Q * q - Y * p) := by
    refine Int.nonneg_of_mul_nonneg_left (b := q) ?_ hq
    rw [Int.mul_comm, key]
    omega
  refine ⟨by omega, fun h => w2 ?_ hlen, fun h => ?_⟩
  · have : A * q - (Q * q - Y * p) = 0 := by omega
    rw [this, Int.mul_zero] at key
    omega
  · obtain ⟨z1, z2⟩ := hw0 h
    rw [z1, z2] at key
    have : q * (A * q - (Q * q - Y * p)) = 0 := by omega
    rcases Int.mul_eq_zero.1 this with h7 | h7 <;> omega
variable {K : List (Nat × Nat)} (hK : Blk l K l.length)
include hK
theorem opt_fold {Z : List Int} (hZ : Z.length = l.length) (hup : Z.Pairwise (· ≤ ·)) : ∀ (r : List (Nat × Nat)) (t : Nat) (a : Int × Nat) (S : Int), Cb t r l.length → (∀ x ∈ r, x ∈ K) → 0 < a.2 → a.1 ≤ S * a.2 →
    (r.foldl (cstep l) a).1 ≤ (S + cst (l.drop t) (Z.drop t)) * (r.foldl (cstep l) a).2 ∧
    ((S + cst (l.drop t) (Z.drop t)) * (r.foldl (cstep l) a).2 = (r.foldl (cstep l) a).1 ↔ S * a.2 = a.1 ∧ ∀ x ∈ r, ∀ i (h : i < Z.length), x.1 ≤ i → i < x.2 → Z[i] * (Mx l x.1 x.2).2 = (Mx l x.1 x.2).1)
  | [], t, a, S, hc, _, ha, hS => by
    have : t = l.length := hc
    subst this
    rw [List.drop_of_length_le (Nat.le_refl _)]
    simp [cst]
    exact hS
  | (b, e) :: r, t, a, S, ⟨h1, h2, h3⟩, hr, ha, hS => by
    subst h1
    have he : e ≤ l.length := h3.le
    have hx := hr (b, e) (by simp)
    have F := Mx_Fr hg.ok h2 he
    obtain ⟨o1, o2⟩ := seg_opt hg h2 he (hK.loc _ hx) (w := (Z.take e).drop b) (by simp; omega) (List.Pairwise.sublist ((List.drop_sublist _ _).trans (List.take_sublist _ _)) hup)
    have hsplit : cst (l.drop b) (Z.drop b) = cst ((l.take e).drop b) ((Z.take e).drop b) + cst (l.drop e) (Z.drop e) := by
      have e1 : ∀ {α : Type} (u : List α), u.drop b = (u.take e).drop b ++ u.drop e := by
        intro α u
        have := List.take_append_drop (e - b) (u.drop b)
        rw [List.drop_drop, show b + (e - b) = e by omega] at this
        rw [List.drop_take]
        exact this.symm
      conv => lhs; rw [e1 l, e1 Z]
      rw [cst_app _ _ _ _ (by simp; omega)]
    have hq := F.dp
    obtain ⟨q, hqe⟩ := Int.eq_ofNat_of_zero_le (Int.le_of_lt hq)
    have hcs : cstep l a (b, e) = (a.1 * (q : Int) + a.2 * (((q2s ((l.take e).drop b) : Nat) : Int) * (q : Int) - ((ysum ((l.take e).drop b) : Nat) : Int) * (Mx l b e).1), a.2 * q) := by
      unfold cstep
      simp only [hqe, Int.toNat_natCast]
    have hall : (∀ z ∈ (Z.take e).drop b, z * (Mx l b e).2 = (Mx l b e).1) ↔ ∀ i (h : i < Z.length), b ≤ i → i < e → Z[i] * (Mx l b e).2 = (Mx l b e).1 := by
      constructor
      · intro h i hi hbi hie
        refine h _ (List.mem_iff_getElem.2 ⟨i - b, by simp; omega, ?_⟩)
        simp only [List.getElem_drop, List.getElem_take]
        congr 1
        omega
      · intro h z hz
        obtain ⟨j, hj, rfl⟩ := List.mem_iff_getElem.1 hz
        simp only [List.length_drop, List.length_take] at hj
        simp only [List.getElem_drop, List.getElem_take]
        exact h (b + j) (by omega) (by omega) (by omega)
    rw [hqe] at o1 o2 hq
    have hstep : (cstep l a (b, e)).1 ≤ (S + cst ((l.take e).drop b) ((Z.take e).drop b)) * ((cstep l a (b, e)).2 : Nat) := by
      rw [hcs]
      simp only [Int.natCast_mul]
      have a1 := Int.mul_le_mul_of_nonneg_right hS (Int.le_of_lt hq)
      have a2 := Int.mul_le_mul_of_nonneg_left o1 (show (0 : Int) ≤ (a.2 : Int) by omega)
      have : (S + cst ((l.take e).drop b) ((Z.take e).drop b)) * ((a.2 : Int) * (q : Int)) = S * a.2 * q + a.2 * (cst ((l.take e).drop b) ((Z.take e).drop b) * q) := by grind
      omega
    have hstep2 : (S + cst ((l.take e).drop b) ((Z.take e).drop b)) * ((cstep l a (b, e)).2 : Nat) = (cstep l a (b, e)).1 ↔ S * a.2 = a.1 ∧ ∀ i (h : i < Z.length), b ≤ i → i < e → Z[i] * (Mx l b e).2 = (Mx l b e).1 := by
      rw [← hall, hqe, ← o2, hcs]
      simp only [Int.natCast_mul]
      have a1 := Int.mul_le_mul_of_nonneg_right hS (Int.le_of_lt hq)
      have a2 := Int.mul_le_mul_of_nonneg_left o1 (show (0 : Int) ≤ (a.2 : Int) by omega)
      have e5 : (S + cst ((l.take e).drop b) ((Z.take e).drop b)) * ((a.2 : Int) * (q : Int)) = S * a.2 * q + a.2 * (cst ((l.take e).drop b) ((Z.take e).drop b) * q) := by grind
      rw [e5]
      constructor
      · intro h
        have b1 : S * (a.2 : Int) * q = a.1 * q := by omega
        have b2 : (a.2 : Int) * (cst ((l.take e).drop b) ((Z.take e).drop b) * q) = a.2 * (((q2s ((l.take e).drop b) : Nat) : Int) * (q : Int) - ((ysum ((l.take e).drop b) : Nat) : Int) * (Mx l b e).1) := by omega
        exact ⟨Int.eq_of_mul_eq_mul_right (Int.ne_of_gt hq) b1, Int.eq_of_mul_eq_mul_left (show (a.2 : Int) ≠ 0 by omega) b2⟩
      · rintro ⟨b1, b2⟩
        rw [b1, b2]
    obtain ⟨i1, i2⟩ := opt_fold hZ hup r e (cstep l a (b, e)) (S + cst ((l.take e).drop b) ((Z.take e).drop b)) h3 (fun x hx => hr x (by simp [hx])) (by rw [hcs]; exact Nat.mul_pos ha (by omega)) hstep
    rw [hsplit, ← Int.add_assoc]
    refine ⟨i1, i2.trans ?_⟩
    rw [hstep2]
    constructor
    · rintro ⟨⟨c1, c2⟩, c3⟩
      refine ⟨c1, fun x hx => ?_⟩
      rcases List.mem_cons.1 hx with rfl | hx
      · exact c2
      · exact c3 x hx
    · rintro ⟨c1, c2⟩
      exact ⟨⟨c1, c2 (b, e) (by simp)⟩, fun x hx => c2 x (by simp [hx])⟩
omit hK in
/-- Where nothing is to be paid the years are the values. -/
theorem zero_fold : ∀ (r : List (Nat × Nat)) (t : Nat) (a : Int × Nat), Cb t r l.length → (∀ x ∈ r, x ∈ K) → 0 < a.2 → 0 ≤ a.1 → 0 ≤ (r.foldl (cstep l) a).1 ∧ ((r.foldl (cstep l) a).1 = 0 → a.1 = 0 ∧ ∀ x ∈ r, ∀ i (h : i < l.length), x.1 ≤ i → i < x.2 → l[i].1 * (Mx l x.1 x.2).2 = (Mx l x.1 x.2).1)
  | [], t, a, hc, _, ha, h0 => ⟨h0, fun h => ⟨h, by simp⟩⟩
  | (b, e) :: r, t, a, ⟨h1, h2, h3⟩, hr, ha, h0 => by
    subst h1
    have ho := hg.ok
    have he : e ≤ l.length := h3.le
    have F := Mx_Fr ho h2 he
    have hsok : Ok ((l.take e).drop b) := (ho.take e).drop b
    have hq := F.dp
    obtain ⟨q, hqe⟩ := Int.eq_ofNat_of_zero_le (Int.le_of_lt hq)
    have hcs : cstep l a (b, e) = (a.1 * (q : Int) + a.2 * (((q2s ((l.take e).drop b) : Nat) : Int) * (q : Int) - ((ysum ((l.take e).drop b) : Nat) : Int) * (Mx l b e).1), a.2 * q) := by
      unfold cstep
      simp only [hqe, Int.toNat_natCast]
    have hrss := rss_eq (Mx l b e) hsok.2
    have hpos : ∀ {u : List Src}, (∀ x ∈ u, 0 ≤ x.1 ∧ x.1 ≤ 100 ∧ 1 ≤ x.2 ∧ x.2 ≤ 9) → 0 ≤ rss (Mx l b e) u ∧ (rss (Mx l b e) u = 0 → ∀ x ∈ u, x.1 * (Mx l b e).2 = (Mx l b e).1) := by
      intro u
      induction u with
      | nil => intro _; exact ⟨Int.le_refl _, by simp⟩
      | cons x u ih =>
        intro h
        have hx := h x (by simp)
        obtain ⟨h1, h3⟩ := ih fun y hy => h y (by simp [hy])
        have hsq : 0 ≤ (x.1 * (Mx l b e).2 - (Mx l b e).1) * (x.1 * (Mx l b e).2 - (Mx l b e).1) := by
          rcases Int.le_total 0 (x.1 * (Mx l b e).2 - (Mx l b e).1) with h | h
          · exact Int.mul_nonneg h h
          · exact Int.mul_nonneg_of_nonpos_of_nonpos h h
        have h2 : 0 ≤ x.2 * ((x.1 * (Mx l b e).2 - (Mx l b e).1) * (x.1 * (Mx l b e).2 - (Mx l b e).1)) := Int.mul_nonneg (by omega) hsq
        have e5 : rss (Mx l b e) (x :: u) = x.2 * ((x.1 * (Mx l b e).2 - (Mx l b e).1) * (x.1 * (Mx l b e).2 - (Mx l b e).1)) + rss (Mx l b e) u := by
          simp only [rss, Int.mul_assoc]
        rw [e5]
        refine ⟨by omega, fun h0 y hy => ?_⟩
        rcases List.mem_cons.1 hy with rfl | hy
        · have h4 : y.2 * ((y.1 * (Mx l b e).2 - (Mx l b e).1) * (y.1 * (Mx l b e).2 - (Mx l b e).1)) = 0 := by omega
          rcases Int.mul_eq_zero.1 h4 with h5 | h5
          · omega
          · rcases Int.mul_eq_zero.1 h5 with h6 | h6 <;> omega
        · exact h3 (by omega) y hy
    obtain ⟨r1, r2⟩ := hpos hsok.2
    have hm := dv_mean ho h2 he
    obtain ⟨s1, s2⟩ := seg_sums l (Nat.le_of_lt h2)
    unfold dv at hm
    rw [← s1, ← s2] at hm
    rw [hqe] at hrss hm hq
    have hkey : (q : Int) * (((q2s ((l.take e).drop b) : Nat) : Int) * (q : Int) - ((ysum ((l.take e).drop b) : Nat) : Int) * (Mx l b e).1) = rss (Mx l b e) ((l.take e).drop b) := by
      rw [hrss]
      generalize ((ysum ((l.take e).drop b) : Nat) : Int) = Y at *
      generalize ((tsum ((l.take e).drop b) : Nat) : Int) = T at *
      generalize ((q2s ((l.take e).drop b) : Nat) : Int) = Q at *
      generalize (Mx l b e).1 = p at *
      have h5 : p * T = q * Y := by omega
      grind
    have hW : 0 ≤ ((q2s ((l.take e).drop b) : Nat) : Int) * (q : Int) - ((ysum ((l.take e).drop b) : Nat) : Int) * (Mx l b e).1 := by
      refine Int.nonneg_of_mul_nonneg_left (b := (q : Int)) ?_ hq
      rw [Int.mul_comm, hkey]
      exact r1
    have g1 : 0 ≤ a.1 * (q : Int) := Int.mul_nonneg h0 (by omega)
    have g2 : 0 ≤ (a.2 : Int) * (((q2s ((l.take e).drop b) : Nat) : Int) * (q : Int) - ((ysum ((l.take e).drop b) : Nat) : Int) * (Mx l b e).1) := Int.mul_nonneg (by omega) hW
    obtain ⟨i1, i2⟩ := zero_fold r e (cstep l a (b, e)) h3 (fun x hx => hr x (by simp [hx])) (by rw [hcs]; exact Nat.mul_pos ha (by omega)) (by rw [hcs]; simp only; omega)
    refine ⟨i1, fun h => ?_⟩
    obtain ⟨j1, j2⟩ := i2 h
    rw [hcs] at j1
    simp only at j1
    have k1 : a.1 * (q : Int) = 0 := by omega
    have k2 : (a.2 : Int) * (((q2s ((l.take e).drop b) : Nat) : Int) * (q : Int) - ((ysum ((l.take e).drop b) : Nat) : Int) * (Mx l b e).1) = 0 := by omega
    have k3 : a.1 = 0 := by rcases Int.mul_eq_zero.1 k1 with h | h <;> omega
    have k4 : ((q2s ((l.take e).drop b) : Nat) : Int) * (q : Int) - ((ysum ((l.take e).drop b) : Nat) : Int) * (Mx l b e).1 = 0 := by rcases Int.mul_eq_zero.1 k2 with h | h <;> omega
    rw [k4, Int.mul_zero] at hkey
    refine ⟨k3, fun x hx => ?_⟩
    rcases List.mem_cons.1 hx with rfl | hx
    · intro i hi x1 x2
      simp only at x1 x2
      refine r2 hkey.symm l[i] (List.mem_iff_getElem.2 ⟨i - b, by simp; omega, ?_⟩)
      simp only [List.getElem_drop, List.getElem_take]
      congr 1
      omega
    · exact j2 x hx
/-! ### Values that are proved -/
end
def dz (l : List Src) (Z : List Int) : Nat → Int
  | 0 => 0
  | k + 1 => dz l Z k + (l.getD k (0, 0)).2 * ((l.getD k (0, 0)).1 - Z.getD k 0)
section
variable {l : List Src} (hg : Good l) {Z : List Int}
include hg
theorem dz_R (w : Int) : ∀ (m k : Nat), k + m ≤ l.length → (∀ j, k ≤ j → j < k + m → w ≤ Z.getD j 0) → dz l Z (k + m) - dz l Z k ≤ dv l (w, 1) k (k + m)
  | 0, k, _, _ => by rw [Nat.add_zero, dv_self]; omega
  | m + 1, k, h, hw => by
    have ih := dz_R w m k (by omega) fun j h1 h2 => hw j h1 (by omega)
    have hk : k + m < l.length := by omega
    have hs := hg.all l[k + m] (List.getElem_mem hk)
    have h1 := hw (k + m) (by omega) (by omega)
    rw [show k + (m + 1) = k + m + 1 by omega, rest_step (w, 1) hk hs]
    simp only [dz, List.getD_eq_getElem?_getD, List.getElem?_eq_getElem hk, Option.getD_some, Int.mul_one] at h1 ⊢
    have h2 := Int.mul_le_mul_of_nonneg_left (show l[k + m].1 - (Z[k + m]?).getD 0 ≤ l[k + m].1 - w by omega) (show 0 ≤ l[k + m].2 by omega)
    omega
theorem dz_L (w : Int) : ∀ (m k : Nat), k + m ≤ l.length → (∀ j, k ≤ j → j < k + m → Z.getD j 0 ≤ w) → dv l (w, 1) k (k + m) ≤ dz l Z (k + m) - dz l Z k
  | 0, k, _, _ => by rw [Nat.add_zero, dv_self]; omega
  | m + 1, k, h, hw => by
    have ih := dz_L w m k (by omega) fun j h1 h2 => hw j h1 (by omega)
    have hk : k + m < l.length := by omega
    have hs := hg.all l[k + m] (List.getElem_mem hk)
    have h1 := hw (k + m) (by omega) (by omega)
    rw [show k + (m + 1) = k + m + 1 by omega, rest_step (w, 1) hk hs]
    simp only [dz, List.getD_eq_getElem?_getD, List.getElem?_eq_getElem hk, Option.getD_some, Int.mul_one] at h1 ⊢
    have h2 := Int.mul_le_mul_of_nonneg_left (show l[k + m].1 - w ≤ l[k + m].1 - (Z[k + m]?).getD 0 by omega) (show 0 ≤ l[k + m].2 by omega)
    omega
variable {K : List (Nat × Nat)} (hK : Blk l K l.length) (hZ : Z.length = l.length) (hup : ∀ i j, i ≤ j → j < l.length → Z.getD i 0 ≤ Z.getD j 0) (h0 : ∀ k, k ≤ l.length → 0 ≤ dz l Z k) (h1 : dz l Z l.length = 0) (h2 : ∀ k, k + 1 < l.length → Z.getD k 0 < Z.getD (k + 1) 0 → dz l Z (k + 1) = 0)
include hK hZ hup h0 h1 h2
omit hg hK hZ h0 h1 in
theorem run_L : ∀ i, i < l.length → ∃ b, b ≤ i ∧ dz l Z b = 0 ∧ ∀ j, b ≤ j → j ≤ i → Z.getD j 0 = Z.getD i 0
  | 0, _ => ⟨0, Nat.le_refl _, rfl, fun j _ hj => by rw [show j = 0 by omega]⟩
  | i + 1, hi => by
    by_cases c : Z.getD i 0 < Z.getD (i + 1) 0
    · exact ⟨i + 1, Nat.le_refl _, h2 i hi c, fun j h1 h2 => by rw [show j = i + 1 by omega]⟩
    · have he : Z.getD i 0 = Z.getD (i + 1) 0 := by
        have := hup i (i + 1) (by omega) hi
        omega
      obtain ⟨b, b1, b2, b3⟩ := run_L i (by omega)
      refine ⟨b, by omega, b2, fun j h3 h4 => ?_⟩
      by_cases hj : j = i + 1
      · rw [hj]
      · rw [b3 j h3 (by omega), he]
omit hg hK hZ h0 in
theorem run_R : ∀ m i, i < l.length → l.length - i ≤ m → ∃ e, i < e ∧ e ≤ l.length ∧ dz l Z e = 0 ∧ ∀ j, i ≤ j → j < e → Z.getD j 0 = Z.getD i 0
  | 0, i, hi, h => by omega
  | m + 1, i, hi, h => by
    by_cases hl : i + 1 = l.length
    · exact ⟨i + 1, by omega, by omega, by rw [hl]; exact h1, fun j h3 h4 => by rw [show j = i by omega]⟩
    · by_cases c : Z.getD i 0 < Z.getD (i + 1) 0
      · exact ⟨i + 1, by omega, by omega, h2 i (by omega) c, fun j h3 h4 => by rw [show j = i by omega]⟩
      · have he : Z.getD i 0 = Z.getD (i + 1) 0 := by
          have := hup i (i + 1) (by omega) (by omega)
          omega
        obtain ⟨e, e1, e2, e3, e4⟩ := run_R m (i + 1) (by omega) (by omega)
        refine ⟨e, by omega, e2, e3, fun j h3 h4 => ?_⟩
        by_cases hj : j = i
        · rw [hj]
        · rw [e4 j (by omega) h4, he]
omit hZ in
/-- They are the nearest ones. -/
theorem kkt {x : Nat × Nat} (hx : x ∈ K) {i : Nat} (x1 : x.1 ≤ i) (x2 : i < x.2) : Z.getD i 0 * (Mx l x.1 x.2).2 = (Mx l x.1 x.2).1 := by
  have ho := hg.ok
  have hr := hK.ch.rng x hx
  have F := Mx_Fr ho hr.1 hr.2
  have hi : i < l.length := by omega
  obtain ⟨b, b1, b2, b3⟩ := run_L hup h2 i hi
  obtain ⟨e, e1, e2, e3, e4⟩ := run_R hup h1 h2 l.length i hi (by omega)
  generalize hw : Z.getD i 0 = w at *
  have glob : ∀ k, k ≤ l.length → 0 ≤ dv l (w, 1) b k := by
    intro k hk
    rcases Nat.le_total b k with hbk | hbk
    · have := dz_R (Z := Z) hg w (k - b) b (by omega) fun j h3 h4 => by
        rw [← b3 b (Nat.le_refl _) b1]
        exact hup b j h3 (by omega)
      rw [show b + (k - b) = k by omega, b2] at this
      have := h0 k hk
      omega
    · have := dz_L (Z := Z) hg w (b - k) k (by omega) fun j h3 h4 => by
        rw [← b3 b (Nat.le_refl _) b1]
        exact hup j b (by omega) (by omega)
      rw [show k + (b - k) = b by omega, b2] at this
      have h3 := dv_add l (w, 1) b k b
      rw [dv_self] at h3
      have := h0 k hk
      omega
  have hbe : dv l (w, 1) b e = 0 := by
    have hall : ∀ j, b ≤ j → j < b + (e - b) → Z.getD j 0 = w := fun j h3 h4 => by
      rcases Nat.le_total j i with h5 | h5
      · exact b3 j h3 h5
      · exact e4 j h5 (by omega)
    have u1 := dz_R (Z := Z) hg w (e - b) b (by omega) fun j h3 h4 => by rw [hall j h3 h4]; exact Int.le_refl _
    have u2 := dz_L (Z := Z) hg w (e - b) b (by omega) fun j h3 h4 => by rw [hall j h3 h4]; exact Int.le_refl _
    rw [show b + (e - b) = e by omega, b2, e3] at u1 u2
    omega
  have hglob := hK.glob ho (Nat.le_refl _) x hx
  have one : (0 : Int) < ((w, (1 : Int)) : Frc).2 := by simp
  have hle1 : fle (Mx l x.1 x.2) (w, 1) := by
    have hxe : x.1 < e := by omega
    have u1 : fle (Mx l x.1 x.2) (Mx l x.1 e) := (fle_mean ho hxe e2 _).2 (hglob e e2)
    have u2 : fle (Mx l x.1 e) (w, 1) := (mean_fle ho hxe e2 _).2 (by
      have h3 := dv_add l (w, 1) b x.1 e
      have := glob x.1 (by omega)
      omega)
    exact fle_trans F.dp (Mx_Fr ho hxe e2).dp one u1 u2
  have hle2 : fle (w, 1) (Mx l x.1 x.2) := by
    have hxb : b < x.2 := by omega
    have u1 : fle (w, 1) (Mx l b x.2) := (fle_mean ho hxb hr.2 _).2 (glob x.2 hr.2)
    have u2 : fle (Mx l b x.2) (Mx l x.1 x.2) := (mean_fle ho hxb hr.2 _).2 (by
      have h3 := dv_add l (Mx l x.1 x.2) x.1 b x.2
      rw [dv_mean ho hr.1 hr.2] at h3
      have := hglob b (by omega)
      omega)
    exact fle_trans one (Mx_Fr ho hxb hr.2).dp F.dp u1 u2
  unfold fle at hle1 hle2
  simp only at hle1 hle2
  omega
end
end Go.Proofs.Ytombednapelokaa
