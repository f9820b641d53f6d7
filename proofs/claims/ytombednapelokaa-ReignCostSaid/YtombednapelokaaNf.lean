/- Reign: plain laws: joined: neighbours are joined until values rise: these are the nearest values. -/
import Derived.Test.YtombednapelokaaMs
set_option linter.unusedVariables false
set_option linter.unusedSimpArgs false
namespace Go.Proofs.Ytombednapelokaa
open Go.Vi
/-! ### The mean of the law -/
theorem jsum_loop (n : Nat × Nat) (l : List Src) (ho : Ok l) : ∀ (m k a b : Nat), k ≤ l.length → l.length - k < m → a + ysum (l.drop k) = ysum l → b + tsum (l.drop k) = tsum l → DL66_1 n m (a : Int) (b : Int) l (l.length : Int) (k : Int) = some (((ysum l : Nat) : Int), ((tsum l : Nat) : Int))
  | 0, k, _, _, _, h, _, _ => by omega
  | m + 1, k, a, b, hk, h, ha, hb => by
    have hs := Ok.sums ho.2
    have hle := ho.1
    rw [DL66_1_succ]
    unfold DF66_1
    by_cases hlt : k < l.length
    · rw [show decide ((k : Int) < (l.length : Int)) = true by simpa using hlt, cond_true, idx_nat hlt]
      have hk2 := ho.2 l[k] (List.getElem_mem hlt)
      have hp := prod_cast hk2
      rw [ysum_drop hlt] at ha
      rw [tsum_drop hlt] at hb
      simp only [Option.bind_some]
      rw [hp, wr_ok (x := ((l[k].1.toNat * l[k].2.toNat : Nat) : Int)) (by omega) (by omega), wr_ok (x := (a : Int) + _) (by omega) (by omega), wr_ok (x := (b : Int) + _) (by omega) (by omega), wr_ok (x := (k : Int) + 1) (by omega) (by omega)]
      have ih := jsum_loop n l ho m (k + 1) (a + l[k].1.toNat * l[k].2.toNat) (b + l[k].2.toNat) (by omega) (by omega) (by omega) (by omega)
      rw [show (a : Int) + ((l[k].1.toNat * l[k].2.toNat : Nat) : Int) = ((a + l[k].1.toNat * l[k].2.toNat : Nat) : Int) by omega, show (b : Int) + l[k].2 = ((b + l[k].2.toNat : Nat) : Int) by omega,
        show (k : Int) + 1 = ((k + 1 : Nat) : Int) by omega]
      exact ih
    · rw [show decide ((k : Int) < (l.length : Int)) = false by simpa using hlt, cond_false]
      rw [List.drop_of_length_le (by omega)] at ha hb
      simp only [ysum, tsum, Nat.add_zero] at ha hb
      rw [ha, hb]
theorem jmean_eq {n : Nat × Nat} (hn : 4611686018427387904 ≤ n.1) {l : List Src} (ho : Ok l) (hne : 0 < l.length) : D50 n l = some (mn l) := by
  have hs := Ok.sums ho.2
  have hle := ho.1
  unfold D50 D66
  have h1 := jsum_loop n l ho n.1 0 0 0 (by omega) (by omega) (by simp) (by simp)
  simp only [Int.natCast_zero] at h1
  rw [h1]
  simp only [Option.bind_some]
  have hg : 0 < Nat.gcd (ysum l) (tsum l) := Nat.gcd_pos_of_pos_right _ (by omega)
  have h0 : (((Nat.gcd (ysum l) (tsum l) : Nat) : Int) == 0) = false := by
    simp
    omega
  rw [common_eq (by omega) (by omega) (by omega)]
  simp only [Option.bind_some, h0, cond_false]
  have l1 : ysum l / Nat.gcd (ysum l) (tsum l) ≤ ysum l := Nat.div_le_self _ _
  have l2 : tsum l / Nat.gcd (ysum l) (tsum l) ≤ tsum l := Nat.div_le_self _ _
  have e1 : Int.tdiv (ysum l : Int) (Nat.gcd (ysum l) (tsum l) : Nat) = ((ysum l / Nat.gcd (ysum l) (tsum l) : Nat) : Int) := rfl
  have e2 : Int.tdiv (tsum l : Int) (Nat.gcd (ysum l) (tsum l) : Nat) = ((tsum l / Nat.gcd (ysum l) (tsum l) : Nat) : Int) := rfl
  rw [e1, e2, wr_nat (by omega), wr_nat (by omega)]
  rfl
/-! ### Ends of blocks -/
def SegE (l : List Src) : Nat → List Nat → Prop
  | b, [] => b = l.length
  | b, e :: r => b < e ∧ e ≤ l.length ∧ Loc l b e ∧ SegE l e r
def segs : Nat → List Nat → List (Nat × Nat)
  | _, [] => []
  | b, e :: r => (b, e) :: segs e r
def ltM (a b : Frc) : Prop := a.1 * b.2 < b.1 * a.2
def AdjE (l : List Src) : Nat → List Nat → Prop
  | _, [] => True
  | _, [_] => True
  | b, x :: y :: r => ltM (Mx l b x) (Mx l x y) ∧ AdjE l x (y :: r)
def lst : List Nat → Nat → Nat
  | [], b => b
  | e :: r, _ => lst r e
def ci (E : List Nat) : List Int := List.map (fun (e : Nat) => (e : Int)) E
theorem lst_app : ∀ (A : List Nat) (b x : Nat) (r : List Nat), lst (A ++ x :: r) b = lst (x :: r) b
  | [], b, x, r => rfl
  | a :: A, b, x, r => by
    show lst (A ++ x :: r) a = _
    rw [lst_app A a x r]
    rfl
theorem adj_snoc {l : List Src} : ∀ (A : List Nat) (b x y : Nat), AdjE l b (A ++ [x]) → ltM (Mx l (lst A b) x) (Mx l x y) → AdjE l b (A ++ [x, y])
  | [], b, x, y, _, h => ⟨h, trivial⟩
  | [a], b, x, y, h1, h => ⟨h1.1, h, trivial⟩
  | a :: a' :: A, b, x, y, h1, h => ⟨h1.1, adj_snoc (a' :: A) a x y h1.2 h⟩
theorem SegE.at {l : List Src} : ∀ {A : List Nat} {b x : Nat} {r : List Nat}, SegE l b (A ++ x :: r) → lst A b < x ∧ x ≤ l.length ∧ Loc l (lst A b) x ∧ SegE l x r ∧ b ≤ lst A b ∧ A.length + b ≤ lst A b
  | [], b, x, r, h => ⟨h.1, h.2.1, h.2.2.1, h.2.2.2, Nat.le_refl _, by simp [lst]⟩
  | a :: A, b, x, r, h => by
    obtain ⟨h1, h2, h3, h4⟩ := h
    obtain ⟨i1, i2, i3, i4, i5, i6⟩ := SegE.at h4
    exact ⟨i1, i2, i3, i4, by show b ≤ lst A a; omega, by show (A.length + 1) + b ≤ lst A a; omega⟩
theorem SegE.join {l : List Src} (ho : Ok l) : ∀ {A : List Nat} {b x y : Nat} {r : List Nat}, SegE l b (A ++ x :: y :: r) → fle (Mx l x y) (Mx l (lst A b) x) → SegE l b (A ++ y :: r)
  | [], b, x, y, r, h, hf => by
    obtain ⟨h1, h2, h3, h4, h5, h6, h7⟩ := h
    exact ⟨by omega, h5, Loc.join ho h1 h4 h5 h3 h6 hf, h7⟩
  | a :: A, b, x, y, r, h, hf => ⟨h.1, h.2.1, h.2.2.1, SegE.join ho h.2.2.2 hf⟩
theorem seg_blk {l : List Src} (ho : Ok l) : ∀ (E : List Nat) (b : Nat) (K : List (Nat × Nat)), Blk l K b → b ≤ l.length → (∀ e r, E = e :: r → ∀ y ∈ K, ltM (Mx l y.1 y.2) (Mx l b e)) → SegE l b E → AdjE l b E → ∃ K', Blk l K' l.length ∧ K'.reverse = K.reverse ++ segs b E
  | [], b, K, hK, hb, _, hs, _ => by
    have : b = l.length := hs
    subst this
    exact ⟨K, hK, by simp [segs]⟩
  | e :: r, b, K, hK, hb, hlt, ⟨h1, h2, h3, h4⟩, ha => by
    have hK1 : Blk l ((b, e) :: K) e := ⟨⟨rfl, h1, hK.ch⟩, fun x hx => by
      rcases List.mem_cons.1 hx with rfl | hx
      · exact h3
      · exact hK.loc x hx, ⟨fun y hy => hlt e r rfl y hy, hK.inc⟩⟩
    obtain ⟨K', k1, k2⟩ := seg_blk ho r e ((b, e) :: K) hK1 h2 (fun e2 r2 hr y hy => by
      subst hr
      have g1 : ltM (Mx l b e) (Mx l e e2) := ha.1
      rcases List.mem_cons.1 hy with rfl | hy
      · exact g1
      · have hr := hK.ch.rng y hy
        exact lt_trans' (Mx_Fr ho hr.1 (by omega)).dp (Mx_Fr ho h1 h2).dp (Mx_Fr ho h4.1 h4.2.1).dp (hlt e (e2 :: r2) rfl y hy) g1) h4 (by
      match r, ha with
      | [], _ => exact trivial
      | _ :: _, ha => exact ha.2)
    exact ⟨K', k1, by rw [k2]; simp [segs]⟩
theorem ci_len (E : List Nat) : (ci E).length = E.length := by simp [ci]
theorem ci_idx (A : List Nat) (x : Nat) (r : List Nat) : idx (ci (A ++ x :: r)) (A.length : Int) = some (x : Int) ∧ inB (A.length : Int) (ci (A ++ x :: r)).length = true := by
  constructor
  · rw [idx_nat (by simp [ci])]
    simp [ci]
  · rw [ci_len]
    simp [inB]
    omega
section
variable {n : Nat × Nat} (hn : 4611686018427387904 ≤ n.1) {l : List Src} (ho : Ok l)
include hn ho
theorem jseg {a c : Nat} (h : a < c) (hc : c ≤ l.length) : bounds (some (a : Int)) (some (c : Int)) none l.length = true ∧ D50 n ((l.take (Int.toNat (c : Int))).drop (Int.toNat (a : Int))) = some (Mx l a c) := by
  refine ⟨by simp [bounds]; omega, ?_⟩
  rw [Int.toNat_natCast, Int.toNat_natCast]
  exact jmean_eq hn ((ho.take _).drop _) (by simp; omega)
theorem jseg0 {c : Nat} (h : 0 < c) (hc : c ≤ l.length) : bounds (some 0) (some (c : Int)) none l.length = true ∧ D50 n (l.take (Int.toNat (c : Int))) = some (Mx l 0 c) := by
  have := jseg hn ho h hc
  simpa using this
omit hn in
theorem below_eq {a b c : Nat} (h1 : a < b) (h2 : b < c) (hc : c ≤ l.length) : ∃ z : Int, D62 n (Mx l a b) (Mx l b c) = some z ∧ (decide (z ≥ 0) = true ↔ fle (Mx l b c) (Mx l a b)) := by
  have F := Mx_Val ho h1 (by omega)
  have G := Mx_Val ho h2 hc
  refine ⟨(Mx l a b).1 * (Mx l b c).2 - (Mx l b c).1 * (Mx l a b).2, ?_, ?_⟩
  · have hf : ∀ {f g : Frc}, Val f → Val g → 0 ≤ f.1 * g.2 ∧ f.1 * g.2 ≤ 7200 * 72 := fun {f g} hf hg => by
      have a1 := hf.fr.np
      have a2 := hf.fr.dp
      have a3 := hf.fr.dl
      have a4 := hf.le
      have b2 := hg.fr.dp
      have b3 := hg.fr.dl
      exact ⟨Int.mul_nonneg a1 (by omega), Int.le_trans (Int.mul_le_mul_of_nonneg_right (show f.1 ≤ 7200 by omega) (by omega)) (by omega)⟩
    have u1 := hf F G
    have u2 := hf G F
    unfold D62
    rw [wr_ok (x := (Mx l a b).1 * (Mx l b c).2) (by omega) (by omega), wr_ok (x := (Mx l b c).1 * (Mx l a b).2) (by omega) (by omega), wr_ok (x := _ - _) (by omega) (by omega)]
  · rw [decide_eq_true_eq]
    unfold fle
    omega
theorem step5 (J : LP → List Int → Option R65) (f1 : LP → Int → List Int → Option R65) (A : List Nat) (x y : Nat) (r : List Nat) (hs : SegE l 0 (A ++ x :: y :: r)) :
    DF65_5 n J f1 l ((A.length + 1 : Nat) : Int) (ci (A ++ x :: y :: r)) = (open Classical in if fle (Mx l x y) (Mx l (lst A 0) x) then J l (ci (A ++ y :: r)) else f1 l ((A.length + 2 : Nat) : Int) (ci (A ++ x :: y :: r))) := by
  obtain ⟨s1, s2, s3, s4, s5, s6⟩ := hs.at
  have h8 := ho.1
  have hy := s4.1
  have hyl := s4.2.1
  obtain ⟨z, z1, z2⟩ := below_eq (n := n) ho s1 hy hyl
  have ix := ci_idx A x (y :: r)
  have iy : idx (ci (A ++ x :: y :: r)) ((A.length + 1 : Nat) : Int) = some (y : Int) ∧ inB ((A.length + 1 : Nat) : Int) (ci (A ++ x :: y :: r)).length = true := by
    have := ci_idx (A ++ [x]) y r
    simpa using this
  have hlen : (ci (A ++ x :: y :: r)).length = A.length + r.length + 2 := by rw [ci_len]; simp; omega
  have hle2 : A.length + r.length + 2 ≤ 8 := by
    have : ∀ {E : List Nat} {b : Nat}, SegE l b E → E.length + b ≤ l.length := by
      intro E
      induction E with
      | nil => intro b h; have : b = l.length := h; simp; omega
      | cons e E ih => intro b h; have := ih h.2.2.2; have := h.1; simp; omega
    have := this hs
    simp at this
    omega
  have hcut : (ci (A ++ x :: y :: r)).take (Int.toNat (wr .i64 (((A.length + 1 : Nat) : Int) - 1))) ++ (ci (A ++ x :: y :: r)).drop (Int.toNat ((A.length + 1 : Nat) : Int)) = ci (A ++ y :: r) := by
    rw [wr_ok (by omega) (by omega), show ((A.length + 1 : Nat) : Int) - 1 = ((A.length : Nat) : Int) by omega, Int.toNat_natCast, Int.toNat_natCast]
    unfold ci
    rw [List.map_append, List.map_cons, List.map_cons, show A.length = (List.map (fun (e : Nat) => (e : Int)) A).length by simp, List.take_left', ← List.drop_drop, List.drop_left']
    · simp
    · rfl
    · rfl
  have hc1 : wr .i64 (((A.length + 1 : Nat) : Int) - 1) = (A.length : Int) := by rw [wr_ok (by omega) (by omega)]; omega
  have hc3 : wr .i64 (((A.length + 1 : Nat) : Int) + 1) = ((A.length + 2 : Nat) : Int) := by rw [wr_ok (by omega) (by omega)]; omega
  unfold DF65_5
  rw [hcut, hc1, hc3, hlen, decide_eq_true (show ((A.length + 1 : Nat) : Int) < ((A.length + r.length + 2 : Nat) : Int) by omega), cond_true]
  have hcond : (decide ((0 : Int) ≤ (A.length : Int)) && decide ((A.length : Int) < ((A.length + 1 : Nat) : Int)) && decide (((A.length + 1 : Nat) : Int) ≤ ((A.length + r.length + 2 : Nat) : Int)) && decide (A.length + r.length + 2 ≤ lim)) = true := by
    simp [lim]
    omega
  rw [hcond, ix.1, iy.1]
  rw [hlen] at ix iy
  rw [ix.2, iy.2]
  have g2 := jseg hn ho hy hyl
  rcases List.eq_nil_or_concat A with hA | ⟨A', b, hA⟩
  · subst hA
    have g1 := jseg0 hn ho (c := x) s1 s2
    simp only [List.length_nil, Nat.zero_add, Int.natCast_zero, show decide (((1 : Nat) : Int) > 1) = false from rfl, cond_false, cond_true, Option.bind_some, g1.1, g1.2, g2.1, g2.2]
    rw [show (Mx l (lst [] 0) x) = Mx l 0 x from rfl] at z1 z2 ⊢
    simp only [Option.bind_some, z1]
    by_cases hf : fle (Mx l x y) (Mx l 0 x)
    · rw [z2.2 hf, if_pos hf]
      rfl
    · rw [show decide (z ≥ 0) = false by cases hh : decide (z ≥ 0) with | true => exact absurd (z2.1 hh) hf | false => rfl, if_neg hf]
      rfl
  · rw [List.concat_eq_append] at hA
    subst hA
    have hb : lst (A' ++ [b]) 0 = b := lst_app A' 0 b []
    rw [hb] at s1 z1 z2 ⊢
    have g1 := jseg hn ho (a := b) (c := x) s1 s2
    have ib := ci_idx A' b (x :: y :: r)
    simp only [List.length_append, List.length_cons, List.length_nil, Nat.zero_add] at *
    rw [decide_eq_true (show ((A'.length + 1 + 1 : Nat) : Int) > 1 by omega), cond_true, wr_ok (x := ((A'.length + 1 + 1 : Nat) : Int) - 2) (by omega) (by omega), show ((A'.length + 1 + 1 : Nat) : Int) - 2 = (A'.length : Int) by omega]
    rw [show A' ++ [b] ++ x :: y :: r = A' ++ b :: x :: y :: r by simp] at *
    rw [hlen] at ib
    rw [ib.1, ib.2]
    simp only [cond_true, Option.bind_some, g1.1, g1.2, g2.1, g2.2, z1]
    by_cases hf : fle (Mx l x y) (Mx l b x)
    · rw [z2.2 hf, if_pos hf]
      rfl
    · rw [show decide (z ≥ 0) = false by cases hh : decide (z ≥ 0) with | true => exact absurd (z2.1 hh) hf | false => rfl, if_neg hf]
      rfl
omit hn ho in
theorem e86 (f1 : LP → List Int → Option R65) (f2 : LP → Int → Int → Int → LP → List Int → Option R65) : ∀ m, DL65_8 n f1 f2 m = DL65_6 n f2 m
  | 0 => rfl
  | m + 1 => by
    rw [DL65_8_succ, DL65_6_succ, e86 f1 f2 m]
    rfl
omit hn ho in
theorem e74 (f1 : LP → List Int → Option R65) : ∀ m, DL65_7 n f1 m = DL65_4 n m
  | 0 => rfl
  | m + 1 => by
    rw [DL65_7_succ, DL65_4_succ, e74 f1 m]
    funext a b c d e f
    unfold DF65_7 DF65_4
    rw [e86]
omit hn ho in
theorem e25 : ∀ m, DL65_2 n m = DL65_5 n (DL65_3 n n.1) m
  | 0 => rfl
  | m + 1 => by
    rw [DL65_2_succ, DL65_5_succ, e25 m]
    funext a b c
    unfold DF65_2 DF65_5
    rw [e74]
theorem print_in {b e : Nat} (hbe : b < e) (he : e ≤ l.length) (f1 : LP → Int → Int → Int → LP → List Int → Option R65) (u v : Int) (E : List Int) : ∀ (m j : Nat) (out : List Frc), j ≤ e - b → e - b - j < m → out.length = b + j →
    DL65_6 n f1 m l (b : Int) (e : Int) u v ((e - b : Nat) : Int) (j : Int) out E = f1 l (e : Int) u (wr .i64 (v + 1)) (out ++ List.replicate (e - b - j) (Mx l b e)) E
  | 0, j, out, _, h, _ => by omega
  | m + 1, j, out, hj, h, hl => by
    have h8 := ho.1
    rw [DL65_6_succ]
    unfold DF65_6
    by_cases hlt : j < e - b
    · have g := jseg hn ho hbe he
      rw [show decide ((j : Int) < ((e - b : Nat) : Int)) = true by simp only [decide_eq_true_eq]; omega, cond_true, g.1, cond_true, g.2]
      simp only [Option.bind_some]
      rw [show decide (out.length + [Mx l b e].length ≤ lim) = true by simp [lim]; omega, cond_true, wr_ok (x := (j : Int) + 1) (by omega) (by omega), show (j : Int) + 1 = ((j + 1 : Nat) : Int) by omega,
        print_in hbe he f1 u v E m (j + 1) (out ++ [Mx l b e]) hlt (by omega) (by simp; omega), List.append_assoc, show e - b - j = (e - b - (j + 1)) + 1 by omega, List.replicate_succ]
      rfl
    · rw [show decide ((j : Int) < ((e - b : Nat) : Int)) = false by simp only [decide_eq_false_iff_not]; omega, cond_false, show e - b - j = 0 by omega]
      simp
theorem print_out : ∀ (r A : List Nat) (b m : Nat) (out : List Frc), SegE l b r → out.length = b → r.length < m → (A ++ r).length ≤ 8 →
    DL65_4 n m l (b : Int) ((A ++ r).length : Int) (A.length : Int) out (ci (A ++ r)) = some (out ++ vals l (segs b r))
  | _, _, _, 0, _, _, _, h, _ => by omega
  | [], A, b, m + 1, out, hs, hl, h, h8 => by
    rw [DL65_4_succ]
    unfold DF65_4
    rw [decide_eq_false (show ¬ ((A.length : Int) < ((A ++ ([] : List Nat)).length : Int)) by simp), cond_false]
    simp [vals, segs]
  | e :: r, A, b, m + 1, out, ⟨s1, s2, s3, s4⟩, hl, h, h8 => by
    have hll := ho.1
    have ix := ci_idx A e r
    rw [DL65_4_succ]
    unfold DF65_4
    have hA : A.length < (A ++ e :: r).length := by simp
    rw [show decide ((A.length : Int) < ((A ++ e :: r).length : Int)) = true by simp only [decide_eq_true_eq]; omega, cond_true, ix.2, cond_true, ix.1]
    simp only [Option.bind_some]
    rw [wr_ok (x := (e : Int) - (b : Int)) (by omega) (by omega), show (e : Int) - (b : Int) = ((e - b : Nat) : Int) by omega]
    have := print_in hn ho s1 s2 (DL65_4 n m) ((A ++ e :: r).length : Int) (A.length : Int) (ci (A ++ e :: r)) n.1 0 out (by omega) (by omega) (by omega)
    simp only [Int.natCast_zero, Nat.sub_zero] at this
    rw [this, wr_ok (by omega) (by omega), show (A.length : Int) + 1 = ((A ++ [e]).length : Int) by simp]
    have ih := print_out r (A ++ [e]) e m (out ++ List.replicate (e - b) (Mx l b e)) s4 (by simp; omega) (by simpa using h) (by simpa using h8)
    rw [show A ++ [e] ++ r = A ++ e :: r by simp] at ih
    rw [ih, List.append_assoc]
    rfl
omit hn ho in
theorem SegE.len : ∀ {E : List Nat} {b : Nat}, SegE l b E → E.length + b ≤ l.length
  | [], b, h => by have : b = l.length := h; simp; omega
  | e :: E, b, h => by have := SegE.len h.2.2.2; have := h.1; simp; omega
theorem pass5 (J : LP → List Int → Option R65) (N : Nat) (hJ : ∀ E', SegE l 0 E' → E'.length < N → E' ≠ [] → ∃ E1, SegE l 0 E1 ∧ AdjE l 0 E1 ∧ J l (ci E') = some (vals l (segs 0 E1))) : ∀ (r : List Nat) (m : Nat) (A : List Nat) (x : Nat), r.length < m → (A ++ x :: r).length ≤ N →
    SegE l 0 (A ++ x :: r) → AdjE l 0 (A ++ [x]) → ∃ E1, SegE l 0 E1 ∧ AdjE l 0 E1 ∧ DL65_5 n J m l ((A.length + 1 : Nat) : Int) (ci (A ++ x :: r)) = some (vals l (segs 0 E1))
  | _, 0, _, _, h, _, _, _ => by omega
  | [], m + 1, A, x, h, hN, hs, ha => by
    have h8 := ho.1
    have hln := hs.len
    refine ⟨A ++ [x], hs, ha, ?_⟩
    rw [DL65_5_succ]
    unfold DF65_5
    rw [ci_len, show decide (((A.length + 1 : Nat) : Int) < ((A ++ [x]).length : Int)) = false by simp, cond_false, e74]
    have := print_out hn ho (A ++ [x]) [] 0 n.1 [] hs rfl (by simp at *; omega) (by simp at *; omega)
    simpa using this
  | y :: r, m + 1, A, x, h, hN, hs, ha => by
    obtain ⟨s1, s2, s3, s4, _, _⟩ := hs.at
    rw [DL65_5_succ, step5 hn ho J (DL65_5 n J m) A x y r hs]
    by_cases hf : fle (Mx l x y) (Mx l (lst A 0) x)
    · rw [if_pos hf]
      exact hJ _ (hs.join ho hf) (by simp at *; omega) (by simp)
    · rw [if_neg hf]
      have hlt : ltM (Mx l (lst A 0) x) (Mx l x y) := by
        unfold fle at hf
        unfold ltM
        omega
      obtain ⟨E1, k1, k2, k3⟩ := pass5 J N hJ r m (A ++ [x]) y (by simpa using h) (by simpa using hN) (by simpa using hs) (by simpa using adj_snoc A 0 x y ha hlt)
      rw [show A ++ [x] ++ y :: r = A ++ x :: y :: r by simp, show (A ++ [x]).length + 1 = A.length + 2 by simp] at k3
      exact ⟨E1, k1, k2, k3⟩
theorem pass3 : ∀ (m : Nat) (E : List Nat), E.length < m → E ≠ [] → SegE l 0 E → ∃ E1, SegE l 0 E1 ∧ AdjE l 0 E1 ∧ DL65_3 n m l (ci E) = some (vals l (segs 0 E1))
  | 0, _, h, _, _ => by omega
  | m + 1, [], _, h, _ => absurd rfl h
  | m + 1, x :: r, h, _, hs => by
    have h8 := ho.1
    have hln := hs.len
    rw [DL65_3_succ]
    unfold DF65_3
    exact pass5 hn ho (DL65_3 n m) (x :: r).length (fun E' e1 e2 e3 => pass3 m E' (by omega) e3 e1) r n.1 [] x (by simp at *; omega) (Nat.le_refl _) hs trivial
omit hn in
theorem ones_seg : ∀ (k b : Nat), b + k = l.length → SegE l b (List.range' (b + 1) k)
  | 0, b, h => by
    show b = l.length
    omega
  | k + 1, b, h => ⟨by omega, by omega, Loc.one ho (by omega), ones_seg k (b + 1) (by omega)⟩
omit hn in
theorem ones_loop : ∀ (m i : Nat), i ≤ l.length → l.length - i < m → DL65_1 n m l (l.length : Int) (i : Int) (ci (List.range' 1 i)) = DL65_2 n n.1 l 1 (ci (List.range' 1 l.length))
  | 0, i, _, h => by omega
  | m + 1, i, hi, h => by
    have h8 := ho.1
    rw [DL65_1_succ]
    unfold DF65_1
    by_cases hlt : i < l.length
    · rw [show decide ((i : Int) < (l.length : Int)) = true by simpa using hlt, cond_true, wr_ok (x := (i : Int) + 1) (by omega) (by omega), show decide ((ci (List.range' 1 i)).length + [(i : Int) + 1].length ≤ lim) = true by simp [lim, ci]; omega, cond_true]
      have := ones_loop m (i + 1) hlt (by omega)
      rw [← this]
      have e : ci (List.range' 1 i) ++ [(i : Int) + 1] = ci (List.range' 1 (i + 1)) := by
        rw [List.range'_1_concat]
        unfold ci
        rw [List.map_append]
        congr 1
        simp
        omega
      rw [e]
      rfl
    · rw [show decide ((i : Int) < (l.length : Int)) = false by simpa using hlt, cond_false, show i = l.length by omega]
/-- What 'joined' returns are the nearest values. -/
theorem joined_eq (hne : 0 < l.length) : ∃ K, Blk l K l.length ∧ D65 n l = some (vals l K.reverse) := by
  have h8 := ho.1
  unfold D65
  have h1 := ones_loop (n := n) ho n.1 0 (by omega) (by omega)
  simp only [Int.natCast_zero, List.range'_zero] at h1
  rw [show DL65_1 n n.1 l (l.length : Int) 0 [] = _ from h1, e25]
  have hs := ones_seg ho l.length 0 (by omega)
  simp only [Nat.zero_add] at hs
  obtain ⟨k, hk⟩ : ∃ k, l.length = k + 1 := ⟨l.length - 1, by omega⟩
  rw [hk, List.range'_succ] at hs ⊢
  obtain ⟨E1, k1, k2, k3⟩ := pass5 hn ho (DL65_3 n n.1) (k + 1) (fun E' e1 e2 e3 => pass3 hn ho n.1 E' (by omega) e3 e1) (List.range' (1 + 1) k) n.1 [] 1 (by simp; omega) (by simp) hs trivial
  obtain ⟨K', b1, b2⟩ := seg_blk ho E1 0 [] ⟨rfl, by simp, trivial⟩ (by omega) (by simp) k1 k2
  refine ⟨K', hk ▸ b1, ?_⟩
  rw [b2]
  exact k3
end
end Go.Proofs.Ytombednapelokaa
