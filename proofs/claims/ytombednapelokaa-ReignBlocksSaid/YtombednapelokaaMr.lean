/- Reign: plain laws: what the program's blocks and nearest values are. -/
import Derived.Test.YtombednapelokaaMq
set_option linter.unusedVariables false
set_option linter.unusedSimpArgs false
namespace Go.Proofs.Ytombednapelokaa
open Go.Vi
/-! ### Maps as lists -/
section
variable {V : Type} {m : List (Int × V)} {k : Int} {v : V}
theorem alook_last (h : ∀ p ∈ m, p.1 ≠ k) : alook (m ++ [(k, v)]) k = some v := by
  unfold alook
  rw [List.find?_append, List.find?_eq_none.2 (fun p hp => by simpa using h p hp)]
  simp
theorem alook_app {x : Int} (h : x ≠ k) : alook (m ++ [(k, v)]) x = alook m x := by
  unfold alook
  rw [List.find?_append]
  have : [(k, v)].find? (fun p => p.1 == x) = none := by simp [Ne.symm h]
  rw [this]
  simp
theorem erase_last : ∀ {m : List (Int × V)}, (∀ p ∈ m, p.1 ≠ k) → (m ++ [(k, v)]).eraseP (fun p => p.1 == k) = m
  | [], _ => by simp
  | p :: m, h => by
    have h1 : (p.1 == k) = false := by simpa using h p (by simp)
    rw [List.cons_append, List.eraseP_cons, h1, cond_false, erase_last fun q hq => h q (List.mem_cons_of_mem _ hq)]
theorem aset_ne : ∀ {m : List (Int × V)}, (∀ p ∈ m, p.1 ≠ k) → aset m k v = m ++ [(k, v)]
  | [], _ => rfl
  | p :: m, h => by
    have h1 : (p.1 == k) = false := by simpa using h p (by simp)
    rw [aset, h1, cond_false, aset_ne fun q hq => h q (List.mem_cons_of_mem _ hq)]
    rfl
end
theorem rev0 (k n2 : Nat) : D104io1 (k + 20, n2) [] = some ((), [], ()) := by kernel_rfl
theorem rev1 (k n2 : Nat) (a : Int × Int × Int × Int) : D104io1 (k + 20, n2) [a] = some ((), [a], ()) := by kernel_rfl
theorem rev2 (k n2 : Nat) (a b : Int × Int × Int × Int) : D104io1 (k + 20, n2) [a, b] = some ((), [b, a], ()) := by kernel_rfl
theorem rev3 (k n2 : Nat) (a b c : Int × Int × Int × Int) : D104io1 (k + 20, n2) [a, b, c] = some ((), [c, b, a], ()) := by kernel_rfl
theorem rev4 (k n2 : Nat) (a b c d : Int × Int × Int × Int) : D104io1 (k + 20, n2) [a, b, c, d] = some ((), [d, c, b, a], ()) := by kernel_rfl
theorem rev5 (k n2 : Nat) (a b c d e : Int × Int × Int × Int) : D104io1 (k + 20, n2) [a, b, c, d, e] = some ((), [e, d, c, b, a], ()) := by kernel_rfl
theorem rev6 (k n2 : Nat) (a b c d e f : Int × Int × Int × Int) : D104io1 (k + 20, n2) [a, b, c, d, e, f] = some ((), [f, e, d, c, b, a], ()) := by kernel_rfl
theorem rev7 (k n2 : Nat) (a b c d e f g : Int × Int × Int × Int) : D104io1 (k + 20, n2) [a, b, c, d, e, f, g] = some ((), [g, f, e, d, c, b, a], ()) := by kernel_rfl
theorem rev8 (k n2 : Nat) (a b c d e f g h : Int × Int × Int × Int) : D104io1 (k + 20, n2) [a, b, c, d, e, f, g, h] = some ((), [h, g, f, e, d, c, b, a], ()) := by kernel_rfl
theorem rev_eq {n : Nat × Nat} (hn : 100 ≤ n.1) (s : List (Int × Int × Int × Int)) (hs : s.length ≤ 8) : D104io1 n s = some ((), s.reverse, ()) := by
  obtain ⟨n1, n2⟩ := n
  obtain ⟨k, rfl⟩ : ∃ k, n1 = k + 20 := ⟨n1 - 20, by simp only at hn; omega⟩
  match s, hs with
  | [], _ => exact rev0 k n2
  | [a], _ => exact rev1 k n2 a
  | [a, b], _ => exact rev2 k n2 a b
  | [a, b, c], _ => exact rev3 k n2 a b c
  | [a, b, c, d], _ => exact rev4 k n2 a b c d
  | [a, b, c, d, e], _ => exact rev5 k n2 a b c d e
  | [a, b, c, d, e, f], _ => exact rev6 k n2 a b c d e f
  | [a, b, c, d, e, f, g], _ => exact rev7 k n2 a b c d e f g
  | [a, b, c, d, e, f, g, h], _ => exact rev8 k n2 a b c d e f g h
  | _ :: _ :: _ :: _ :: _ :: _ :: _ :: _ :: _ :: _, hs => simp at hs
abbrev B4 := Int × Int × Int × Int
def blk (l : List Src) (x : Nat × Nat) : B4 := ((x.1 : Int), (x.2 : Int), (Mx l x.1 x.2).1, (Mx l x.1 x.2).2)
def ent (l : List Src) (x : Nat × Nat) : Int × B4 := ((x.2 : Int), blk l x)
def kn (l : List Src) (K : List (Nat × Nat)) : List (Int × B4) := K.reverse.map (ent l)
theorem kn_cons (l : List Src) (x : Nat × Nat) (K : List (Nat × Nat)) : kn l (x :: K) = kn l K ++ [((x.2 : Int), blk l x)] := by simp [kn, ent]
theorem kn_keys (l : List Src) {K : List (Nat × Nat)} {t : Nat} (h : ChT K t) {k : Int} (hk : (t : Int) < k) : ∀ p ∈ kn l K, p.1 ≠ k := by
  intro p hp
  obtain ⟨x, hx, rfl⟩ := List.mem_map.1 hp
  have := h.rng x (List.mem_reverse.1 hx)
  simp only [ent]
  omega
theorem kn_mem (l : List Src) : ∀ {K : List (Nat × Nat)} {t : Nat}, ChT K t → ∀ x ∈ K, alook (kn l K) (x.2 : Int) = some (blk l x)
  | [], _, _, x, hx => by cases hx
  | (b, e) :: r, t, ⟨h1, h2, h3⟩, x, hx => by
    rw [kn_cons]
    rcases List.mem_cons.1 hx with rfl | hx
    · exact alook_last (kn_keys l h3 (by simp only; omega))
    · have := h3.rng x hx
      rw [alook_app (by simp only; omega)]
      exact kn_mem l h3 x hx
theorem ChT.len : ∀ {K : List (Nat × Nat)} {t : Nat}, ChT K t → K.length ≤ t
  | [], _, _ => by simp
  | (b, e) :: r, t, ⟨h1, h2, h3⟩ => by have := h3.len; simp; omega
theorem lt_trans' {a b c : Frc} (ha : 0 < a.2) (hb : 0 < b.2) (hc : 0 < c.2) (h1 : a.1 * b.2 < b.1 * a.2) (h2 : b.1 * c.2 < c.1 * b.2) : a.1 * c.2 < c.1 * a.2 := by
  by_cases h : a.1 * c.2 < c.1 * a.2
  · exact h
  · have : fle c b := fle_trans hc ha hb (Int.not_lt.1 h) (Int.le_of_lt h1)
    unfold fle at this
    omega
section
variable {n : Nat × Nat} (hn : 4611686018427387904 ≤ n.1) {l : List Src} (ho : Ok l)
include hn ho
theorem seg_eq {a c : Nat} (h : a < c) (hc : c ≤ l.length) : bounds (some (a : Int)) (some (c : Int)) (some (c : Int)) l.length = true ∧ D70 n ((l.take (Int.toNat (c : Int))).drop (Int.toNat (a : Int))) = some (Mx l a c) := by
  refine ⟨by simp [bounds]; omega, ?_⟩
  rw [Int.toNat_natCast, Int.toNat_natCast]
  exact mean_eq hn ((ho.take _).drop _) (by simp; omega)
theorem blk_inner (f1 : (List (Int × Int)) → Int → (List (Int × Int × Int × Int × Int)) → Option R79) {t : Nat} (ht : t ≤ l.length) : ∀ (m : Nat) (K : List (Nat × Nat)) (c : Nat), Blk l K c → Loc l c t → c < t → K.length < m →
    ∃ K', Blk l K' t ∧ DL79_2 n f1 m l (t : Int) ((alook (kn l K) (c : Int)).isSome) (kn l K) (c : Int) (t : Int) (Mx l c t).1 (Mx l c t).2 (((alook (kn l K) (c : Int)).getD (0, 0, 0, 0)).1) ((((alook (kn l K) (c : Int)).getD (0, 0, 0, 0)).2).1)
      (((((alook (kn l K) (c : Int)).getD (0, 0, 0, 0)).2).2).1) (((((alook (kn l K) (c : Int)).getD (0, 0, 0, 0)).2).2).2) = f1 l (wr .i64 ((t : Int) + 1)) (kn l K')
  | 0, K, c, _, _, _, h => by omega
  | m + 1, K, c, hK, hL, hct, h => by
    rw [DL79_2_succ]
    unfold DF79_2
    have Fn := Mx_Fr ho hct ht
    match K, hK, h with
    | [], hK, h =>
      have hc0 : c = 0 := hK.ch
      subst hc0
      have : alook (kn l []) ((0 : Nat) : Int) = none := rfl
      rw [this]
      simp only [Option.isSome_none, show (false == true) = false from rfl, cond_false, Option.bind_some]
      refine ⟨[(0, t)], ⟨⟨rfl, hct, rfl⟩, fun x hx => ?_, ⟨by simp, trivial⟩⟩, ?_⟩
      · rw [List.mem_singleton.1 hx]; exact hL
      · rw [aset_ne (by simp [kn]), kn_cons]
        rfl
    | (b, e) :: r, hK, h =>
      obtain ⟨⟨h1, h2, h3⟩, hloc, hinc, hincr⟩ := hK
      subst h1
      have hch : ChT ((b, e) :: r) e := ⟨rfl, h2, h3⟩
      have hlk := kn_mem l hch (b, e) (by simp)
      simp only at hlk
      have Fb := Mx_Fr ho h2 (by omega : e ≤ l.length)
      rw [hlk]
      simp only [Option.isSome_some, show (true == true) = true from rfl, cond_true, Option.getD_some, blk]
      rw [show (((Mx l b e).1, (Mx l b e).2) : Int × Int) = Mx l b e from rfl, show (((Mx l e t).1, (Mx l e t).2) : Int × Int) = Mx l e t from rfl, cmp_eq n Fb Fn]
      simp only [Option.bind_some]
      by_cases hge : (Mx l b e).1 * (Mx l e t).2 - (Mx l e t).1 * (Mx l b e).2 ≥ 0
      · obtain ⟨s1, s2⟩ := seg_eq hn ho (a := b) (c := t) (by omega) ht
        rw [decide_eq_true hge, cond_true, s1, cond_true, s2]
        simp only [Option.bind_some]
        have her : (kn l ((b, e) :: r)).eraseP (fun p => p.1 == (e : Int)) = kn l r := by
          rw [kn_cons]
          exact erase_last (kn_keys l h3 (by omega))
        rw [her]
        exact blk_inner f1 ht m r b ⟨h3, fun x hx => hloc x (List.mem_cons_of_mem _ hx), hincr⟩ (Loc.join ho h2 hct ht (hloc (b, e) (by simp)) hL (by unfold fle; omega)) (by omega) (by simp at h; omega)
      · rw [decide_eq_false hge, cond_false]
        refine ⟨(e, t) :: (b, e) :: r, ⟨⟨rfl, hct, rfl, h2, h3⟩, fun x hx => ?_, ?_, hinc, hincr⟩, ?_⟩
        · rcases List.mem_cons.1 hx with rfl | hx
          · exact hL
          · exact hloc x hx
        · intro y hy
          rcases List.mem_cons.1 hy with rfl | hy
          · simp only; omega
          · have hyr := h3.rng y hy
            have hlt2 : (Mx l b e).1 * (Mx l e t).2 < (Mx l e t).1 * (Mx l b e).2 := by omega
            exact lt_trans' (Mx_Fr ho hyr.1 (by omega)).dp Fb.dp Fn.dp (hinc y hy) hlt2
        · rw [aset_ne (kn_keys l hch (by omega)), kn_cons l (e, t)]
          rfl
theorem blk_outer : ∀ (m t : Nat) (K : List (Nat × Nat)), Blk l K t → t ≤ l.length → l.length - t < m → ∃ K', Blk l K' l.length ∧ DL79_1 n m l ((t + 1 : Nat) : Int) (kn l K) = DL79_3 n n.1 (l.length : Int) (kn l K') []
  | 0, t, K, _, _, h => by omega
  | m + 1, t, K, hK, ht, h => by
    have h8 := ho.1
    rw [DL79_1_succ]
    unfold DF79_1
    by_cases hlt : t < l.length
    · have hw : wr .i64 (((t + 1 : Nat) : Int) - 1) = (t : Int) := by rw [wr_ok (by omega) (by omega)]; omega
      obtain ⟨s1, s2⟩ := seg_eq hn ho (a := t) (c := t + 1) (by omega) hlt
      rw [show decide (((t + 1 : Nat) : Int) ≤ (l.length : Int)) = true by simp; omega, cond_true, hw, s1, cond_true, s2]
      simp only [Option.bind_some]
      obtain ⟨K', k1, k2⟩ := blk_inner hn ho (DL79_1 n m) (t := t + 1) hlt n.1 K t hK (Loc.one ho hlt) (by omega) (by have := hK.ch.len; omega)
      rw [k2, show wr .i64 (((t + 1 : Nat) : Int) + 1) = ((t + 1 + 1 : Nat) : Int) by rw [wr_ok (by omega) (by omega)]; omega]
      exact blk_outer m (t + 1) K' k1 hlt (by omega)
    · have : t = l.length := by omega
      subst this
      rw [show decide (((l.length + 1 : Nat) : Int) ≤ (l.length : Int)) = false by simp; omega, cond_false]
      exact ⟨K, hK, rfl⟩
end
theorem blk_last {n : Nat × Nat} (hn : 4611686018427387904 ≤ n.1) {l : List Src} {F : List (Nat × Nat)} (hF : ChT F l.length) : ∀ (m : Nat) (K : List (Nat × Nat)) (t : Nat) (out : List B4), ChT K t → (∀ x ∈ K, x ∈ F) → K.length < m → out.length + K.length ≤ 8 →
    DL79_3 n m (t : Int) (kn l F) out = some ((out ++ K.map (blk l)).reverse)
  | 0, K, t, out, _, _, h, _ => by omega
  | m + 1, K, t, out, hK, hm, h, hl => by
    rw [DL79_3_succ]
    unfold DF79_3
    match K, hK, hm, h, hl with
    | [], hK, hm, h, hl =>
      have : t = 0 := hK
      subst this
      rw [show decide (((0 : Nat) : Int) > 0) = false by simp, cond_false, rev_eq (by omega) out (by simpa using hl)]
      simp
    | (b, e) :: r, ⟨h1, h2, h3⟩, hm, h, hl =>
      subst h1
      have hlk := kn_mem l hF (b, e) (hm _ (by simp))
      simp only at hlk
      rw [show decide ((e : Int) > 0) = true by simp; omega, cond_true, hlk]
      simp only [Option.getD_some, List.length_cons] at hl ⊢
      rw [show decide (out.length + (([] : List B4).length + 1) ≤ lim) = true by simp [lim]; omega, cond_true]
      have := blk_last hn hF m r b (out ++ [blk l (b, e)]) h3 (fun x hx => hm x (List.mem_cons_of_mem _ hx)) (by simp at h; omega) (by simp; omega)
      simp only [List.map_cons]
      rw [show out ++ blk l (b, e) :: List.map (blk l) r = out ++ [blk l (b, e)] ++ List.map (blk l) r by simp]
      exact this
/-- The blocks. -/
theorem blocks_eq {n : Nat × Nat} (hn : 4611686018427387904 ≤ n.1) {l : List Src} (ho : Ok l) : ∃ K, Blk l K l.length ∧ D79 n l = some (K.reverse.map (blk l)) := by
  have h8 := ho.1
  unfold D79
  obtain ⟨K, k1, k2⟩ := blk_outer hn ho n.1 0 [] ⟨rfl, by simp, trivial⟩ (by omega) (by omega)
  have k2' : DL79_1 n n.1 l 1 [] = _ := k2
  rw [k2', blk_last hn k1.ch n.1 K l.length [] k1.ch (fun x hx => hx) (by have := k1.ch.len; omega) (by have := k1.ch.len; simp; omega)]
  refine ⟨K, k1, ?_⟩
  simp
/-! ### The nearest values -/
theorem near_inner {n : Nat × Nat} (f1 : Int → Int → (List (Int × Int)) → (List (Int × Int × Int × Int)) → Option R77) (v8 v9 : Int) (cnt : Nat) (hc : cnt ≤ 8) (b0 b1 b2 b3 : Int) (v7 : List B4) : ∀ (m j : Nat) (out : List Frc), j ≤ cnt → cnt - j < m → out.length + (cnt - j) ≤ 1000 →
    DL77_2 n f1 m v8 v9 (cnt : Int) (j : Int) out b0 b1 b2 b3 v7 = f1 v8 (wr .i64 (v9 + 1)) (out ++ List.replicate (cnt - j) (b2, b3)) v7
  | 0, j, out, _, h, _ => by omega
  | m + 1, j, out, hj, h, hl => by
    rw [DL77_2_succ]
    unfold DF77_2
    by_cases hlt : j < cnt
    · rw [show decide ((j : Int) < (cnt : Int)) = true by simpa using hlt, cond_true, show decide (out.length + [(b2, b3)].length ≤ lim) = true by simp [lim]; omega, cond_true, show wr .i64 ((j : Int) + 1) = ((j + 1 : Nat) : Int) by rw [wr_ok (by omega) (by omega)]; omega]
      rw [near_inner f1 v8 v9 cnt hc b0 b1 b2 b3 v7 m (j + 1) (out ++ [(b2, b3)]) (by omega) (by omega) (by simp; omega), show cnt - j = (cnt - (j + 1)) + 1 by omega, List.replicate_succ]
      simp
    · rw [show decide ((j : Int) < (cnt : Int)) = false by simpa using hlt, cond_false, show cnt - j = 0 by omega]
      simp
def vals (l : List Src) (L : List (Nat × Nat)) : List Frc := L.flatMap fun x => List.replicate (x.2 - x.1) (Mx l x.1 x.2)
theorem near_outer {n : Nat × Nat} (hn : 4611686018427387904 ≤ n.1) {l : List Src} {L : List (Nat × Nat)} (hL : ∀ x ∈ L, x.1 < x.2 ∧ x.2 ≤ 8) (h8 : L.length ≤ 8) : ∀ (m j : Nat) (out : List Frc), j ≤ L.length → L.length - j < m → out.length ≤ 8 * j →
    DL77_1 n m (L.length : Int) (j : Int) out (L.map (blk l)) = some (out ++ vals l (L.drop j))
  | 0, j, out, _, h, _ => by omega
  | m + 1, j, out, hj, h, hl => by
    rw [DL77_1_succ]
    unfold DF77_1
    by_cases hlt : j < L.length
    · have hx := hL L[j] (List.getElem_mem hlt)
      have hlt2 : j < (L.map (blk l)).length := by simpa using hlt
      rw [show decide ((j : Int) < (L.length : Int)) = true by simpa using hlt, cond_true, show inB (j : Int) (L.map (blk l)).length = true by simp [inB]; omega, cond_true, idx_nat hlt2, List.getElem_map]
      simp only [Option.bind_some, blk]
      rw [show wr .i64 ((L[j].2 : Int) - (L[j].1 : Int)) = ((L[j].2 - L[j].1 : Nat) : Int) by rw [wr_ok (by omega) (by omega)]; omega]
      have := near_inner (n := n) (DL77_1 n m) (L.length : Int) (j : Int) (L[j].2 - L[j].1) (by omega) (L[j].1 : Int) (L[j].2 : Int) (Mx l L[j].1 L[j].2).1 (Mx l L[j].1 L[j].2).2 (L.map (blk l)) n.1 0 out (by omega) (by omega) (by omega)
      simp only [Int.natCast_zero, Nat.sub_zero, blk] at this
      rw [this, show wr .i64 ((j : Int) + 1) = ((j + 1 : Nat) : Int) by rw [wr_ok (by omega) (by omega)]; omega]
      have ih := near_outer (l := l) hn hL h8 m (j + 1) (out ++ List.replicate (L[j].2 - L[j].1) (Mx l L[j].1 L[j].2)) (by omega) (by omega) (by simp; omega)
      rw [show (((Mx l L[j].1 L[j].2).1, (Mx l L[j].1 L[j].2).2) : Int × Int) = Mx l L[j].1 L[j].2 from rfl, ih, drop_cons hlt]
      simp only [vals, List.flatMap_cons, List.append_assoc]
    · rw [show decide ((j : Int) < (L.length : Int)) = false by simpa using hlt, cond_false, List.drop_of_length_le (by omega)]
      simp [vals]
theorem near_eq {n : Nat × Nat} (hn : 4611686018427387904 ≤ n.1) {l : List Src} (ho : Ok l) : ∃ K, Blk l K l.length ∧ D79 n l = some (K.reverse.map (blk l)) ∧ D77 n l = some (vals l K.reverse) := by
  have h8 := ho.1
  obtain ⟨K, h1, h2⟩ := blocks_eq hn ho
  refine ⟨K, h1, h2, ?_⟩
  have hlen := h1.ch.len
  have := near_outer (l := l) hn (L := K.reverse) (fun x hx => by
    have := h1.ch.rng x (List.mem_reverse.1 hx)
    omega) (by simp; omega) n.1 0 [] (by omega) (by simp; omega) (by simp)
  unfold D77
  rw [h2]
  simp only [Option.bind_some, List.length_map]
  simpa using this
/-- The values, place by place. -/
theorem vals_get (l : List Src) : ∀ {K : List (Nat × Nat)} {t : Nat}, ChT K t → (vals l K.reverse).length = t ∧ ∀ i v, (vals l K.reverse)[i]? = some v → ∃ x ∈ K, x.1 ≤ i ∧ i < x.2 ∧ v = Mx l x.1 x.2
  | [], t, h => by
    have : t = 0 := h
    subst this
    exact ⟨rfl, by simp [vals]⟩
  | (b, e) :: r, t, ⟨h1, h2, h3⟩ => by
    obtain ⟨i1, i2⟩ := vals_get l h3
    have e1 : vals l ((b, e) :: r).reverse = vals l r.reverse ++ List.replicate (e - b) (Mx l b e) := by simp [vals]
    rw [e1]
    refine ⟨by simp [i1]; omega, fun i v hi => ?_⟩
    rcases Nat.lt_or_ge i b with hib | hib
    · rw [List.getElem?_append_left (by omega)] at hi
      obtain ⟨x, hx, h5⟩ := i2 i v hi
      exact ⟨x, List.mem_cons_of_mem _ hx, h5⟩
    · rw [List.getElem?_append_right (by omega), List.getElem?_replicate] at hi
      split at hi
      · cases hi
        exact ⟨(b, e), by simp, hib, by simp only; omega, rfl⟩
      · cases hi
end Go.Proofs.Ytombednapelokaa
