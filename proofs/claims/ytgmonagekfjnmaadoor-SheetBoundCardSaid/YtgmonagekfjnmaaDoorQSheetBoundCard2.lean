/- Texts of this claim, joined: St to Su. -/
import Derived.KernelRfl
import Derived.Test.YtgmonagekfjnmaaDoorProg
import Derived.WalkKit
import Derived.Test.YtgmonagekfjnmaaDoorQSheetBoundCard1
set_option linter.unusedVariables false
set_option linter.unusedSimpArgs false
namespace Go.Proofs.YtgmonagekfjnmaaDoor
open Go.Vi
/-! Sums over sheets. -/
def sumr (f : Nat → Int) : Nat → Int
  | 0 => 0
  | m + 1 => sumr f m + f m
theorem sumr_add (f g : Nat → Int) : ∀ m, sumr (fun s => f s + g s) m = sumr f m + sumr g m
  | 0 => rfl
  | m + 1 => by simp only [sumr]; rw [sumr_add f g m]; omega
theorem sumr_le {f g : Nat → Int} : ∀ m, (∀ s < m, f s ≤ g s) → sumr f m ≤ sumr g m
  | 0, _ => Int.le_refl _
  | m + 1, h => by
    have h1 := sumr_le m (fun s hs => h s (by omega))
    have h2 := h m (by omega)
    simp only [sumr]
    omega
theorem sumr_zero : ∀ m, sumr (fun _ => 0) m = 0
  | 0 => rfl
  | m + 1 => by simp only [sumr]; rw [sumr_zero m]; rfl
theorem sumr_one (x c : Int) : ∀ m : Nat, 0 ≤ x → sumr (fun s => if x = (s : Int) then c else 0) m = if x < m then c else 0
  | 0, h => by rw [if_neg (by omega)]; rfl
  | m + 1, h => by
    simp only [sumr]
    rw [sumr_one x c m h]
    by_cases h1 : x < m
    · rw [if_pos h1, if_neg (by omega), if_pos (by omega)]; omega
    · rw [if_neg h1]
      by_cases h2 : x = m
      · rw [if_pos h2, if_pos (by omega)]; omega
      · rw [if_neg h2, if_neg (by omega)]; omega
theorem sumr_mul (c : Int) (f : Nat → Int) : ∀ m, sumr (fun s => c * f s) m = c * sumr f m
  | 0 => by simp [sumr]
  | m + 1 => by simp only [sumr]; rw [sumr_mul c f m, Int.mul_add]
theorem sumr_const (c : Int) : ∀ m : Nat, sumr (fun _ => c) m = c * m
  | 0 => by simp [sumr]
  | m + 1 => by
    simp only [sumr]
    rw [sumr_const c m, Int.natCast_add, Int.mul_add]
    omega
theorem sumr_congr {f g : Nat → Int} : ∀ m, (∀ s < m, f s = g s) → sumr f m = sumr g m
  | 0, _ => rfl
  | m + 1, h => by simp only [sumr]; rw [sumr_congr m (fun s hs => h s (by omega)), h m (by omega)]
/-- The pieces of a sheet. -/
def sel : List Int → List Int → Int → List Int
  | p :: ps, x :: l, s => if x = s then p :: sel ps l s else sel ps l s
  | _, _, _ => []
def tot : List Int → Int
  | [] => 0
  | p :: r => p + tot r
/-- What is added up of pieces. -/
structure Add (f : List Int → Int) : Prop where
  nil : f [] = 0
  cons : ∀ p r, f (p :: r) = f [p] + f r
theorem bal_add (sz k : Int) : Add (bal sz k) := ⟨rfl, fun p r => by simp [bal]⟩
theorem blf_add (sz k : Int) : Add (blf sz k) := ⟨rfl, fun p r => by simp [blf]⟩
theorem bsm_add (sz k : Int) : Add (bsm sz k) := ⟨rfl, fun p r => by simp [bsm]⟩
theorem sum_sel {f : List Int → Int} (hf : Add f) (m : Nat) : ∀ (ps l : List Int), ps.length = l.length → (∀ x ∈ l, 0 ≤ x ∧ x < m) → sumr (fun s => f (sel ps l (s : Int))) m = f ps
  | [], [], _, _ => by
    simp only [sel, hf.nil]
    exact sumr_zero m
  | p :: ps, x :: l, h, hx => by
    have h0 := hx x (by simp)
    have ih := sum_sel hf m ps l (by simpa using h) (fun y hy => hx y (by simp [hy]))
    have e : ∀ s : Nat, f (sel (p :: ps) (x :: l) (s : Int)) = (if x = (s : Int) then f [p] else 0) + f (sel ps l (s : Int)) := fun s => by
      simp only [sel]
      split
      · rw [hf.cons]
      · omega
    rw [sumr_congr m (fun s _ => e s), sumr_add, ih, sumr_one _ _ _ h0.1, if_pos h0.2, hf.cons p ps]
  | [], _ :: _, h, _ => by simp at h
  | _ :: _, [], h, _ => by simp at h
theorem tot_sel (s : Int) : ∀ (ps l : List Int), tot (sel ps l s) = usd ps l s
  | p :: ps, x :: l => by
    simp only [sel, usd]
    split
    · simp only [tot]; rw [tot_sel s ps l]
    · rw [tot_sel s ps l]; omega
  | [], [] => rfl
  | [], _ :: _ => rfl
  | _ :: _, [] => rfl
theorem sel_mem (s : Int) : ∀ (ps l : List Int), ∀ p ∈ sel ps l s, p ∈ ps
  | p :: ps, x :: l, q, h => by
    simp only [sel] at h
    split at h
    · rcases List.mem_cons.1 h with rfl | h
      · simp
      · exact List.mem_cons_of_mem _ (sel_mem s ps l q h)
    · exact List.mem_cons_of_mem _ (sel_mem s ps l q h)
  | [], [], _, h => by cases h
  | [], _ :: _, _, h => by cases h
  | _ :: _, [], _, h => by cases h
/-! One sheet. -/
def bhA (sz k : Int) : List Int → Int
  | [] => 0
  | p :: r => (if sz - k < p ∨ sz < 2 * p then p else 0) + bhA sz k r
theorem one_sheet {sz k : Int} (hk : 0 ≤ k) (hk2 : 2 * k ≤ sz) : ∀ (l : List Int), (∀ p ∈ l, 1 ≤ p ∧ p ≤ sz) →
    0 ≤ bal sz k l ∧ 0 ≤ bsm sz k l ∧ 0 ≤ blf sz k l ∧ 0 ≤ bhA sz k l ∧ bhA sz k l + bsm sz k l ≤ tot l ∧ (bal sz k l = 0 → bhA sz k l = 0 ∧ blf sz k l = 0) ∧ (1 ≤ bal sz k l → sz + 1 ≤ 2 * bhA sz k l) ∧ (2 ≤ bal sz k l → sz + 1 ≤ bhA sz k l) ∧ (bsm sz k l = 0 ∨ k ≤ bsm sz k l) ∧ (bal sz k l = 1 → blf sz k l = sz - bhA sz k l ∨ (blf sz k l = 0 ∧ sz - k + 1 ≤ bhA sz k l))
  | [], _ => by simp [bal, bsm, blf, bhA, tot]
  | p :: r, h => by
    have hp := h p (by simp)
    obtain ⟨h1, h2, h3, h4, h5, h6, h7, h8, h9, h10⟩ := one_sheet hk hk2 r (fun q hq => h q (by simp [hq]))
    simp only [bal, bsm, blf, bhA, tot]
    generalize bal sz k r = A at *
    generalize bsm sz k r = S at *
    generalize blf sz k r = F at *
    generalize bhA sz k r = H at *
    generalize tot r = T at *
    by_cases e1 : sz - k < p
    · rw [if_pos (.inl e1), if_pos (.inl e1), if_pos e1, if_pos (.inl e1)]
      refine ⟨by omega, by omega, by omega, by omega, by omega, by omega, by omega, by omega, by omega, by omega⟩
    · by_cases e2 : sz < 2 * p
      · rw [if_pos (.inr e2), if_pos (.inr e2), if_neg e1, if_pos e2, if_pos (.inr e2)]
        refine ⟨by omega, by omega, by omega, by omega, by omega, by omega, by omega, by omega, by omega, by omega⟩
      · have e3 : ¬ (sz - k < p ∨ sz < 2 * p) := by omega
        rw [if_neg e3, if_neg e3, if_neg e1, if_neg e2, if_neg e3]
        by_cases e4 : k ≤ p
        · rw [if_pos e4]
          refine ⟨by omega, by omega, by omega, by omega, by omega, by omega, by omega, by omega, by omega, by omega⟩
        · rw [if_neg e4]
          refine ⟨by omega, by omega, by omega, by omega, by omega, by omega, by omega, by omega, by omega, by omega⟩
theorem sheet_bnd {sz k : Int} (hk : 0 ≤ k) (hk2 : 2 * k ≤ sz) {l : List Int} (h : ∀ p ∈ l, 1 ≤ p ∧ p ≤ sz) (ht : tot l ≤ sz) : bsm sz k l + sz * bal sz k l ≤ sz + blf sz k l ∧ bal sz k l ≤ 1 := by
  obtain ⟨h1, h2, h3, h4, h5, h6, h7, h8, h9, h10⟩ := one_sheet hk hk2 l h
  have hb : bal sz k l = 0 ∨ bal sz k l = 1 := by
    rcases Int.lt_or_le 1 (bal sz k l) with h | h
    · have := h8 h; omega
    · omega
  rcases hb with e | e
  · rw [e]
    simp only [Int.mul_zero]
    omega
  · have := h10 e
    rw [e]
    simp only [Int.mul_one]
    omega
theorem bound_le {sz k : Int} {ps l : List Int} (h : Pln sz ps l) (hk : 0 ≤ k) (hk2 : k ≤ sz / 2) : bnd sz ps k ≤ mny l := by
  have hlo := h.job.lo
  have h0 := mny_nn l
  have hr : ∀ x ∈ l, 0 ≤ x ∧ x < ((mny l).toNat : Nat) := fun x hx => by
    have h1 := h.rng x hx
    have h2 := mny_lt hx
    omega
  have hone : ∀ s : Nat, bsm sz k (sel ps l (s : Int)) + sz * bal sz k (sel ps l (s : Int)) ≤ sz + blf sz k (sel ps l (s : Int)) ∧ bal sz k (sel ps l (s : Int)) ≤ 1 := fun s => by
    refine sheet_bnd hk (by omega) (fun p hp => h.job.ok p (sel_mem _ _ _ p hp)) ?_
    rw [tot_sel]
    by_cases hx : (s : Int) ∈ l
    · exact h.fit _ hx
    · rw [usd_none hx]; omega
  have s1 := sumr_le (mny l).toNat (fun s _ => (hone s).1)
  have s2 := sumr_le (mny l).toNat (fun s _ => (hone s).2)
  rw [sumr_add, sumr_add, sumr_mul, sumr_const, sum_sel (bsm_add sz k) _ ps l h.len.symm hr, sum_sel (bal_add sz k) _ ps l h.len.symm hr, sum_sel (blf_add sz k) _ ps l h.len.symm hr] at s1
  rw [sumr_const, sum_sel (bal_add sz k) _ ps l h.len.symm hr] at s2
  rw [show (((mny l).toNat : Nat) : Int) = mny l by omega] at s1 s2
  unfold bnd
  have hd : bsm sz k ps - blf sz k ps ≤ sz * (mny l - bal sz k ps) := by
    rw [Int.mul_sub]
    omega
  have hd0 : 0 ≤ sz * (mny l - bal sz k ps) := Int.mul_nonneg (by omega) (by omega)
  have hlt : (max (bsm sz k ps - blf sz k ps) 0 + sz - 1) / sz < mny l - bal sz k ps + 1 := by
    refine Int.ediv_lt_of_lt_mul (by omega) ?_
    rw [Int.add_mul, Int.one_mul, Int.mul_comm]
    omega
  omega
/-! The law's bound. -/
theorem total_loop (n : Nat × Nat) {l : List Int} (hb : ∀ p ∈ l, 0 ≤ p ∧ p ≤ 24) (hl : l.length ≤ 100) : ∀ (m k : Nat) (v : Int), k ≤ l.length → l.length - k < m → 0 ≤ v → v ≤ 24 * k → DL49_1 n m v l (l.length : Int) (k : Int) = some (v + tot (l.drop k))
  | 0, k, v, _, h, _, _ => by omega
  | m + 1, k, v, hk, h, h0, h1 => by
    rw [DL49_1_succ]
    unfold DF49_1
    by_cases hlt : k < l.length
    · have hp := hb _ (List.getElem_mem hlt)
      rw [dlt_t hlt, cond_true, idx_nat hlt, Option.bind_some, wr_ok (x := v + l[k]) (by omega) (by omega), wr_succ (by omega), total_loop n hb hl m (k + 1) _ (by omega) (by omega) (by omega) (by omega), drop_cons hlt]
      simp only [tot]
      congr 1
      omega
    · rw [dlt_f hlt, cond_false, List.drop_of_length_le (by omega)]
      simp [tot]
theorem total_eq {n : Nat × Nat} (hn : 1000 ≤ n.1) {l : List Int} (hb : ∀ p ∈ l, 0 ≤ p ∧ p ≤ 24) (hl : l.length ≤ 100) : D49 n l = some (tot l) := by
  unfold D49
  have := total_loop n hb hl n.1 0 0 (by omega) (by omega) (by omega) (by omega)
  rw [show ((0 : Nat) : Int) = 0 from rfl] at this
  rw [this]
  simp
theorem tot_snoc (p : Int) : ∀ l : List Int, tot (l ++ [p]) = tot l + p
  | [] => by simp [tot]
  | q :: l => by
    simp only [List.cons_append, tot]
    rw [tot_snoc p l]
    omega
theorem tot_rng : ∀ {l : List Int}, (∀ p ∈ l, 0 ≤ p ∧ p ≤ 24) → 0 ≤ tot l ∧ tot l ≤ 24 * l.length
  | [], _ => by simp [tot]
  | p :: l, h => by
    have h1 := h p (by simp)
    have h2 := tot_rng (l := l) (fun q hq => h q (by simp [hq]))
    simp only [tot, List.length_cons]
    omega
theorem room_loop (n : Nat × Nat) (hn : 1000 ≤ n.1) {sz : Int} (hs : 1 ≤ sz ∧ sz ≤ 24) {sm : List Int} (hsm : ∀ p ∈ sm, 0 ≤ p ∧ p ≤ 24) (hl : sm.length ≤ 100) : ∀ (m : Nat) (v r : Int), tot sm - r < m → 0 ≤ v → v + (max (tot sm - r) 0) ≤ 100000 → -10000 ≤ r → r ≤ 10000 → 0 < m →
    DL55_3 n m sz v r sm = some (v + (max (tot sm - r) 0 + sz - 1) / sz)
  | 0, v, r, _, _, _, _, _, h0 => by omega
  | m + 1, v, r, h, hv, hv2, hs1, hs2, _ => by
    have ht := tot_rng hsm
    rw [DL55_3_succ]
    unfold DF55_3
    rw [total_eq hn hsm hl, Option.bind_some]
    by_cases e : r < tot sm
    · rw [decide_eq_true e, cond_true, wr_ok (x := v + 1) (by omega) (by omega), wr_ok (x := r + sz) (by omega) (by omega), room_loop n hn hs hsm hl m (v + 1) (r + sz) (by omega) (by omega) (by omega) (by omega) (by omega) (by omega), ceil_step hs.1 (show 0 < tot sm - r by omega)]
      congr 1
      rw [show tot sm - (r + sz) = tot sm - r - sz by omega]
      omega
    · rw [decide_eq_false e, cond_false, show max (tot sm - r) 0 = 0 by omega, show (0 + sz - 1) / sz = 0 from Int.ediv_eq_zero_of_lt (by omega) (by omega), Int.add_zero]
theorem snoc_rng {l : List Int} {p : Int} (h : ∀ q ∈ l, 0 ≤ q ∧ q ≤ 24) (hp : 0 ≤ p ∧ p ≤ 24) : ∀ q ∈ l ++ [p], 0 ≤ q ∧ q ≤ 24 := fun q hq => by
  rcases List.mem_append.1 hq with hq | hq
  · exact h q hq
  · rw [List.mem_singleton.1 hq]; exact hp
theorem lbound_loop (n : Nat × Nat) (hn : 1000 ≤ n.1) {sz k : Int} {ps : List Int} (hj : Job sz ps) (hk : 0 ≤ k ∧ k ≤ 24) : ∀ (m i : Nat) (B H S : List Int), i ≤ ps.length → ps.length - i < m → B.length ≤ i → H.length ≤ i → S.length ≤ i → (∀ p ∈ H, 0 ≤ p ∧ p ≤ 24) → (∀ p ∈ S, 0 ≤ p ∧ p ≤ 24) →
    DL55_1 n m sz k ps (ps.length : Int) (i : Int) B H S = some ((B.length : Int) + H.length + bal sz k (ps.drop i) + (max (tot S + bsm sz k (ps.drop i) - (H.length * sz - tot H + blf sz k (ps.drop i))) 0 + sz - 1) / sz)
  | 0, i, B, H, S, _, h, _, _, _, _, _ => by omega
  | m + 1, i, B, H, S, hi, h, hB, hH, hS, hHb, hSb => by
    have h8 := hj.len
    have hlo := hj.lo
    have hhi := hj.hi
    rw [DL55_1_succ]
    unfold DF55_1
    by_cases hlt : i < ps.length
    · have hp := hj.ok _ (List.getElem_mem hlt)
      rw [dlt_t hlt, cond_true, idx_nat hlt, Option.bind_some, drop_cons hlt]
      unfold DL55_2
      simp only [bal, blf, bsm]
      rw [wr_succ (by omega), wr_ok (x := ps[i] + k) (by omega) (by omega), wr_ok (x := ps[i] + ps[i]) (by omega) (by omega), lim_dec (by omega), lim_dec (by omega), lim_dec (by omega), cond_true, cond_true, cond_true]
      have ih := fun B H S h1 h2 h3 h4 h5 => lbound_loop n hn hj hk m (i + 1) B H S (by omega) (by omega) h1 h2 h3 h4 h5
      by_cases e1 : sz - k < ps[i]
      · rw [decide_eq_true (show ps[i] + k > sz by omega), cond_true, ih _ _ _ (by simp; omega) (by omega) (by omega) hHb hSb, if_pos (.inl e1), if_pos e1, if_pos (.inl e1), List.length_append, List.length_singleton]
        congr 2
        · omega
        · congr 2
          omega
      · rw [decide_eq_false (show ¬ ps[i] + k > sz by omega), cond_false, if_neg e1]
        by_cases e2 : sz < 2 * ps[i]
        · rw [decide_eq_true (show ps[i] + ps[i] > sz by omega), cond_true, ih _ _ _ (by omega) (by simp; omega) (by omega) (snoc_rng hHb ⟨by omega, by omega⟩) hSb, if_pos (.inr e2), if_pos e2, if_pos (.inr e2), List.length_append, List.length_singleton, tot_snoc]
          have hm : ((H.length + 1 : Nat) : Int) * sz = (H.length : Int) * sz + sz := by rw [Int.natCast_add, Int.add_mul]; simp
          rw [hm]
          congr 2
          · omega
          · congr 2
            omega
        · rw [decide_eq_false (show ¬ ps[i] + ps[i] > sz by omega), cond_false, if_neg (show ¬ (sz - k < ps[i] ∨ sz < 2 * ps[i]) by omega), if_neg e2, if_neg (show ¬ (sz - k < ps[i] ∨ sz < 2 * ps[i]) by omega)]
          by_cases e3 : k ≤ ps[i]
          · rw [decide_eq_true (show ps[i] ≥ k from e3), cond_true, ih _ _ _ (by omega) (by omega) (by simp; omega) hHb (snoc_rng hSb ⟨by omega, by omega⟩), if_pos e3, tot_snoc]
            congr 2
            · omega
            · congr 2
              omega
          · rw [decide_eq_false (show ¬ ps[i] ≥ k from e3), cond_false, ih _ _ _ (by omega) (by omega) (by omega) hHb hSb, if_neg e3]
            congr 2
            · omega
            · congr 2
              omega
    · have ht := tot_rng hHb
      have ht2 := tot_rng hSb
      have hm : (H.length : Int) * sz ≤ 8 * 24 := by
        refine Int.mul_le_mul (by omega) hhi (by omega) (by omega)
      have hm0 : 0 ≤ (H.length : Int) * sz := Int.mul_nonneg (by omega) (by omega)
      rw [dlt_f hlt, cond_false, List.drop_of_length_le (by omega), total_eq hn hHb (by omega), Option.bind_some, wr_ok (x := (B.length : Int) + H.length) (by omega) (by omega), wr_ok (x := (H.length : Int) * sz) (by omega) (by omega), wr_ok (x := (H.length : Int) * sz - tot H) (by omega) (by omega), room_loop n hn ⟨hlo, hhi⟩ hSb (by omega) n.1 _ _ (by omega) (by omega) (by omega) (by omega) (by omega) (by omega)]
      simp only [bal, blf, bsm, Int.add_zero]
theorem lbound_eq {n : Nat × Nat} (hn : 1000 ≤ n.1) {sz k : Int} {ps : List Int} (hj : Job sz ps) (hk : 0 ≤ k ∧ k ≤ 24) : D55 n sz ps k = some (bnd sz ps k) := by
  unfold D55
  have := lbound_loop n hn hj hk n.1 0 [] [] [] (by omega) (by have := hj.len; omega) (by simp) (by simp) (by simp) (by simp) (by simp)
  rw [show ((0 : Nat) : Int) = 0 from rfl] at this
  rw [this, List.drop_zero]
  unfold bnd
  simp [tot]
/-- One plan more. -/
def bst (t : Int × List Int × Int) (q : List Int) : Int × List Int × Int := if mny q < t.1 then (mny q, q, 1) else if mny q = t.1 then (t.1, t.2.1, t.2.2 + 1) else t
theorem bst_cnt : ∀ (l : List (List Int)) (t : Int × List Int × Int), 0 ≤ t.2.2 → 0 ≤ (l.foldl bst t).2.2 ∧ (l.foldl bst t).2.2 ≤ t.2.2 + l.length
  | [], t, h => by simp [h]
  | q :: l, t, h => by
    have h1 : 0 ≤ (bst t q).2.2 ∧ (bst t q).2.2 ≤ t.2.2 + 1 := by
      unfold bst
      split
      · simp only []; omega
      · split
        · simp only []; omega
        · omega
    have h2 := bst_cnt l (bst t q) h1.1
    rw [List.foldl_cons, List.length_cons]
    omega
theorem visit_eq (n : Nat × Nat) (q L : List Int) (hL : (L.length : Int) = mny q) (w : Int) (f : List Int) (c : Int) (hc : 0 ≤ c ∧ c ≤ 2000000) : D91io00111 n q L w f c = some ((), (bst (w, f, c) q).1, (bst (w, f, c) q).2.1, (bst (w, f, c) q).2.2, ()) := by
  unfold D91io00111 bst
  rw [hL]
  by_cases h1 : mny q < w
  · rw [decide_eq_true h1, cond_true, if_pos h1]
  · rw [decide_eq_false h1, cond_false, if_neg h1]
    by_cases h2 : mny q = w
    · rw [if_pos h2, show (mny q == w) = true by simpa using h2, cond_true, wr_ok (by omega) (by omega)]
    · rw [if_neg h2, beq_false_of_ne h2, cond_false]
theorem rm_up_hi {sz : Int} (L : List Int) : rm sz L L.length = sz := by unfold rm; rw [List.getD_eq_getElem?_getD, List.getElem?_eq_none (by omega), Option.getD_none]
theorem bounds_full (n : Nat) : bounds none (some (n : Int)) (some (n : Int)) n = true := by
  unfold bounds
  simp
theorem put_eq {sz : Int} {ps : List Int} (hj : Job sz ps) : ∀ (r b L : List Int), SI sz ps.length ps b L → (L.length : Int) = mny b → ps.drop b.length = r → ∀ d, r.length < d → ∀ t : Int × List Int × Int, 0 ≤ t.2.2 → t.2.2 + (pl sz ps.length r b L).length ≤ 1000000 →
    DT101f91io001110 N d b L ps t.1 t.2.1 t.2.2 sz = some ((), ps, ((pl sz ps.length r b L).foldl bst t).1, ((pl sz ps.length r b L).foldl bst t).2.1, ((pl sz ps.length r b L).foldl bst t).2.2, sz, ()) := by
  intro r
  induction r with
  | nil =>
    intro b L h hL hr d hd t ht ht2
    obtain ⟨d, rfl⟩ : ∃ k, d = k + 1 := ⟨d - 1, by omega⟩
    have hle := h.le
    have hb : b.length = ps.length := by have := List.drop_eq_nil_iff.1 hr; omega
    rw [DT101f91io001110_succ]
    unfold DB101f91io001110
    have e : pl sz ps.length [] b L = [b] := rfl
    rw [e] at ht2 ⊢
    rw [show ((b.length : Int) == (ps.length : Int)) = true by simp [hb], cond_true, visit_eq N b L hL _ _ _ ⟨ht, by omega⟩, Option.bind_some]
    rfl
  | cons p r ih =>
    intro b L h hL hr d hd t ht ht2
    obtain ⟨d, rfl⟩ : ∃ k, d = k + 1 := ⟨d - 1, by omega⟩
    have hb : b.length < ps.length := by
      rcases Nat.lt_or_ge b.length ps.length with h | h
      · exact h
      · rw [List.drop_eq_nil_of_le h] at hr; cases hr
    have hp : ps[b.length] = p ∧ ps.drop (b.length + 1) = r := by
      rw [drop_cons hb] at hr
      exact ⟨(List.cons.inj hr).1, (List.cons.inj hr).2⟩
    obtain ⟨hp1, hp2⟩ := hp
    have h8 := h.job.len
    have hlb := h.lb
    have hlo := h.job.lo
    have hhi := h.job.hi
    have hpr := hj.ok _ (List.getElem_mem hb)
    rw [hp1] at hpr
    have hmin : min (L.length + 1) ps.length = L.length + 1 := by omega
    rw [DT101f91io001110_succ]
    unfold DB101f91io001110
    rw [beq_false_of_ne (show (b.length : Int) ≠ (ps.length : Int) by omega), cond_false, wr_succ (by omega)]
    have loop : ∀ (e s : Nat), s + e = L.length + 1 → ∀ (m : Nat), e < m → ∀ t : Int × List Int × Int, 0 ≤ t.2.2 → t.2.2 + ((List.range' s e).flatMap fun s => if p ≤ rm sz L s then pl sz ps.length r (b ++ [(s : Int)]) (up sz L s p) else []).length ≤ 1000000 →
        DL101f91io001110_1 N (DT101f91io001110 N d) m b L (b.length : Int) ((L.length + 1 : Nat) : Int) (s : Int) ps sz t.1 t.2.1 t.2.2 =
          some ((), ps, (((List.range' s e).flatMap fun s => if p ≤ rm sz L s then pl sz ps.length r (b ++ [(s : Int)]) (up sz L s p) else []).foldl bst t).1, (((List.range' s e).flatMap fun s => if p ≤ rm sz L s then pl sz ps.length r (b ++ [(s : Int)]) (up sz L s p) else []).foldl bst t).2.1, (((List.range' s e).flatMap fun s => if p ≤ rm sz L s then pl sz ps.length r (b ++ [(s : Int)]) (up sz L s p) else []).foldl bst t).2.2, sz, ()) := by
      intro e
      induction e with
      | zero =>
        intro s hs m hm t ht ht2
        obtain ⟨m, rfl⟩ : ∃ k, m = k + 1 := ⟨m - 1, by omega⟩
        rw [DL101f91io001110_1_succ]
        unfold DF101f91io001110_1
        rw [dlt_f (by omega), cond_false]
        rfl
      | succ e ihe =>
        intro s hs m hm t ht ht2
        obtain ⟨m, rfl⟩ : ∃ k, m = k + 1 := ⟨m - 1, by omega⟩
        have h1 : s ≤ L.length := by omega
        have hrm := rm_rng h.rng (by omega : 0 ≤ sz) s
        have hul := up_len (sz := sz) p h1
        rw [List.range'_succ, List.flatMap_cons] at ht2 ⊢
        rw [DL101f91io001110_1_succ]
        unfold DF101f91io001110_1
        rw [dlt_t (by omega), cond_true, clone_eq N L (by omega), Option.bind_some]
        have hn1 : s + 1 + e = L.length + 1 := by omega
        -- what is done with the piece on this sheet
        have fin : ∀ (A : List Int), A = (if s = L.length then L ++ [sz] else L) →
            ((bif inB (s : Int) A.length then (idx A (s : Int)).bind fun x8' =>
              (idx ps (b.length : Int)).bind fun x9' =>
              (bif inB (s : Int) A.length then (idx A (s : Int)).bind fun x10' =>
                (bif inB (s : Int) (A.set (Int.toNat (s : Int)) (wr .i64 (x8' - x9'))).length then (idx (A.set (Int.toNat (s : Int)) (wr .i64 (x8' - x9'))) (s : Int)).bind fun x11' =>
                  (bif decide (x11' ≥ 0) then (bif ((b.length : Int) == (b.length : Int)) && bounds none (some (b.length : Int)) (some (b.length : Int)) b.length then (bif decide ((b.take (Int.toNat (b.length : Int))).length + [(s : Int)].length ≤ lim) && ((b.take (Int.toNat (b.length : Int))).isEmpty || ![(s : Int)].isEmpty) then (DT101f91io001110 N d ((b.take (Int.toNat (b.length : Int))) ++ [(s : Int)]) (A.set (Int.toNat (s : Int)) (wr .i64 (x8' - x9'))) ps t.1 t.2.1 t.2.2 sz).bind fun r12' =>
                        DL101f91io001110_2 N (DT101f91io001110 N d) (DL101f91io001110_1 N (DT101f91io001110 N d) m) b L (b.length : Int) ((L.length + 1 : Nat) : Int) (s : Int) r12'.2.1 r12'.2.2.2.2.2.1 r12'.2.2.1 r12'.2.2.2.1 r12'.2.2.2.2.1
                      else none)
                    else none)
                  else DL101f91io001110_2 N (DT101f91io001110 N d) (DL101f91io001110_1 N (DT101f91io001110 N d) m) b L (b.length : Int) ((L.length + 1 : Nat) : Int) (s : Int) ps sz t.1 t.2.1 t.2.2)
                else none)
              else none)
            else none) : Option R101f91io001110) =
            some ((), ps, ((((if p ≤ rm sz L s then pl sz ps.length r (b ++ [(s : Int)]) (up sz L s p) else []) ++ (List.range' (s + 1) e).flatMap fun s => if p ≤ rm sz L s then pl sz ps.length r (b ++ [(s : Int)]) (up sz L s p) else []).foldl bst t).1),
              ((((if p ≤ rm sz L s then pl sz ps.length r (b ++ [(s : Int)]) (up sz L s p) else []) ++ (List.range' (s + 1) e).flatMap fun s => if p ≤ rm sz L s then pl sz ps.length r (b ++ [(s : Int)]) (up sz L s p) else []).foldl bst t).2.1),
              ((((if p ≤ rm sz L s then pl sz ps.length r (b ++ [(s : Int)]) (up sz L s p) else []) ++ (List.range' (s + 1) e).flatMap fun s => if p ≤ rm sz L s then pl sz ps.length r (b ++ [(s : Int)]) (up sz L s p) else []).foldl bst t).2.2), sz, ()) := by
          intro A hA
          have hAs : A.set s (rm sz L s - p) = up sz L s p := by rw [hA]; rfl
          have hAl : s < A.length := by
            rw [hA]; split
            · simp; omega
            · omega
          have hAg : A[s] = rm sz L s := by
            subst hA
            by_cases he : s = L.length
            · subst he
              rw [rm_up_hi]
              simp
            · simp only [if_neg he]
              exact (rm_get (by omega)).symm
          have hAu : (up sz L s p)[s]'(by omega) = rm sz L s - p := by rw [up_get, if_pos rfl]
          rw [inB_nat hAl, cond_true, idx_nat hAl, Option.bind_some, idx_nat hb, Option.bind_some, cond_true, Option.bind_some, Int.toNat_natCast, hAg, hp1, wr_ok (by omega) (by omega), hAs, inB_nat (by omega), cond_true, idx_nat (by omega : s < (up sz L s p).length), Option.bind_some, hAu]
          unfold DL101f91io001110_2
          rw [wr_succ (by omega)]
          by_cases hf : p ≤ rm sz L s
          · rw [if_pos hf] at ht2
            rw [decide_eq_true (show rm sz L s - p ≥ 0 by omega), cond_true, if_pos hf, bounds_full, beq_self_eq_true, Bool.true_and, cond_true, Int.toNat_natCast, List.take_length, lim_dec (by omega)]
            simp only [List.isEmpty_cons, Bool.not_false, Bool.or_true, Bool.and_true, cond_true]
            have hch := h.child hb h1 (by omega) (by rw [hp1]; exact hf)
            rw [hp1] at hch
            rw [List.length_append] at ht2
            rw [ih _ _ hch (by rw [hul, mny_snoc]; omega) (by simp only [List.length_append, List.length_cons, List.length_nil]; exact hp2) d (by simp only [List.length_cons] at hd; omega) t ht (by omega), Option.bind_some, List.foldl_append]
            have hc := bst_cnt (pl sz ps.length r (b ++ [(s : Int)]) (up sz L s p)) t ht
            have := ihe (s + 1) hn1 m (by omega) ((pl sz ps.length r (b ++ [(s : Int)]) (up sz L s p)).foldl bst t) hc.1 (by omega)
            exact this
          · rw [if_neg hf, List.nil_append] at ht2
            rw [decide_eq_false (show ¬ rm sz L s - p ≥ 0 by omega), cond_false, if_neg hf, List.nil_append]
            exact ihe (s + 1) hn1 m (by omega) t ht ht2
        by_cases he : s = L.length
        · rw [show ((s : Int) == (L.length : Int)) = true by simp [he], cond_true, lim_dec (by omega), cond_true]
          exact fin _ (by rw [if_pos he])
        · rw [beq_false_of_ne (show (s : Int) ≠ (L.length : Int) by omega), cond_false]
          exact fin _ (by rw [if_neg he])
    have hpl : pl sz ps.length (p :: r) b L = (List.range' 0 (L.length + 1)).flatMap fun s => if p ≤ rm sz L s then pl sz ps.length r (b ++ [(s : Int)]) (up sz L s p) else [] := by
      rw [← hmin]; rfl
    rw [hpl] at ht2 ⊢
    exact loop (L.length + 1) 0 (by omega) N.1 (by have : N.1 = 1000000 := rfl; omega) t ht ht2
theorem bst_same {m : Int} : ∀ (l : List (List Int)) (f : List Int) (c : Int), (∀ q ∈ l, m ≤ mny q) → l.foldl bst (m, f, c) = (m, f, c + ((l.filter fun q => decide (mny q = m)).length : Int))
  | [], f, c, _ => by simp
  | q :: l, f, c, h => by
    have hq := h q (by simp)
    have ih := fun c => bst_same l f c (fun q hq => h q (by simp [hq]))
    rw [List.foldl_cons, List.filter_cons]
    by_cases e : mny q = m
    · have hb : bst (m, f, c) q = (m, f, c + 1) := by unfold bst; rw [if_neg (by simp only []; omega), if_pos e]
      rw [hb, ih, if_pos (by simpa using e), List.length_cons]
      congr 2
      omega
    · have hb : bst (m, f, c) q = (m, f, c) := by unfold bst; rw [if_neg (by simp only []; omega), if_neg e]
      rw [hb, ih, if_neg (by simpa using e)]
theorem bst_min {m : Int} : ∀ (l : List (List Int)) (t : Int × List Int × Int), (∀ q ∈ l, m ≤ mny q) → (∃ q ∈ l, mny q = m) → m < t.1 → l.foldl bst t = (m, (l.filter fun q => decide (mny q = m)).headD [], ((l.filter fun q => decide (mny q = m)).length : Int))
  | [], t, _, h, _ => by obtain ⟨q, hq, _⟩ := h; cases hq
  | q :: l, t, h, he, ht => by
    have hq := h q (by simp)
    rw [List.foldl_cons, List.filter_cons]
    by_cases e : mny q = m
    · have hb : bst t q = (m, q, 1) := by unfold bst; rw [if_pos (by omega), e]
      rw [hb, bst_same l q 1 (fun q hq => h q (by simp [hq])), if_pos (by simpa using e), List.headD_cons, List.length_cons]
      congr 2
      omega
    · rw [if_neg (by simpa using e)]
      refine bst_min l _ (fun q hq => h q (by simp [hq])) ?_ ?_
      · obtain ⟨x, hx, hxm⟩ := he
        rcases List.mem_cons.1 hx with rfl | hx
        · exact absurd hxm e
        · exact ⟨x, hx, hxm⟩
      · unfold bst
        split
        · simp only []; omega
        · split <;> exact ht
theorem apl_min {sz : Int} {ps : List Int} (hj : Job sz ps) : ∀ q ∈ apl sz ps ps.length, (fw sz ps : Int) ≤ mny q := fun q hq => by
  obtain ⟨h1, h2, h3⟩ := fw_spec hj
  have h0 := mny_nn q
  by_cases e : (fw sz ps : Int) ≤ mny q
  · exact e
  · have := apl_down (mo := (mny q).toNat) hq (by omega) (by have := apl_le hq; omega)
    rw [h3 _ (by omega)] at this
    cases this
theorem apl_fw {sz : Int} {ps : List Int} (hj : Job sz ps) : apl sz ps (fw sz ps) = (apl sz ps ps.length).filter fun q => decide (mny q = fw sz ps) := by
  obtain ⟨h1, h2, h3⟩ := fw_spec hj
  rw [apl_filter h2]
  refine List.filter_congr (fun q hq => ?_)
  have := apl_min hj q hq
  exact decide_eq_decide.2 (by omega)
/-- The law's best plan. -/
theorem best_eq {sz : Int} {ps : List Int} (hj : Job sz ps) : D52 N sz ps = some ((apl sz ps (fw sz ps)).headD [], (fw sz ps : Int), ((apl sz ps (fw sz ps)).length : Int)) := by
  obtain ⟨h1, h2, h3⟩ := fw_spec hj
  have h8 := hj.len
  have hcount := apl_count hj ps.length
  unfold D52 D90c91io001 D101f91io001110
  rw [wr_succ (by omega)]
  have hp := put_eq hj ps [] [] ⟨hj, by simp, by simp, by simp, by simp, by omega⟩ rfl rfl N.1 (by have : N.1 = 1000000 := rfl; omega) (((ps.length + 1 : Nat) : Int), [], 0) (Int.le_refl 0) (by unfold apl at hcount; simp only []; omega)
  simp only [] at hp
  rw [hp]
  simp only [Option.bind_some]
  obtain ⟨q, hq⟩ := List.exists_mem_of_ne_nil _ h1
  have hm := fw_mny hj hq
  have hmem : q ∈ apl sz ps ps.length := by rw [apl_fw hj] at hq; exact (List.mem_filter.1 hq).1
  have hb := bst_min (m := (fw sz ps : Int)) (apl sz ps ps.length) (((ps.length + 1 : Nat) : Int), [], 0) (apl_min hj) ⟨q, hmem, hm⟩ (by simp only []; omega)
  unfold apl at hb
  rw [hb]
  have := apl_fw hj
  unfold apl at this ⊢
  rw [this]
end Go.Proofs.YtgmonagekfjnmaaDoor
set_option linter.unusedVariables false
set_option linter.unusedSimpArgs false
set_option maxRecDepth 100000
namespace Go.Proofs.YtgmonagekfjnmaaDoor
open Go.Vi
/-D 53 -/
/-D 8 -/
end Go.Proofs.YtgmonagekfjnmaaDoor
set_option linter.unusedVariables false
set_option linter.unusedSimpArgs false
namespace Go.Proofs.YtgmonagekfjnmaaDoor
open Go.Vi
def goodC (s : Int) : Option (List Int) → Bool
  | some l => decide (l.length ≤ 20) && !l.isEmpty && l.all fun p => decide (1 ≤ p) && decide (s % p = 0) && l.all fun q => decide (p % q = 0) || decide (q % p = 0)
  | none => false
theorem chain_all : ∀ s : Fin 25, ∀ b : Fin 128, 1 ≤ s.val → goodC s.val (D89 N s.val b.val) = true := by decide +kernel
/-- Each one divides the one before it. -/
def Chn : Int → List Int → Prop
  | _, [] => True
  | s, p :: r => s % p = 0 ∧ Chn p r
instance Chn.dec : ∀ (s : Int) (l : List Int), Decidable (Chn s l)
  | _, [] => .isTrue trivial
  | s, p :: r => by
    unfold Chn
    have := Chn.dec p r
    exact inferInstance
/-- Lengths are a chain. -/
def Cmp (x y : Int) : Prop := x % y = 0 ∨ y % x = 0
def IsC (sz : Int) (ps : List Int) : Prop := (∀ p ∈ ps, sz % p = 0) ∧ ps.Pairwise Cmp
instance (x y : Int) : Decidable (Cmp x y) := inferInstanceAs (Decidable (_ ∨ _))
instance (sz : Int) (ps : List Int) : Decidable (IsC sz ps) := inferInstanceAs (Decidable (_ ∧ _))
theorem tmod_mod {a b : Int} (h : 0 ≤ a) : Int.tmod a b = a % b := Int.tmod_eq_emod_of_nonneg h
abbrev Stp := Int × Int × Int × Int × Int × Int × Int × Int × Int × Int × Int
abbrev ShS : Sh := .pair (.int .u8) (.pair (.int .u8) (.pair (.int .u8) (.pair (.int .u8) (.pair (.int .u8) (.pair (.int .u8) (.pair (.int .u8) (.pair (.int .u8) (.pair (.int .u8) (.pair (.int .u8) (.int .u8))))))))))
def By (x : Int) : Prop := 0 ≤ x ∧ x ≤ 255
structure StpOk (s : Stp) : Prop where
  size : By s.1
  many : By s.2.1
  chain : By s.2.2.1
  cuts : ∀ x ∈ [s.2.2.2.1, s.2.2.2.2.1, s.2.2.2.2.2.1, s.2.2.2.2.2.2.1, s.2.2.2.2.2.2.2.1, s.2.2.2.2.2.2.2.2.1, s.2.2.2.2.2.2.2.2.2.1, s.2.2.2.2.2.2.2.2.2.2], By x
theorem u8_rng {x : Int} (h : (Lit.int .u8 x).wf = true) : 0 ≤ x ∧ x ≤ 255 := by
  simpa [Lit.wf, IntKind.min, IntKind.max, IntKind.signed, IntKind.bits] using h
theorem by_wf {x : Int} (h : Wf (.int .u8) x) : By x := u8_rng h
theorem stp_ok {s : Stp} (h : Wf ShS s) : StpOk s := by
  obtain ⟨ha, hb, hc, h1, h2, h3, h4, h5, h6, h7, h8⟩ := h
  refine ⟨by_wf ha, by_wf hb, by_wf hc, fun x hx => ?_⟩
  simp only [List.mem_cons, List.not_mem_nil, or_false] at hx
  rcases hx with e | e | e | e | e | e | e | e <;> subst e
  · exact by_wf h1
  · exact by_wf h2
  · exact by_wf h3
  · exact by_wf h4
  · exact by_wf h5
  · exact by_wf h6
  · exact by_wf h7
  · exact by_wf h8
theorem pick_loop (n : Nat × Nat) (sz : Int) {cs lens : List Int} (hc : ∀ x ∈ cs, By x) (hl : lens ≠ []) (hll : lens.length ≤ 100) (h8 : cs.length ≤ 8) : ∀ (m k : Nat) (out : List Int), k ≤ cs.length → cs.length - k < m → out.length = k → (∀ x ∈ out, x ∈ lens) →
    ∃ ps, DL48_1 n m sz cs (cs.length : Int) (k : Int) lens out = some (sz, ps) ∧ ps.length = cs.length ∧ ∀ x ∈ ps, x ∈ lens
  | 0, k, out, _, h, _, _ => by omega
  | m + 1, k, out, hk, h, ho, hm => by
    rw [DL48_1_succ]
    unfold DF48_1
    have hpos : 0 < lens.length := List.length_pos_iff.2 hl
    by_cases hlt : k < cs.length
    · have hx := hc _ (List.getElem_mem hlt)
      unfold By at hx
      have hmod := Int.emod_nonneg cs[k] (show (lens.length : Int) ≠ 0 by omega)
      have hmod2 := Int.emod_lt_of_pos cs[k] (show (0 : Int) < lens.length by omega)
      have hi : (cs[k] % (lens.length : Int)).toNat < lens.length := by omega
      have hi2 : cs[k] % (lens.length : Int) = (((cs[k] % (lens.length : Int)).toNat : Nat) : Int) := by omega
      rw [dlt_t hlt, cond_true, idx_nat hlt, Option.bind_some, beq_false_of_ne (show (lens.length : Int) ≠ 0 by omega), cond_false, wr_ok (by omega) (by omega), tmod_mod hx.1, hi2, inB_nat hi, cond_true, idx_nat hi, Option.bind_some, lim_dec (by omega), cond_true, wr_succ (by omega)]
      exact pick_loop n sz hc hl hll h8 m (k + 1) _ (by omega) (by omega) (by simp [ho]) (fun x hx => by
        rcases List.mem_append.1 hx with hx | hx
        · exact hm x hx
        · rw [List.mem_singleton.1 hx]; exact List.getElem_mem _)
    · rw [dlt_f hlt, cond_false]
      exact ⟨out, rfl, by omega, hm⟩
theorem cuts_take {s : Stp} (h : StpOk s) {k : Nat} : ∀ x ∈ [s.2.2.2.1, s.2.2.2.2.1, s.2.2.2.2.2.1, s.2.2.2.2.2.2.1, s.2.2.2.2.2.2.2.1, s.2.2.2.2.2.2.2.2.1, s.2.2.2.2.2.2.2.2.2.1, s.2.2.2.2.2.2.2.2.2.2].take k, By x := fun x hx => h.cuts x (List.mem_of_mem_take hx)
theorem many_ok {s : Stp} (h : StpOk s) {most : Nat} (hm : most ≤ 8) : wr .i64 ((most : Int) + 1) = ((most + 1 : Nat) : Int) ∧ (((most + 1 : Nat) : Int) == 0) = false ∧ Int.tmod (wr .i64 s.2.1) ((most + 1 : Nat) : Int) = (((s.2.1 % ((most + 1 : Nat) : Int)).toNat : Nat) : Int) ∧ (s.2.1 % ((most + 1 : Nat) : Int)).toNat ≤ most := by
  have h1 := h.many
  unfold By at h1
  have hmod := Int.emod_nonneg s.2.1 (show ((most + 1 : Nat) : Int) ≠ 0 by omega)
  have hmod2 := Int.emod_lt_of_pos s.2.1 (show (0 : Int) < ((most + 1 : Nat) : Int) by omega)
  refine ⟨wr_succ (by omega), beq_false_of_ne (by omega), ?_, by omega⟩
  rw [wr_ok (by omega) (by omega), tmod_mod h1.1]
  omega
theorem fill_loop (n : Nat × Nat) (hn : 1000 ≤ n.1) {s : Stp} (h : StpOk s) {most : Nat} (hm : most ≤ 8) {sz : Int} (hs : 1 ≤ sz ∧ sz ≤ 24) : ∀ (m k : Nat) (lens : List Int), (k : Int) ≤ sz → sz - k < m → lens.length = k → (∀ x ∈ lens, 1 ≤ x ∧ x ≤ sz) →
    ∃ ps, DL48_2 n m most sz sz (k : Int) s.1 s.2.1 s.2.2.1 s.2.2.2.1 s.2.2.2.2.1 s.2.2.2.2.2.1 s.2.2.2.2.2.2.1 s.2.2.2.2.2.2.2.1 s.2.2.2.2.2.2.2.2.1 s.2.2.2.2.2.2.2.2.2.1 s.2.2.2.2.2.2.2.2.2.2 lens = some (sz, ps) ∧ ps.length ≤ most ∧ ∀ x ∈ ps, 1 ≤ x ∧ x ≤ sz
  | 0, k, lens, _, hh, _, _ => by omega
  | m + 1, k, lens, hk, hh, hl, hb => by
    rw [DL48_2_succ]
    unfold DF48_2
    by_cases hlt : (k : Int) < sz
    · rw [decide_eq_true hlt, cond_true, lim_dec (by omega), cond_true, wr_succ (by omega)]
      exact fill_loop n hn h hm hs m (k + 1) _ (by omega) (by omega) (by simp [hl]) (fun x hx => by
        rcases List.mem_append.1 hx with hx | hx
        · exact hb x hx
        · rw [List.mem_singleton.1 hx]; omega)
    · obtain ⟨e1, e2, e3, e4⟩ := many_ok h hm
      rw [decide_eq_false hlt, cond_false, e1, e2, cond_false, e3, bounds_hi (by omega), cond_true, Int.toNat_natCast]
      obtain ⟨ps, hp, hpl, hpm⟩ := pick_loop n sz (cs := [s.2.2.2.1, s.2.2.2.2.1, s.2.2.2.2.2.1, s.2.2.2.2.2.2.1, s.2.2.2.2.2.2.2.1, s.2.2.2.2.2.2.2.2.1, s.2.2.2.2.2.2.2.2.2.1, s.2.2.2.2.2.2.2.2.2.2].take (s.2.1 % ((most + 1 : Nat) : Int)).toNat) (lens := lens) (cuts_take h) (by intro e; rw [e] at hl; simp at hl; omega) (by omega) (by rw [List.length_take]; exact Nat.min_le_right _ _) n.1 0 [] (by omega) (by simp; omega) rfl (by simp)
      exact ⟨ps, hp, by rw [hpl, List.length_take]; omega, fun x hx => hb x (hpm x hx)⟩
/-- What a job by numbers is. -/
theorem made_ok {s : Stp} (h : StpOk s) {most : Nat} (hm : most ≤ 8) : ∃ sz ps, D48 N s most = some (sz, ps) ∧ Job sz ps ∧ ps.length ≤ most ∧ (s.2.2.1 % 2 = 1 → IsC sz ps) := by
  have h1 := h.size
  have h3 := h.chain
  unfold By at h1 h3
  obtain ⟨e1, e2, e3, e4⟩ := many_ok h hm
  have hsz : wr .i64 (1 + Int.tmod (wr .i64 s.1) 24) = 1 + s.1 % 24 := by
    rw [wr_ok (x := s.1) (by omega) (by omega), tmod_mod h1.1, wr_ok (by omega) (by omega)]
  have hb : wr .i64 (Int.tdiv (wr .i64 s.2.2.1) 2) = s.2.2.1 / 2 := by
    rw [wr_ok (x := s.2.2.1) (by omega) (by omega), Int.tdiv_eq_ediv_of_nonneg h3.1, wr_ok (by omega) (by omega)]
  unfold D48
  rw [show ((24 : Nat) == 0) = false from rfl, show ((2 : Nat) == 0) = false from rfl, cond_false, cond_false, hsz, tmod_mod h3.1]
  by_cases e : s.2.2.1 % 2 = 1
  · rw [show (s.2.2.1 % 2 == 1) = true by simpa using e, cond_true, cond_false, hb]
    have hg := chain_all ⟨(1 + s.1 % 24).toNat, by omega⟩ ⟨(s.2.2.1 / 2).toNat, by omega⟩ (by simp only []; omega)
    simp only [] at hg
    rw [show (((1 + s.1 % 24).toNat : Nat) : Int) = 1 + s.1 % 24 by omega, show (((s.2.2.1 / 2).toNat : Nat) : Int) = s.2.2.1 / 2 by omega] at hg
    cases hD : D89 N (1 + s.1 % 24) (s.2.2.1 / 2) with
    | none => rw [hD] at hg; cases hg
    | some lens =>
      rw [hD] at hg
      simp only [goodC, Bool.and_eq_true, decide_eq_true_eq, List.all_eq_true, Bool.or_eq_true, Bool.not_eq_true', List.isEmpty_eq_false_iff] at hg
      obtain ⟨⟨hg1, hg2⟩, hg3⟩ := hg
      rw [Option.bind_some, e1, e2, cond_false, e3, bounds_hi (by omega), cond_true, Int.toNat_natCast]
      obtain ⟨ps, hp, hpl, hpm⟩ := pick_loop N (1 + s.1 % 24) (cs := [s.2.2.2.1, s.2.2.2.2.1, s.2.2.2.2.2.1, s.2.2.2.2.2.2.1, s.2.2.2.2.2.2.2.1, s.2.2.2.2.2.2.2.2.1, s.2.2.2.2.2.2.2.2.2.1, s.2.2.2.2.2.2.2.2.2.2].take (s.2.1 % ((most + 1 : Nat) : Int)).toNat) (lens := lens) (cuts_take h) hg2 (by omega) (by rw [List.length_take]; exact Nat.min_le_right _ _) N.1 0 [] (by omega) (by have : N.1 = 1000000 := rfl; simp; omega) rfl (by simp)
      have hdiv : ∀ p ∈ lens, 1 ≤ p ∧ p ≤ 1 + s.1 % 24 ∧ (1 + s.1 % 24) % p = 0 := fun p hp => by
        have := (hg3 p hp).1
        exact ⟨this.1, Int.le_of_dvd (by omega) (Int.dvd_of_emod_eq_zero this.2), this.2⟩
      have hlen : ps.length ≤ most := by rw [hpl, List.length_take]; omega
      refine ⟨1 + s.1 % 24, ps, hp, ⟨by omega, by omega, by omega, fun p hp => ?_⟩, hlen, fun _ => ⟨fun p hp => (hdiv p (hpm p hp)).2.2, ?_⟩⟩
      · have := hdiv p (hpm p hp)
        exact ⟨this.1, this.2.1⟩
      · rw [List.pairwise_iff_forall_sublist]
        intro a b hab
        have ha := hpm a (hab.subset (by simp))
        have hb := hpm b (hab.subset (by simp))
        exact (hg3 a ha).2 b hb
  · rw [show (s.2.2.1 % 2 == 1) = false from beq_false_of_ne e, cond_false]
    obtain ⟨ps, hp, hpl, hpm⟩ := fill_loop N hN1 h hm (sz := 1 + s.1 % 24) ⟨by omega, by omega⟩ N.1 0 [] (by omega) (by have : N.1 = 1000000 := rfl; omega) rfl (by simp)
    exact ⟨1 + s.1 % 24, ps, hp, ⟨by omega, by omega, by omega, hpm⟩, hpl, fun h => absurd h e⟩
theorem pvS_fst {sz k : Int} {ps : List Int} (hj : Job sz ps) (hk : 0 ≤ k ∧ k ≤ sz / 2) : pvS sz ps (fst sz ps) k = if bnd sz ps k = fw sz ps then 0 else 14 := by
  unfold pvS
  have h1 := vld_pln.2 (fst_pln hj)
  have h2 : bdS sz ps k = (bnd sz ps k, 0) := by unfold bdS; rw [if_neg (by simpa using chk_job.2 hj), if_neg (by omega)]
  rw [h1, if_neg (by simp), h2]
  simp only [fst_mny hj]
  rw [if_neg (by simp)]
  by_cases e : bnd sz ps k = fw sz ps
  · rw [if_pos e, if_neg (by simpa using e)]
  · rw [if_neg e, if_pos e]
theorem bdS_in {sz k : Int} {ps : List Int} (hj : Job sz ps) (hk : 0 ≤ k ∧ k ≤ sz / 2) : bdS sz ps k = (bnd sz ps k, 0) := by unfold bdS; rw [if_neg (by simpa using chk_job.2 hj), if_neg (by omega)]
theorem bdS_out {sz k : Int} {ps : List Int} (hj : Job sz ps) (hk : k < 0 ∨ sz / 2 < k) : bdS sz ps k = (0, 1) := by unfold bdS; rw [if_neg (by simpa using chk_job.2 hj), if_pos hk]
theorem lawb_loop {sz : Int} {ps : List Int} (hj : Job sz ps) : ∀ (m d k : Nat) (W : Int), (k : Int) + d = sz / 2 + 1 → d < m → (W = -1 ∧ prS sz ps = prg sz ps (fw sz ps) d k) ∨ (0 ≤ W ∧ prS sz ps = (W, 0)) →
    DL10_1 N m sz ps (fst sz ps) (fw sz ps) W (sz / 2 + 1) (k : Int) = some true
  | 0, d, k, W, _, h, _ => by omega
  | m + 1, 0, k, W, hk, h, hI => by
    obtain ⟨e, h0, h12⟩ := half_ok ⟨hj.lo, hj.hi⟩
    have hlo := hj.lo
    rw [DL10_1_succ]
    unfold DF10_1
    have hpv : pvS sz ps (fst sz ps) (-1) = 1 := by
      unfold pvS
      rw [vld_pln.2 (fst_pln hj), if_neg (by simp), bdS_out hj (.inl (by omega)), if_pos (by simp)]
    rw [decide_eq_false (show ¬ (k : Int) < sz / 2 + 1 by omega), cond_false, Prove_eq, Option.bind_some, show ((2 : Nat) == 0) = false from rfl, cond_false, e, wr_ok (x := sz / 2 + 1) (by omega) (by omega), Bound_eq hN1, Option.bind_some, bdS_out hj (.inr (by omega)), Proves_eq hN1, hpv]
    simp only [bne_self_eq_false, beq_self_eq_true, cond_true, Option.bind_some, cond_false]
    rcases hI with ⟨h1, h2⟩ | ⟨h1, h2⟩
    · rw [h2, h1, decide_eq_true (by omega)]
      simp only [prg, beq_self_eq_true, cond_true, Option.bind_some, works_eq]
    · rw [h2, decide_eq_false (by omega)]
      simp only [cond_false, beq_self_eq_true, cond_true, Option.bind_some, works_eq]
  | m + 1, d + 1, k, W, hk, h, hI => by
    obtain ⟨e, h0, h12⟩ := half_ok ⟨hj.lo, hj.hi⟩
    have hlo := hj.lo
    have hk2 : 0 ≤ (k : Int) ∧ (k : Int) ≤ sz / 2 := by omega
    have hb := bound_le (fst_pln hj) hk2.1 hk2.2
    rw [fst_mny hj] at hb
    have ih := fun W hI => lawb_loop hj m d (k + 1) W (by omega) (by omega) hI
    have hprg : prg sz ps (fw sz ps) (d + 1) (k : Int) = if bnd sz ps k = fw sz ps then ((k : Int), 0) else prg sz ps (fw sz ps) d ((k + 1 : Nat) : Int) := rfl
    rw [hprg] at hI
    rw [DL10_1_succ]
    unfold DF10_1
    rw [decide_eq_true (show (k : Int) < sz / 2 + 1 by omega), cond_true, lbound_eq hN1 hj ⟨by omega, by omega⟩, Option.bind_some, Bound_eq hN1, Option.bind_some, bdS_in hj hk2, Proves_eq hN1, pvS_fst hj hk2, wr_succ (by omega)]
    simp only [bne_self_eq_false, beq_self_eq_true, cond_true, Option.bind_some]
    rw [decide_eq_false (show ¬ bnd sz ps k > fw sz ps by omega), cond_false]
    by_cases e2 : bnd sz ps k = fw sz ps
    · rw [if_pos e2] at hI ⊢
      rw [show (bnd sz ps k == (fw sz ps : Int)) = true by simpa using e2, cond_true]
      simp only [bne_self_eq_false, cond_false]
      rcases hI with ⟨h1, h2⟩ | ⟨h1, h2⟩
      · rw [decide_eq_true (show W < 0 by omega), cond_true]
        exact ih _ (.inr ⟨by omega, h2⟩)
      · rw [decide_eq_false (show ¬ W < 0 by omega), cond_false]
        exact ih _ (.inr ⟨h1, h2⟩)
    · rw [if_neg e2] at hI ⊢
      rw [beq_false_of_ne e2, cond_false]
      simp only [bne_self_eq_false, cond_false]
      exact ih _ hI
theorem bound_ok {s : Stp} (h : StpOk s) : S10 N s = some true := by
  rw [S10_D N rfl]
  unfold D10
  obtain ⟨sz, ps, h1, hj, _, _⟩ := made_ok h (most := 7) (by omega)
  obtain ⟨e, h0, h12⟩ := half_ok ⟨hj.lo, hj.hi⟩
  have e1 : D48 N s 7 = some (sz, ps) := h1
  rw [e1, Option.bind_some]
  simp only []
  rw [best_eq hj, Option.bind_some, show ((2 : Nat) == 0) = false from rfl, cond_false, e, wr_ok (x := sz / 2 + 1) (by omega) (by omega)]
  refine lawb_loop hj N.1 (sz / 2 + 1).toNat 0 (-1) (by omega) (by have : N.1 = 1000000 := rfl; omega) (.inl ⟨rfl, ?_⟩)
  unfold prS
  rw [if_neg (by simpa using chk_job.2 hj)]
  rfl
end Go.Proofs.YtgmonagekfjnmaaDoor
