/- Texts of this claim, joined: Sm to Sn. -/
import Derived.Test.YtgmonagekfjnmaaDoorQSheetBoundsCard1
set_option linter.unusedVariables false
set_option linter.unusedSimpArgs false
namespace Go.Proofs.YtgmonagekfjnmaaDoor
open Go.Vi
/-! Bounds. -/
def bal (sz k : Int) : List Int → Int
  | [] => 0
  | p :: r => (if sz - k < p ∨ sz < 2 * p then 1 else 0) + bal sz k r
def blf (sz k : Int) : List Int → Int
  | [] => 0
  | p :: r => (if sz - k < p then 0 else if sz < 2 * p then sz - p else 0) + blf sz k r
def bsm (sz k : Int) : List Int → Int
  | [] => 0
  | p :: r => (if sz - k < p ∨ sz < 2 * p then 0 else if k ≤ p then p else 0) + bsm sz k r
/-- A bound. -/
def bnd (sz : Int) (ps : List Int) (k : Int) : Int := bal sz k ps + (max (bsm sz k ps - blf sz k ps) 0 + sz - 1) / sz
theorem bound_loop (n : Nat × Nat) {sz k : Int} {ps : List Int} (hj : Job sz ps) (hk : 0 ≤ k ∧ k ≤ 24) : ∀ (m i : Nat) (a o : Int), i ≤ ps.length → ps.length - i < m → 0 ≤ a → a ≤ i → -24 * (i : Int) ≤ o → o ≤ 24 * i →
    DL87_1 n m sz k a o ps (ps.length : Int) (i : Int) = some (a + bal sz k (ps.drop i) + (max (o + bsm sz k (ps.drop i) - blf sz k (ps.drop i)) 0 + sz - 1) / sz)
  | 0, i, a, o, _, h, _, _, _, _ => by omega
  | m + 1, i, a, o, hi, h, ha, ha2, ho, ho2 => by
    have h8 := hj.len
    have hlo := hj.lo
    have hhi := hj.hi
    rw [DL87_1_succ]
    unfold DF87_1
    by_cases hlt : i < ps.length
    · have hp := hj.ok _ (List.getElem_mem hlt)
      rw [dlt_t hlt, cond_true, idx_nat hlt, Option.bind_some, drop_cons hlt]
      unfold DL87_2
      simp only [bal, blf, bsm]
      rw [wr_succ (by omega), wr_ok (x := sz - k) (by omega) (by omega), wr_ok (x := 2 * ps[i]) (by omega) (by omega), wr_ok (x := a + 1) (by omega) (by omega), wr_ok (x := sz - ps[i]) (by omega) (by omega), wr_ok (x := o - (sz - ps[i])) (by omega) (by omega), wr_ok (x := o + ps[i]) (by omega) (by omega)]
      have ih := fun a o h1 h2 h3 h4 => bound_loop n hj hk m (i + 1) a o (by omega) (by omega) h1 h2 h3 h4
      by_cases e1 : sz - k < ps[i]
      · rw [decide_eq_true (show ps[i] > sz - k from e1), cond_true, ih _ _ (by omega) (by omega) (by omega) (by omega), if_pos (.inl e1), if_pos e1, if_pos (.inl e1)]
        congr 2
        · omega
        · congr 2
          omega
      · rw [decide_eq_false (show ¬ ps[i] > sz - k from e1), cond_false, if_neg e1]
        by_cases e2 : sz < 2 * ps[i]
        · rw [decide_eq_true (show 2 * ps[i] > sz from e2), cond_true, ih _ _ (by omega) (by omega) (by omega) (by omega), if_pos (.inr e2), if_pos e2, if_pos (.inr e2)]
          congr 2
          · omega
          · congr 2
            omega
        · rw [decide_eq_false (show ¬ 2 * ps[i] > sz from e2), cond_false, if_neg (show ¬ (sz - k < ps[i] ∨ sz < 2 * ps[i]) by omega), if_neg e2, if_neg (show ¬ (sz - k < ps[i] ∨ sz < 2 * ps[i]) by omega)]
          by_cases e3 : k ≤ ps[i]
          · rw [decide_eq_true (show ps[i] ≥ k from e3), cond_true, ih _ _ (by omega) (by omega) (by omega) (by omega), if_pos e3]
            congr 2
            · omega
            · congr 2
              omega
          · rw [decide_eq_false (show ¬ ps[i] ≥ k from e3), cond_false, ih _ _ (by omega) (by omega) (by omega) (by omega), if_neg e3]
            congr 2
            · omega
            · congr 2
              omega
    · rw [dlt_f hlt, cond_false, List.drop_of_length_le (by omega)]
      simp only [bal, blf, bsm]
      have hmax : (if 0 > o then (0 : Int) else o) = max o 0 := by
        by_cases e : 0 > o
        · rw [if_pos e]; omega
        · rw [if_neg e]; omega
      rw [beq_false_of_ne (show sz ≠ 0 by omega), cond_false, hmax, wr_ok (x := max o 0 + sz) (by omega) (by omega), wr_ok (x := max o 0 + sz - 1) (by omega) (by omega), Int.tdiv_eq_ediv_of_nonneg (by omega)]
      have hd1 : 0 ≤ (max o 0 + sz - 1) / sz := Int.ediv_nonneg (by omega) (by omega)
      have hd2 : (max o 0 + sz - 1) / sz ≤ max o 0 + sz - 1 := Int.ediv_le_self _ (by omega)
      rw [wr_ok (x := (max o 0 + sz - 1) / sz) (by omega) (by omega), wr_ok (by omega) (by omega)]
      congr 2
      · omega
      · congr 2
        omega
theorem bound_eq {n : Nat × Nat} (hn : 1000 ≤ n.1) {sz k : Int} {ps : List Int} (hj : Job sz ps) (hk : 0 ≤ k ∧ k ≤ 24) : D87 n sz ps k = some (bnd sz ps k) := by
  unfold D87
  have := bound_loop n hj hk n.1 0 0 0 (by omega) (by have := hj.len; omega) (by omega) (by omega) (by omega) (by omega)
  rw [show ((0 : Nat) : Int) = 0 from rfl] at this
  rw [this, List.drop_zero]
  unfold bnd
  simp
theorem ceil_step {sz x : Int} (hs : 1 ≤ sz) (hx : 0 < x) : (max x 0 + sz - 1) / sz = 1 + (max (x - sz) 0 + sz - 1) / sz := by
  by_cases h : x ≤ sz
  · rw [show max (x - sz) 0 = 0 by omega, show max x 0 = x by omega, Int.ediv_eq_zero_of_lt (by omega) (by omega : 0 + sz - 1 < sz)]
    have e : x + sz - 1 = (x - 1) + sz * 1 := by omega
    rw [e, Int.add_mul_ediv_left _ _ (by omega), Int.ediv_eq_zero_of_lt (by omega) (by omega)]
    rfl
  · rw [show max (x - sz) 0 = x - sz by omega, show max x 0 = x by omega]
    have e : x + sz - 1 = (x - sz + sz - 1) + sz * 1 := by omega
    rw [e, Int.add_mul_ediv_left _ _ (by omega)]
    omega
theorem rbound_fin (n : Nat × Nat) {sz : Int} (hs : 1 ≤ sz ∧ sz ≤ 24) : ∀ (m : Nat) (v s l : Int), s - l < m → 0 ≤ v → v + (max (s - l) 0) ≤ 100000 → -10000 ≤ s → s ≤ 10000 → 0 ≤ l → l ≤ 9000 → 0 < m →
    DL88_3 n m sz v s l = some (v + (max (s - l) 0 + sz - 1) / sz)
  | 0, v, s, l, _, _, _, _, _, _, _, h0 => by omega
  | m + 1, v, s, l, h, hv, hv2, hs1, hs2, hl1, hl2, _ => by
    rw [DL88_3_succ]
    unfold DF88_3
    by_cases e : l < s
    · rw [decide_eq_true (show s > l from e), cond_true, wr_ok (x := v + 1) (by omega) (by omega), wr_ok (x := s - sz) (by omega) (by omega), rbound_fin n hs m (v + 1) (s - sz) l (by omega) (by omega) (by omega) (by omega) (by omega) (by omega) (by omega) (by omega), ceil_step hs.1 (show 0 < s - l by omega)]
      congr 1
      rw [show s - sz - l = s - l - sz by omega]
      omega
    · rw [decide_eq_false (show ¬ s > l from e), cond_false, show max (s - l) 0 = 0 by omega, show (0 + sz - 1) / sz = 0 from Int.ediv_eq_zero_of_lt (by omega) (by omega), Int.add_zero]
theorem rbound_loop (n : Nat × Nat) (hn : 1000 ≤ n.1) {sz k : Int} {ps : List Int} (hj : Job sz ps) (hk : 0 ≤ k ∧ k ≤ 24) : ∀ (m i : Nat) (a s l : Int), i ≤ ps.length → ps.length - i < m → 0 ≤ a → a ≤ i → 0 ≤ s → s ≤ 24 * i → 0 ≤ l → l ≤ 24 * i →
    DL88_1 n m sz ps k a s l (i : Int) = some (a + bal sz k (ps.drop i) + (max (s - l + bsm sz k (ps.drop i) - blf sz k (ps.drop i)) 0 + sz - 1) / sz)
  | 0, i, a, s, l, _, h, _, _, _, _, _, _ => by omega
  | m + 1, i, a, s, l, hi, h, ha, ha2, hs, hs2, hl, hl2 => by
    have h8 := hj.len
    have hlo := hj.lo
    have hhi := hj.hi
    rw [DL88_1_succ]
    unfold DF88_1
    by_cases hlt : i < ps.length
    · have hp := hj.ok _ (List.getElem_mem hlt)
      rw [dlt_t hlt, cond_true, idx_nat hlt, Option.bind_some, drop_cons hlt]
      unfold DL88_2
      simp only [bal, blf, bsm]
      rw [wr_succ (by omega), wr_ok (x := sz - k) (by omega) (by omega), wr_ok (x := 2 * ps[i]) (by omega) (by omega), wr_ok (x := a + 1) (by omega) (by omega), wr_ok (x := sz - ps[i]) (by omega) (by omega), wr_ok (x := l + (sz - ps[i])) (by omega) (by omega), wr_ok (x := s + ps[i]) (by omega) (by omega)]
      have ih := fun a s l h1 h2 h3 h4 h5 h6 => rbound_loop n hn hj hk m (i + 1) a s l (by omega) (by omega) h1 h2 h3 h4 h5 h6
      by_cases e1 : sz - k < ps[i]
      · rw [decide_eq_true (show ps[i] > sz - k from e1), cond_true, ih _ _ _ (by omega) (by omega) (by omega) (by omega) (by omega) (by omega), if_pos (.inl e1), if_pos e1, if_pos (.inl e1)]
        congr 2
        · omega
        · congr 2
          omega
      · rw [decide_eq_false (show ¬ ps[i] > sz - k from e1), cond_false, if_neg e1]
        by_cases e2 : sz < 2 * ps[i]
        · rw [decide_eq_true (show 2 * ps[i] > sz from e2), cond_true, ih _ _ _ (by omega) (by omega) (by omega) (by omega) (by omega) (by omega), if_pos (.inr e2), if_pos e2, if_pos (.inr e2)]
          congr 2
          · omega
          · congr 2
            omega
        · rw [decide_eq_false (show ¬ 2 * ps[i] > sz from e2), cond_false, if_neg (show ¬ (sz - k < ps[i] ∨ sz < 2 * ps[i]) by omega), if_neg e2, if_neg (show ¬ (sz - k < ps[i] ∨ sz < 2 * ps[i]) by omega)]
          by_cases e3 : k ≤ ps[i]
          · rw [decide_eq_true (show ps[i] ≥ k from e3), cond_true, ih _ _ _ (by omega) (by omega) (by omega) (by omega) (by omega) (by omega), if_pos e3]
            congr 2
            · omega
            · congr 2
              omega
          · rw [decide_eq_false (show ¬ ps[i] ≥ k from e3), cond_false, ih _ _ _ (by omega) (by omega) (by omega) (by omega) (by omega) (by omega), if_neg e3]
            congr 2
            · omega
            · congr 2
              omega
    · rw [dlt_f hlt, cond_false, List.drop_of_length_le (by omega), rbound_fin n ⟨hlo, hhi⟩ n.1 a s l (by omega) (by omega) (by omega) (by omega) (by omega) (by omega) (by omega) (by omega)]
      simp only [bal, blf, bsm]
      congr 2
      · omega
      · congr 2
        omega
theorem rbound_eq {n : Nat × Nat} (hn : 1000 ≤ n.1) {sz k : Int} {ps : List Int} (hj : Job sz ps) (hk : 0 ≤ k ∧ k ≤ 24) : D88 n sz ps k = some (bnd sz ps k) := by
  unfold D88
  have := rbound_loop n hn hj hk n.1 0 0 0 0 (by omega) (by have := hj.len; omega) (by omega) (by omega) (by omega) (by omega) (by omega) (by omega)
  rw [show ((0 : Nat) : Int) = 0 from rfl] at this
  rw [this, List.drop_zero]
  unfold bnd
  simp
theorem half_ok {sz : Int} (h : 1 ≤ sz ∧ sz ≤ 24) : wr .i64 (Int.tdiv sz 2) = sz / 2 ∧ 0 ≤ sz / 2 ∧ sz / 2 ≤ 12 := by
  rw [Int.tdiv_eq_ediv_of_nonneg (by omega)]
  exact ⟨wr_ok (by omega) (by omega), by omega, by omega⟩
def bdS (sz : Int) (ps : List Int) (k : Int) : Int × Int := if chk sz ps ≠ 0 then (0, chk sz ps) else if k < 0 ∨ sz / 2 < k then (0, 1) else (bnd sz ps k, 0)
theorem Bound_eq {n : Nat × Nat} (hn : 1000 ≤ n.1) (sz : Int) (ps : List Int) (k : Int) : D42 n sz ps k = some (bdS sz ps k) := by
  unfold D42 bdS
  rw [Check_eq hn, Option.bind_some]
  by_cases h : chk sz ps = 0
  · have hj := chk_job.1 h
    obtain ⟨e, h0, h12⟩ := half_ok ⟨hj.lo, hj.hi⟩
    rw [h, bne_self_eq_false, cond_false, if_neg (by simp), e]
    by_cases h1 : k < 0
    · rw [decide_eq_true h1, if_pos (.inl h1)]
      rfl
    · rw [decide_eq_false h1]
      simp only [beq_self_eq_true, cond_true, show ((2 : Nat) == 0) = false from rfl, cond_false, Option.bind_some]
      by_cases h2 : sz / 2 < k
      · rw [decide_eq_true (show k > sz / 2 from h2), if_pos (.inr h2), cond_true]
      · rw [decide_eq_false (show ¬ k > sz / 2 from h2), if_neg (by omega), cond_false, bound_eq hn hj ⟨by omega, by omega⟩, Option.bind_some]
  · rw [show (chk sz ps != 0) = true by simpa using h, cond_true, if_pos h]
theorem rBound_eq {n : Nat × Nat} (hn : 1000 ≤ n.1) (sz : Int) (ps : List Int) (k : Int) : D43 n sz ps k = some (bdS sz ps k) := by
  unfold D43 bdS
  rw [rCheck_eq hn, Option.bind_some]
  by_cases h : chk sz ps = 0
  · have hj := chk_job.1 h
    obtain ⟨e, h0, h12⟩ := half_ok ⟨hj.lo, hj.hi⟩
    rw [h, if_neg (by simp), e, in_eq]
    simp only [beq_self_eq_true, cond_true, show ((2 : Nat) == 0) = false from rfl, cond_false, Option.bind_some]
    by_cases h2 : k < 0 ∨ sz / 2 < k
    · rw [decide_eq_false (by omega), if_pos h2]
      rfl
    · rw [decide_eq_true (by omega), if_neg h2, rbound_eq hn hj ⟨by omega, by omega⟩]
      rfl
  · rw [show (chk sz ps == 0) = false by simpa using h, show (chk sz ps != 0) = true by simpa using h]
    rw [if_pos h]
    rfl
/-- The smallest k whose bound is the fewest sheets. -/
def prg (sz : Int) (ps : List Int) (w : Int) : Nat → Int → Int × Int
  | 0, _ => (0, 12)
  | d + 1, k => if bnd sz ps k = w then (k, 0) else prg sz ps w d (k + 1)
def prS (sz : Int) (ps : List Int) : Int × Int := if chk sz ps ≠ 0 then (0, chk sz ps) else prg sz ps (fw sz ps) (sz / 2 + 1).toNat 0
theorem prove_loop {n : Nat × Nat} (hn : 1000 ≤ n.1) {sz : Int} {ps : List Int} (hj : Job sz ps) (w : Int) : ∀ (m d k : Nat), (k : Int) + d = sz / 2 + 1 → d < m → DL44_1 n m sz ps w (sz / 2 + 1) (k : Int) = some (prg sz ps w d k)
  | 0, d, k, _, h => by omega
  | m + 1, 0, k, hk, h => by
    rw [DL44_1_succ]
    unfold DF44_1
    rw [decide_eq_false (show ¬ (k : Int) < sz / 2 + 1 by omega), cond_false]
    rfl
  | m + 1, d + 1, k, hk, h => by
    have hlo := hj.lo
    have hhi := hj.hi
    rw [DL44_1_succ]
    unfold DF44_1 prg
    rw [decide_eq_true (show (k : Int) < sz / 2 + 1 by omega), cond_true, bound_eq hn hj ⟨by omega, by omega⟩, Option.bind_some]
    by_cases e : bnd sz ps k = w
    · rw [e, beq_self_eq_true, cond_true, if_pos rfl]
    · rw [beq_false_of_ne e, cond_false, if_neg e, wr_succ (by omega), prove_loop hn hj w m d (k + 1) (by omega) (by omega)]
      rfl
theorem Prove_eq (sz : Int) (ps : List Int) : D44 N sz ps = some (prS sz ps) := by
  unfold D44 prS
  rw [Check_eq hN1, Option.bind_some]
  by_cases h : chk sz ps = 0
  · have hj := chk_job.1 h
    obtain ⟨e, h0, h12⟩ := half_ok ⟨hj.lo, hj.hi⟩
    rw [h, bne_self_eq_false, cond_false, if_neg (by simp), least_eq hj, Option.bind_some, show ((2 : Nat) == 0) = false from rfl, cond_false, e, wr_ok (by omega) (by omega)]
    exact prove_loop hN1 hj _ N.1 _ 0 (by omega) (by have : N.1 = 1000000 := rfl; omega)
  · rw [show (chk sz ps != 0) = true by simpa using h, cond_true, if_pos h]
theorem rprove_loop {n : Nat × Nat} (hn : 1000 ≤ n.1) {sz : Int} {ps : List Int} (hj : Job sz ps) (w : Int) : ∀ (m d k : Nat), (k : Int) + d = sz / 2 + 1 → d < m → DL45_1 n m sz ps w (k : Int) = some (prg sz ps w d k)
  | 0, d, k, _, h => by omega
  | m + 1, 0, k, hk, h => by
    obtain ⟨e, h0, h12⟩ := half_ok ⟨hj.lo, hj.hi⟩
    rw [DL45_1_succ]
    unfold DF45_1
    rw [show ((2 : Nat) == 0) = false from rfl, cond_false, e, decide_eq_false (show ¬ (k : Int) ≤ sz / 2 by omega), cond_false]
    rfl
  | m + 1, d + 1, k, hk, h => by
    obtain ⟨e, h0, h12⟩ := half_ok ⟨hj.lo, hj.hi⟩
    rw [DL45_1_succ]
    unfold DF45_1 prg
    rw [show ((2 : Nat) == 0) = false from rfl, cond_false, e, decide_eq_true (show (k : Int) ≤ sz / 2 by omega), cond_true, rbound_eq hn hj ⟨by omega, by omega⟩, Option.bind_some]
    by_cases e : bnd sz ps k = w
    · rw [e, beq_self_eq_true, cond_true, if_pos rfl]
    · rw [beq_false_of_ne e, cond_false, if_neg e, wr_succ (by omega), rprove_loop hn hj w m d (k + 1) (by omega) (by omega)]
      rfl
theorem rProve_eq (sz : Int) (ps : List Int) : D45 N sz ps = some (prS sz ps) := by
  unfold D45 prS
  rw [rFewest_eq, Option.bind_some]
  unfold fwS
  by_cases h : chk sz ps = 0
  · have hj := chk_job.1 h
    obtain ⟨e, h0, h12⟩ := half_ok ⟨hj.lo, hj.hi⟩
    rw [if_neg (by simpa using h), if_neg (by simpa using h)]
    simp only [bne_self_eq_false, cond_false]
    exact rprove_loop hN1 hj _ N.1 _ 0 (by omega) (by have : N.1 = 1000000 := rfl; omega)
  · rw [if_pos h, if_pos h]
    simp only [show (chk sz ps != 0) = true by simpa using h, cond_true]
def pvS (sz : Int) (ps l : List Int) (k : Int) : Int := if vld sz ps l ≠ 0 then vld sz ps l else if (bdS sz ps k).2 ≠ 0 then (bdS sz ps k).2 else if (bdS sz ps k).1 ≠ mny l then 14 else 0
theorem Proves_eq {n : Nat × Nat} (hn : 1000 ≤ n.1) (sz : Int) (ps l : List Int) (k : Int) : D46 n sz ps l k = some (pvS sz ps l k) := by
  unfold D46 pvS
  rw [sheets_eq hn, Option.bind_some]
  unfold shts
  by_cases h : vld sz ps l = 0
  · have hl := lf_len sz ps l
    rw [if_neg (by simpa using h), if_neg (by simpa using h)]
    simp only [bne_self_eq_false, cond_false]
    rw [Bound_eq hn, Option.bind_some, hl]
    by_cases h2 : (bdS sz ps k).2 = 0
    · rw [h2, bne_self_eq_false, cond_false, if_neg (by simp)]
      by_cases h3 : (bdS sz ps k).1 = mny l
      · rw [h3, bne_self_eq_false, cond_false, if_neg (by simp)]
      · rw [show ((bdS sz ps k).1 != mny l) = true by simpa using h3, cond_true, if_pos h3]
    · rw [show ((bdS sz ps k).2 != 0) = true by simpa using h2, cond_true, if_pos h2]
  · rw [if_pos h, if_pos h]
    simp only [show (vld sz ps l != 0) = true by simpa using h, cond_true]
theorem rProves_eq {n : Nat × Nat} (hn : 1000 ≤ n.1) (sz : Int) (ps l : List Int) (k : Int) : D47 n sz ps l k = some (pvS sz ps l k) := by
  unfold D47 pvS
  rw [rValid_eq hn, Option.bind_some]
  by_cases h : vld sz ps l = 0
  · have hp := vld_pln.1 h
    have := hp.len
    have := hp.job.len
    rw [h, if_neg (by simp), bne_self_eq_false, cond_false, rBound_eq hn, Option.bind_some]
    by_cases h2 : (bdS sz ps k).2 = 0
    · rw [h2, if_neg (by simp), many_eq hn (by omega) hp.rng]
      simp only [beq_self_eq_true, cond_true, Option.bind_some]
      by_cases h3 : (bdS sz ps k).1 = mny l
      · rw [h3, bne_self_eq_false, cond_false, if_neg (by simp)]
      · rw [show ((bdS sz ps k).1 != mny l) = true by simpa using h3, cond_true, if_pos h3]
    · rw [if_pos h2, show ((bdS sz ps k).2 == 0) = false from beq_false_of_ne h2]
      rfl
  · rw [show (vld sz ps l != 0) = true by simpa using h, cond_true, if_pos h]
def divT : List Int := [0, 2, 6, 10, 22, 34, 78, 130, 278, 522, 1062, 2050, 4190, 8194, 16518, 32810, 65814, 131074, 262734, 524290, 1049654, 2097290, 4196358, 8388610, 16781662]
def dbit (x p : Int) : Bool := (wr .u32 (BitVec.ofInt (IntKind.bits .u32) (Int.fdiv x (2 ^ (min (Int.toNat p) (IntKind.bits .u32)))) &&& BitVec.ofInt (IntKind.bits .u32) 1).toNat) == 0
theorem div_tab : ∀ s : Fin 25, ∀ p : Fin 25, 1 ≤ s.val → 1 ≤ p.val → dbit (divT.getD s.val 0) (p.val : Int) = !decide (s.val % p.val = 0) := by decide +kernel
theorem div_bit {s p : Int} (hs : 1 ≤ s ∧ s ≤ 24) (hp : 1 ≤ p ∧ p ≤ 24) : ∃ x, idx divT s = some x ∧ dbit x p = !decide (s % p = 0) := by
  have h := div_tab ⟨s.toNat, by omega⟩ ⟨p.toNat, by omega⟩ (by simp only []; omega) (by simp only []; omega)
  simp only [] at h
  have hl : s.toNat < divT.length := by
    have : divT.length = 25 := rfl
    omega
  refine ⟨divT[s.toNat], idx_int (by omega) hl, ?_⟩
  rw [List.getD_eq_getElem?_getD, List.getElem?_eq_getElem hl, Option.getD_some, show ((p.toNat : Nat) : Int) = p by omega] at h
  rw [h]
  congr 1
  apply decide_eq_decide.2
  have e1 : (s.toNat : Int) = s := by omega
  have e2 : (p.toNat : Int) = p := by omega
  constructor
  · intro hh
    rw [← e1, ← e2]
    exact_mod_cast hh
  · intro hh
    rw [← e1, ← e2] at hh
    exact_mod_cast hh
/-- Each one divides the one before it. -/
def Chn : Int → List Int → Prop
  | _, [] => True
  | s, p :: r => s % p = 0 ∧ Chn p r
instance Chn.dec : ∀ (s : Int) (l : List Int), Decidable (Chn s l)
  | _, [] => .isTrue trivial
  | s, p :: r => by
    unfold Chn
    have := Chn.dec p r
    exact inferInstance
theorem chain_loop (n : Nat × Nat) {ps : List Int} (hb : ∀ p ∈ ps, 1 ≤ p ∧ p ≤ 24) {o : List Int} (ho : ∀ i ∈ o, 0 ≤ i ∧ i < ps.length) (hl : o.length ≤ 8) : ∀ (m k : Nat) (s : Int), k ≤ o.length → o.length - k < m → 1 ≤ s ∧ s ≤ 24 →
    DL40_1 n m s ps (o.length : Int) (k : Int) o = some (decide (Chn s ((o.drop k).map (pc ps))), 0)
  | 0, k, s, _, h, _ => by omega
  | m + 1, k, s, hk, h, hs => by
    rw [DL40_1_succ]
    unfold DF40_1
    by_cases hlt : k < o.length
    · have hi := ho _ (List.getElem_mem hlt)
      have hp := hb _ (pc_mem hi.1 hi.2)
      obtain ⟨x, hx, hd⟩ := div_bit hs hp
      rw [dlt_t hlt, cond_true, inB_nat hlt, cond_true, idx_nat hlt, Option.bind_some]
      rw [show idx ([0, 2, 6, 10, 22, 34, 78, 130, 278, 522, 1062, 2050, 4190, 8194, 16518, 32810, 65814, 131074, 262734, 524290, 1049654, 2097290, 4196358, 8388610, 16781662] : List Int) s = some x from hx, Option.bind_some, idx_pc hi.1 hi.2, Option.bind_some, decide_eq_false (by omega), cond_false, Option.bind_some, drop_cons hlt, List.map_cons]
      rw [show ((wr .u32 (BitVec.ofInt (IntKind.bits .u32) (Int.fdiv x (2 ^ (min (Int.toNat (pc ps o[k])) (IntKind.bits .u32)))) &&& BitVec.ofInt (IntKind.bits .u32) 1).toNat) == 0) = !decide (s % pc ps o[k] = 0) from hd, wr_succ (by omega), chain_loop n hb ho hl m (k + 1) _ (by omega) (by omega) hp]
      by_cases e : s % pc ps o[k] = 0
      · rw [decide_eq_true e, Bool.not_true, cond_false]
        congr 2
        apply decide_eq_decide.2
        exact ⟨fun h => ⟨e, h⟩, fun h => h.2⟩
      · rw [decide_eq_false e, Bool.not_false, cond_true]
        congr 2
        symm
        apply decide_eq_false
        exact fun hh => e hh.1
    · rw [dlt_f hlt, cond_false, List.drop_of_length_le (by omega)]
      rfl
/-- Lengths are a chain. -/
def Cmp (x y : Int) : Prop := x % y = 0 ∨ y % x = 0
def IsC (sz : Int) (ps : List Int) : Prop := (∀ p ∈ ps, sz % p = 0) ∧ ps.Pairwise Cmp
instance (x y : Int) : Decidable (Cmp x y) := inferInstanceAs (Decidable (_ ∨ _))
instance (sz : Int) (ps : List Int) : Decidable (IsC sz ps) := inferInstanceAs (Decidable (_ ∧ _))
theorem mod_trans {a b c : Int} (h1 : a % b = 0) (h2 : b % c = 0) : a % c = 0 :=
  Int.emod_eq_zero_of_dvd (Int.dvd_trans (Int.dvd_of_emod_eq_zero h2) (Int.dvd_of_emod_eq_zero h1))
theorem chn_iff : ∀ (l : List Int) (s : Int), Chn s l ↔ (∀ p ∈ l, s % p = 0) ∧ l.Pairwise (fun x y => x % y = 0)
  | [], s => by simp [Chn]
  | p :: r, s => by
    unfold Chn
    rw [chn_iff r p, List.pairwise_cons]
    constructor
    · rintro ⟨h1, h2, h3⟩
      refine ⟨fun q hq => ?_, h2, h3⟩
      rcases List.mem_cons.1 hq with rfl | hq
      · exact h1
      · exact mod_trans h1 (h2 q hq)
    · rintro ⟨h1, h2, h3⟩
      exact ⟨h1 p (by simp), h2, h3⟩
theorem chn_fall {s : Int} {l : List Int} (hb : ∀ p ∈ l, 1 ≤ p) (hf : l.Pairwise (fun x y => y ≤ x)) : Chn s l ↔ IsC s l := by
  rw [chn_iff]
  unfold IsC
  constructor
  · rintro ⟨h1, h2⟩
    exact ⟨h1, h2.imp (fun h => .inl h)⟩
  · rintro ⟨h1, h2⟩
    refine ⟨h1, ?_⟩
    have : ∀ {l : List Int}, (∀ p ∈ l, 1 ≤ p) → l.Pairwise (fun x y => y ≤ x) → l.Pairwise Cmp → l.Pairwise (fun x y => x % y = 0) := by
      intro l
      induction l with
      | nil => intros; exact List.Pairwise.nil
      | cons x r ih =>
        intro hb hf h2
        rw [List.pairwise_cons] at hf h2 ⊢
        refine ⟨fun y hy => ?_, ih (fun p hp => hb p (by simp [hp])) hf.2 h2.2⟩
        have h3 := hf.1 y hy
        have hx := hb x (by simp)
        have hy1 := hb y (by simp [hy])
        rcases h2.1 y hy with h | h
        · exact h
        · have := Int.le_of_dvd (by omega) (Int.dvd_of_emod_eq_zero h)
          have e : x = y := by omega
          rw [e, Int.emod_self]
    exact this hb hf h2
theorem cmp_symm {x y : Int} (h : Cmp x y) : Cmp y x := Or.symm h
theorem isC_perm {s : Int} {a b : List Int} (h : a.Perm b) : IsC s a ↔ IsC s b := by
  unfold IsC
  rw [h.pairwise_iff cmp_symm]
  constructor
  · rintro ⟨h1, h2⟩
    exact ⟨fun p hp => h1 p (h.mem_iff.2 hp), h2⟩
  · rintro ⟨h1, h2⟩
    exact ⟨fun p hp => h1 p (h.mem_iff.1 hp), h2⟩
theorem map_pc (ps : List Int) : ((List.range ps.length).map fun i : Nat => (i : Int)).map (pc ps) = ps := by
  apply List.ext_getElem
  · simp
  · intro i h1 h2
    simp only [List.getElem_map, List.getElem_range, pc, Int.toNat_natCast]
    rw [List.getD_eq_getElem?_getD, List.getElem?_eq_getElem h2, Option.getD_some]
theorem fal_rng (ps : List Int) : ∀ i ∈ fal ps, 0 ≤ i ∧ i < ps.length := fun i hi => by
  obtain ⟨k, hk, rfl⟩ := List.mem_map.1 ((fal_perm ps).mem_iff.1 hi)
  have := List.mem_range.1 hk
  omega
theorem fal_len (ps : List Int) : (fal ps).length = ps.length := by
  rw [(fal_perm ps).length_eq]; simp
theorem fal_map (ps : List Int) : ((fal ps).map (pc ps)).Perm ps := by
  have := (fal_perm ps).map (pc ps)
  rwa [map_pc] at this
theorem fal_down (ps : List Int) : ((fal ps).map (pc ps)).Pairwise (fun x y => y ≤ x) := by
  rw [List.pairwise_map]
  exact (fal_sort ps).imp (fun h => by unfold Fbf at h; omega)
def chS (sz : Int) (ps : List Int) : Bool × Int := if chk sz ps ≠ 0 then (false, chk sz ps) else (decide (IsC sz ps), 0)
theorem Chain_eq {n : Nat × Nat} (hn : 1000 ≤ n.1) (sz : Int) (ps : List Int) : D40 n sz ps = some (chS sz ps) := by
  unfold D40 chS
  rw [Check_eq hn, Option.bind_some]
  by_cases h : chk sz ps = 0
  · have hj := chk_job.1 h
    have hb : ∀ s ∈ ps, 1 ≤ s ∧ s ≤ 24 := fun s hs => by have := hj.ok s hs; have := hj.hi; omega
    have hl := fal_len ps
    have h8 := hj.len
    rw [h, bne_self_eq_false, cond_false, if_neg (by simp), fall_eq hn hb hj.len, Option.bind_some]
    have := chain_loop n hb (fal_rng ps) (by omega) n.1 0 sz (by omega) (by omega) ⟨hj.lo, hj.hi⟩
    rw [show ((0 : Nat) : Int) = 0 from rfl, List.drop_zero] at this
    rw [this]
    congr 2
    apply decide_eq_decide.2
    rw [chn_fall (fun p hp => (hb p ((fal_map ps).mem_iff.1 hp)).1) (fal_down ps), isC_perm (fal_map ps)]
  · rw [show (chk sz ps != 0) = true by simpa using h, cond_true, if_pos h]
theorem tmod_mod {a b : Int} (h : 0 ≤ a) : Int.tmod a b = a % b := Int.tmod_eq_emod_of_nonneg h
theorem rchain_in (n : Nat × Nat) (f1 : Int → List Int → Int → Option R41) (sz : Int) {ps : List Int} (hb : ∀ p ∈ ps, 1 ≤ p ∧ p ≤ 24) {i : Nat} (hi : i < ps.length) (h8 : ps.length ≤ 8) : ∀ (m k : Nat), k ≤ i → i - k < m →
    DL41_2 n f1 m sz ps (i : Int) (k : Int) = if ∀ q ∈ (ps.take i).drop k, Cmp ps[i] q then f1 sz ps ((i + 1 : Nat) : Int) else some (false, 0)
  | 0, k, _, h => by omega
  | m + 1, k, hk, h => by
    rw [DL41_2_succ]
    unfold DF41_2
    by_cases hlt : k < i
    · have hkp : k < ps.length := by omega
      have hk2 : k < (ps.take i).length := by rw [List.length_take]; omega
      have h1 := hb _ (List.getElem_mem hi)
      have h2 := hb _ (List.getElem_mem hkp)
      have ih := rchain_in n f1 sz hb hi h8 m (k + 1) (by omega) (by omega)
      rw [dlt_t hlt, cond_true, idx_nat hi, Option.bind_some, idx_nat hkp, Option.bind_some, beq_false_of_ne (show ps[k] ≠ 0 by omega), cond_false, tmod_mod (by omega), wr_succ (by omega), ih, drop_cons hk2, List.getElem_take]
      generalize (ps.take i).drop (k + 1) = t at *
      generalize ps[k] = y at *
      generalize ps[i] = x at *
      by_cases e1 : x % y = 0
      · rw [e1]
        simp only [bne_self_eq_false, show (false == true) = false from rfl, cond_false, Option.bind_some]
        have : Cmp x y := .inl e1
        simp [this]
      · rw [show (x % y != 0) = true by simpa using e1]
        simp only [beq_self_eq_true, cond_true, Option.bind_some, beq_false_of_ne (show x ≠ 0 by omega), cond_false, tmod_mod (show 0 ≤ y by omega)]
        by_cases e2 : y % x = 0
        · rw [e2]
          have : Cmp x y := .inr e2
          simp [this]
        · rw [show (y % x != 0) = true by simpa using e2, cond_true, if_neg]
          intro hh
          rcases hh y (by simp) with h | h
          · exact e1 h
          · exact e2 h
    · rw [dlt_f hlt, cond_false, wr_succ (by omega), List.drop_of_length_le (by rw [List.length_take]; omega), if_pos (by simp)]
theorem rchain_loop {n : Nat × Nat} (hn : 1000 ≤ n.1) {sz : Int} {ps : List Int} (hj : Job sz ps) : ∀ (m k : Nat), k ≤ ps.length → ps.length - k < m → (∀ p ∈ ps.take k, sz % p = 0) → (ps.take k).Pairwise Cmp →
    DL41_1 n m sz ps (k : Int) = some (decide (IsC sz ps), 0)
  | 0, k, _, h, _, _ => by omega
  | m + 1, k, hk, h, h1, h2 => by
    have h8 := hj.len
    have hb : ∀ s ∈ ps, 1 ≤ s ∧ s ≤ 24 := fun s hs => by have := hj.ok s hs; have := hj.hi; omega
    rw [DL41_1_succ]
    unfold DF41_1
    by_cases hlt : k < ps.length
    · have hp := hb _ (List.getElem_mem hlt)
      rw [dlt_t hlt, cond_true, idx_nat hlt, Option.bind_some, beq_false_of_ne (show ps[k] ≠ 0 by omega), cond_false, tmod_mod (by have := hj.lo; omega)]
      by_cases e1 : sz % ps[k] = 0
      · rw [e1, bne_self_eq_false, cond_false]
        have := rchain_in n (DL41_1 n m) sz hb hlt h8 n.1 0 (by omega) (by omega)
        rw [show ((0 : Nat) : Int) = 0 from rfl, List.drop_zero] at this
        refine Eq.trans this ?_
        by_cases e2 : ∀ q ∈ ps.take k, Cmp ps[k] q
        · rw [if_pos e2]
          refine rchain_loop hn hj m (k + 1) (by omega) (by omega) (fun p hp => ?_) ?_
          · rw [take_snoc hlt] at hp
            rcases List.mem_append.1 hp with hp | hp
            · exact h1 p hp
            · rw [List.mem_singleton.1 hp]; exact e1
          · rw [take_snoc hlt, List.pairwise_append]
            refine ⟨h2, List.pairwise_singleton _ _, fun x hx y hy => ?_⟩
            rw [List.mem_singleton.1 hy]
            exact cmp_symm (e2 x hx)
        · rw [if_neg e2, decide_eq_false]
          intro hc
          refine e2 (fun q hq => ?_)
          have h3 := hc.2
          rw [← List.take_append_drop k ps, List.pairwise_append] at h3
          exact cmp_symm (h3.2.2 q hq ps[k] (by rw [drop_cons hlt]; exact List.mem_cons_self))
      · rw [show (sz % ps[k] != 0) = true by simpa using e1, cond_true, decide_eq_false]
        intro hc
        exact e1 (hc.1 _ (List.getElem_mem hlt))
    · rw [List.take_of_length_le (by omega)] at h1 h2
      rw [dlt_f hlt, cond_false, decide_eq_true ⟨h1, h2⟩]
theorem rChain_eq {n : Nat × Nat} (hn : 1000 ≤ n.1) (sz : Int) (ps : List Int) : D41 n sz ps = some (chS sz ps) := by
  unfold D41 chS
  rw [rCheck_eq hn, Option.bind_some]
  by_cases h : chk sz ps = 0
  · have hj := chk_job.1 h
    rw [h, bne_self_eq_false, cond_false, if_neg (by simp)]
    exact rchain_loop hn hj n.1 0 (by omega) (by have := hj.len; omega) (by simp) (by simp)
  · rw [show (chk sz ps != 0) = true by simpa using h, cond_true, if_pos h]
theorem bounds_ok (sz : Int) (ps l : List Int) (x : Int) : S6 N sz ps l x = some true := by
  rw [S6_D N rfl]
  unfold D6
  have w := works_eq
  by_cases h1 : 40 < ps.length
  · rw [decide_eq_true (show (ps.length : Int) > 40 by omega)]
    simp only [show (true == false) = false from rfl, cond_false, cond_true, Option.bind_some, w]
  · rw [decide_eq_false (show ¬ (ps.length : Int) > 40 by omega)]
    by_cases h2 : 40 < l.length
    · rw [decide_eq_true (show (l.length : Int) > 40 by omega)]
      simp only [beq_self_eq_true, cond_true, Option.bind_some, w]
    · rw [decide_eq_false (show ¬ (l.length : Int) > 40 by omega)]
      simp only [beq_self_eq_true, cond_true, Option.bind_some, cond_false]
      rw [Chain_eq hN1, Option.bind_some, rChain_eq hN1, Option.bind_some, Bound_eq hN1, Option.bind_some, rBound_eq hN1, Option.bind_some, Prove_eq, Option.bind_some, rProve_eq, Option.bind_some]
      simp only [beq_self_eq_true, cond_true, Option.bind_some, Proves_eq hN1, rProves_eq hN1, w]
end Go.Proofs.YtgmonagekfjnmaaDoor
