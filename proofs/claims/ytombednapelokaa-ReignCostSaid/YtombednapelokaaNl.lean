/- Reign: plain laws: ReignCost. -/
import Derived.Test.YtombednapelokaaNk
import Derived.Test.YtombednapelokaaViX
set_option linter.unusedVariables false
set_option linter.unusedSimpArgs false
namespace Go.Proofs.Ytombednapelokaa
open Go.Vi
/-! ### Are two rows of fractions the same? -/
theorem same_loop (n : Nat × Nat) {a b : List Frc} (hl : a.length = b.length) (h8 : a.length ≤ 1000) : ∀ (m k : Nat), k ≤ a.length → a.length - k < m → DL51_1 n m a b (k : Int) = some (decide (a.drop k = b.drop k))
  | 0, k, _, h => by omega
  | m + 1, k, hk, h => by
    rw [DL51_1_succ]
    unfold DF51_1
    by_cases hlt : k < a.length
    · have hlb : k < b.length := by omega
      rw [show decide ((k : Int) < (a.length : Int)) = true by simpa using hlt, cond_true, idx_nat hlt, idx_nat hlb]
      simp only [Option.bind_some]
      have ih := same_loop n hl h8 m (k + 1) hlt (by omega)
      rw [List.drop_eq_getElem_cons hlt, List.drop_eq_getElem_cons hlb]
      by_cases c : a[k] = b[k]
      · rw [c]
        simp only [beq_self_eq_true, Bool.and_self, Bool.not_true, cond_false]
        rw [show wr .i64 ((k : Int) + 1) = ((k + 1 : Nat) : Int) by rw [wr_ok (by omega) (by omega)]; omega, ih]
        by_cases hh : a.drop (k + 1) = b.drop (k + 1)
        · rw [decide_eq_true hh, decide_eq_true (by rw [hh])]
        · rw [decide_eq_false hh, decide_eq_false (fun h => hh (List.cons.inj h).2)]
      · have : ((a[k].1 == b[k].1) && ((a[k].2 == b[k].2) && true)) = false := by
          rw [Bool.and_true, Bool.and_eq_false_iff]
          by_cases c1 : a[k].1 = b[k].1
          · refine .inr ?_
            simp only [beq_eq_false_iff_ne]
            exact fun c2 => c (Prod.ext c1 c2)
          · exact .inl (by simpa using c1)
        rw [this, decide_eq_false (fun h => c (List.cons.inj h).1)]
        rfl
    · rw [show decide ((k : Int) < (a.length : Int)) = false by simpa using hlt, cond_false, List.drop_of_length_le (by omega), List.drop_of_length_le (by omega)]
      simp
theorem same_eq {n : Nat × Nat} (hn : 2000 ≤ n.1) {a b : List Frc} (hl : a.length = b.length) (h8 : a.length ≤ 1000) : D51 n a b = some (decide (a = b)) := by
  unfold D51
  rw [show (((a.length : Int)) != (b.length : Int)) = false by simp; omega, cond_false]
  have := same_loop n hl h8 n.1 0 (by omega) (by omega)
  simpa using this
/-! ### Whole values, proved -/
def w1 (Z : List Int) : List Frc := Z.map fun z => (z, 1)
theorem w1_len (Z : List Int) : (w1 Z).length = Z.length := by simp [w1]
theorem w1_get {Z : List Int} {k : Nat} (h : k < (w1 Z).length) (h' : k < Z.length) : (w1 Z)[k] = (Z[k], 1) := by simp [w1]
theorem add_whole {p num : Int} (h1 : p.natAbs ≤ 1000000) (h2 : num.natAbs ≤ 1000000) : D80 N5 (p, 1) num 1 = some (p + num, 1) := by
  unfold D80 D105
  have hg := gcd_loop N5 N5.1 1 1 (by show 1 < 100000000000000000000; omega)
  have h11 : Nat.gcd 1 1 = 1 := rfl
  rw [h11] at hg
  have hg' : DL105_1 N5 N5.1 1 1 = some 1 := hg
  rw [hg']
  simp only [Option.bind_some, show ((1 : Int) == 0) = false from rfl, cond_false, show Int.tdiv 1 1 = 1 from rfl]
  rw [wr_ok (x := 1) (by omega) (by omega), Int.mul_one, Int.mul_one, wr_ok (x := p) (by omega) (by omega), wr_ok (x := num) (by omega) (by omega), wr_ok (x := p + num) (by omega) (by omega), show (1 : Int) * 1 = 1 from rfl, wr_ok (x := 1) (by omega) (by omega)]
  have := reducedZ_eq (n := N5) (by decide) (a := p + num) (b := 1) (by omega) (by omega) (by omega)
  rw [show (((1 : Nat) : Int)) = 1 from rfl] at this
  rw [this]
  simp [redZ]
section
variable {l : List Src} (hg : Good l) {Z : List Int} (hZ : Z.length = l.length) (hr : ∀ z ∈ Z, 0 ≤ z ∧ z ≤ 100)
include hg hZ hr
theorem dz_bound : ∀ k, k ≤ l.length → (dz l Z k).natAbs ≤ 900 * k
  | 0, _ => by simp [dz]
  | k + 1, h => by
    have ih := dz_bound k (by omega)
    have hk : k < l.length := by omega
    have hkz : k < Z.length := by omega
    have hs := hg.all l[k] (List.getElem_mem hk)
    have hz := hr Z[k] (List.getElem_mem hkz)
    simp only [dz, List.getD_eq_getElem?_getD, List.getElem?_eq_getElem hk, List.getElem?_eq_getElem hkz, Option.getD_some]
    have h1 : (l[k].2 * (l[k].1 - Z[k])).natAbs ≤ 9 * 100 := by
      rw [Int.natAbs_mul]
      exact Nat.mul_le_mul (by omega) (by omega)
    omega
theorem whole_rests : ∀ (m k : Nat) (out : List Frc), k ≤ l.length → l.length - k < m → out.length = k → (∀ j (h : j < out.length), out[j] = (dz l Z (j + 1), 1)) →
    ∃ R, R.length = l.length ∧ DL83_1 N5 m (w1 Z) l (l.length : Int) (k : Int) (dz l Z k) 1 out = some R ∧ ∀ j (h : j < R.length), R[j] = (dz l Z (j + 1), 1)
  | 0, k, _, _, h, _, _ => by omega
  | m + 1, k, out, hk, h, ho, hst => by
    have hle := hg.le
    rw [DL83_1_succ]
    unfold DF83_1
    by_cases hlt : k < l.length
    · have hkz : k < Z.length := by omega
      have hkw : k < (w1 Z).length := by rw [w1_len]; omega
      have hs := hg.all l[k] (List.getElem_mem hlt)
      have hz := hr Z[k] (List.getElem_mem hkz)
      have hb := dz_bound hg hZ hr k (by omega)
      rw [show decide ((k : Int) < (l.length : Int)) = true by simpa using hlt, cond_true, idx_nat hlt, idx_nat hkw, w1_get hkw hkz]
      simp only [Option.bind_some]
      have h1 : (l[k].2 * (l[k].1 - Z[k])).natAbs ≤ 9 * 100 := by
        rw [Int.natAbs_mul]
        exact Nat.mul_le_mul (by omega) (by omega)
      have hnx : dz l Z (k + 1) = dz l Z k + l[k].2 * (l[k].1 - Z[k]) := by
        simp only [dz, List.getD_eq_getElem?_getD, List.getElem?_eq_getElem hlt, List.getElem?_eq_getElem hkz, Option.getD_some]
      rw [Int.mul_one, wr_ok (x := l[k].1) (by omega) (by omega), wr_ok (x := l[k].1 - Z[k]) (by omega) (by omega), wr_ok (x := l[k].2 * (l[k].1 - Z[k])) (by omega) (by omega), add_whole (by omega) (by omega), ← hnx]
      simp only [Option.bind_some]
      rw [show decide (out.length + [(dz l Z (k + 1), (1 : Int))].length ≤ lim) = true by simp [lim]; omega, cond_true, show wr .i64 ((k : Int) + 1) = ((k + 1 : Nat) : Int) by rw [wr_ok (by omega) (by omega)]; omega]
      exact whole_rests m (k + 1) (out ++ [(dz l Z (k + 1), 1)]) (by omega) (by omega) (by simp; omega) (fun j hj => by
        by_cases hjk : j < out.length
        · rw [List.getElem_append_left hjk]
          exact hst j hjk
        · have : j = k := by simp at hj; omega
          subst this
          rw [List.getElem_append_right (by omega)]
          simp [ho])
    · rw [show decide ((k : Int) < (l.length : Int)) = false by simpa using hlt, cond_false]
      exact ⟨out, by omega, rfl, hst⟩
def Cnd (l : List Src) (Z : List Int) (j : Nat) : Prop := 0 ≤ dz l Z (j + 1) ∧ (j + 1 = l.length ∨ Z.getD j 0 < Z.getD (j + 1) 0 → dz l Z (j + 1) ≤ 0)
open Classical in
theorem last_whole {R : List Frc} (hR : R.length = l.length) (hRj : ∀ j (h : j < R.length), R[j] = (dz l Z (j + 1), 1)) : ∀ (m k : Nat), k ≤ l.length → l.length - k < m → DL39_1 N5 m l (w1 Z) (l.length : Int) (k : Int) R = some (if ∀ j, k ≤ j → j < l.length → Cnd l Z j then 0 else 14)
  | 0, k, _, h => by omega
  | m + 1, k, hk, h => by
    have h8 := hg.le
    rw [DL39_1_succ]
    unfold DF39_1
    by_cases hlt : k < l.length
    · have hltR : k < R.length := by omega
      have hkz : k < Z.length := by omega
      have hkw : k < (w1 Z).length := by rw [w1_len]; omega
      have hin : inB (k : Int) R.length = true := by simp [inB]; omega
      have hw : wr .i64 ((k : Int) + 1) = ((k + 1 : Nat) : Int) := by rw [wr_ok (by omega) (by omega)]; omega
      have ih := last_whole hR hRj m (k + 1) (by omega) (by omega)
      have hz := hr Z[k] (List.getElem_mem hkz)
      have hcomb : (∀ j, k ≤ j → j < l.length → Cnd l Z j) ↔ Cnd l Z k ∧ ∀ j, k + 1 ≤ j → j < l.length → Cnd l Z j := by
        constructor
        · exact fun h => ⟨h k (Nat.le_refl _) hlt, fun j h1 h2 => h j (by omega) h2⟩
        · rintro ⟨h1, h2⟩ j h3 h4
          by_cases hj : j = k
          · rw [hj]; exact h1
          · exact h2 j (by omega) h4
      have fin : ∀ c : Bool, (c = true ↔ ¬ Cnd l Z k) → (bif c then some 14 else DL39_1 N5 m l (w1 Z) (l.length : Int) ((k + 1 : Nat) : Int) R) = some (if ∀ j, k ≤ j → j < l.length → Cnd l Z j then 0 else 14) := by
        intro c hc
        cases c with
        | true =>
          rw [if_neg (fun h => (hc.1 rfl) (hcomb.1 h).1)]
          rfl
        | false =>
          have h1 : Cnd l Z k := Classical.byContradiction fun h => by have := hc.2 h; cases this
          rw [cond_false, ih]
          by_cases h2 : ∀ j, k + 1 ≤ j → j < l.length → Cnd l Z j
          · rw [if_pos h2, if_pos (hcomb.2 ⟨h1, h2⟩)]
          · rw [if_neg h2, if_neg (fun h => h2 (hcomb.1 h).2)]
      rw [show decide ((k : Int) < (l.length : Int)) = true by simpa using hlt]
      simp only [cond_true, hin, idx_nat hltR, idx_nat hkw, Option.bind_some, hw, hRj k hltR, w1_get hkw hkz]
      by_cases hend : k + 1 = l.length
      · rw [show (((k + 1 : Nat) : Int) == (l.length : Int)) = true by simp; omega]
        simp only [show (true == false) = false from rfl, cond_false, Option.bind_some, show (true == true) = true from rfl, cond_true, orB]
        refine fin _ ?_
        simp only [Bool.or_eq_true, decide_eq_true_eq, Cnd, hend, true_or, forall_const]
        omega
      · have hlt2 : k + 1 < Z.length := by omega
        have hltw : k + 1 < (w1 Z).length := by rw [w1_len]; omega
        have hz2 := hr Z[k + 1] (List.getElem_mem hlt2)
        have b1 : Bd (Z[k], 1) := badB_Bd (by simp [badB]; omega)
        have b2 : Bd (Z[k + 1], 1) := badB_Bd (by simp [badB]; omega)
        rw [show (((k + 1 : Nat) : Int) == (l.length : Int)) = false by simp; omega]
        simp only [show (false == false) = true from rfl, cond_true, Option.bind_some, idx_nat hltw, w1_get hltw hlt2, cmpB_eq N5 b1 b2, lt_neg, andB, orB]
        have e1 : Z.getD k 0 = Z[k] := by rw [List.getD_eq_getElem?_getD, List.getElem?_eq_getElem hkz, Option.getD_some]
        have e2 : Z.getD (k + 1) 0 = Z[k + 1] := by rw [List.getD_eq_getElem?_getD, List.getElem?_eq_getElem hlt2, Option.getD_some]
        refine fin _ ⟨fun hb => ?_, fun hn => ?_⟩
        · simp only [ltB, Int.mul_one, Bool.or_eq_true, Bool.and_eq_true, decide_eq_true_eq] at hb
          rintro ⟨g1, g2⟩
          rcases hb with hb | ⟨hb, hb2⟩
          · omega
          · have hb' : Z[k] - Z[k + 1] < (0 : Int) := hb
            have := g2 (.inr (by rw [e1, e2]; omega))
            omega
        · simp only [ltB, Int.mul_one, Bool.or_eq_true, Bool.and_eq_true, decide_eq_true_eq]
          by_cases d0 : dz l Z (k + 1) < 0
          · exact .inl d0
          · refine .inr ?_
            have hnn : ¬ (k + 1 = l.length ∨ Z.getD k 0 < Z.getD (k + 1) 0 → dz l Z (k + 1) ≤ 0) := fun h => hn ⟨by omega, h⟩
            have hc : k + 1 = l.length ∨ Z.getD k 0 < Z.getD (k + 1) 0 := Classical.byContradiction fun h => hnn fun h' => absurd h' h
            have hd : ¬ dz l Z (k + 1) ≤ 0 := fun h => hnn fun _ => h
            rw [e1, e2] at hc
            have h5 : Z[k] - Z[k + 1] < (0 : Int) := by omega
            exact ⟨h5, by omega⟩
    · rw [show decide ((k : Int) < (l.length : Int)) = false by simpa using hlt, cond_false, if_pos (fun j h1 h2 => by omega)]
variable {K : List (Nat × Nat)} (hK : Blk l K l.length)
include hK
omit hr in
/-- Values that are the nearest ones have sums of rests as they should be. -/
theorem dz_near (hm : ∀ x ∈ K, ∀ i (h : i < Z.length), x.1 ≤ i → i < x.2 → Z[i] * (Mx l x.1 x.2).2 = (Mx l x.1 x.2).1) : ∀ k, ∀ x ∈ K, x.1 ≤ k → k ≤ x.2 → dz l Z k * (Mx l x.1 x.2).2 = dv l (Mx l x.1 x.2) x.1 k
  | 0, x, hx, x1, x2 => by
    have : x.1 = 0 := by omega
    rw [this, dv_self]
    simp [dz]
  | k + 1, x, hx, x1, x2 => by
    have ho := hg.ok
    have main : ∀ y ∈ K, y.1 ≤ k → k < y.2 → dz l Z (k + 1) * (Mx l y.1 y.2).2 = dv l (Mx l y.1 y.2) y.1 (k + 1) := by
      intro y hy y1 y2
      have ih := dz_near hm k y hy y1 (by omega)
      have hry := hK.ch.rng y hy
      have hk : k < l.length := by omega
      have hkz : k < Z.length := by omega
      rw [rest_step _ hk (hg.all l[k] (List.getElem_mem hk)), ← ih]
      simp only [dz, List.getD_eq_getElem?_getD, List.getElem?_eq_getElem hk, List.getElem?_eq_getElem hkz, Option.getD_some]
      have := hm y hy k hkz y1 y2
      generalize (Mx l y.1 y.2).2 = q at *
      rw [← this]
      grind
    by_cases hxk : x.1 ≤ k
    · exact main x hx hxk (by omega)
    · have hrx := hK.ch.rng x hx
      have hx1 : x.1 = k + 1 := by omega
      obtain ⟨y, hy, y1, y2⟩ := hK.ch.cover k (by omega)
      have hry := hK.ch.rng y hy
      have hy2 : y.2 = k + 1 := by
        rcases K_next hK.ch hy hx y1 y2 (by omega) (by omega) with h | h
        · rw [h] at hx1
          omega
        · exact h.1
      have h1 := main y hy y1 y2
      rw [← hy2, dv_mean ho hry.1 hry.2] at h1
      have F := Mx_Fr ho hry.1 hry.2
      have h2 : dz l Z y.2 = 0 := by
        rcases Int.mul_eq_zero.1 h1 with h | h
        · exact h
        · have := F.dp
          omega
      rw [hx1, dv_self, ← hy2, h2]
      simp
omit hr in
theorem cnd_near (hm : ∀ x ∈ K, ∀ i (h : i < Z.length), x.1 ≤ i → i < x.2 → Z[i] * (Mx l x.1 x.2).2 = (Mx l x.1 x.2).1) : ∀ j, j < l.length → Cnd l Z j := by
  intro j hj
  have ho := hg.ok
  obtain ⟨x, hx, x1, x2⟩ := hK.ch.cover j hj
  have hrx := hK.ch.rng x hx
  have F := Mx_Fr ho hrx.1 hrx.2
  have h1 := dz_near hg hZ hK hm (j + 1) x hx (by omega) (by omega)
  have h2 := hK.loc x hx (j + 1) (by omega) (by omega)
  refine ⟨?_, fun hc => ?_⟩
  · refine Int.nonneg_of_mul_nonneg_left (b := (Mx l x.1 x.2).2) ?_ F.dp
    omega
  · have hend : j + 1 = x.2 := by
      rcases Nat.lt_or_ge (j + 1) x.2 with h3 | h3
      · exfalso
        have hj1 : j + 1 < Z.length := by omega
        have hj0 : j < Z.length := by omega
        have e1 := hm x hx j hj0 x1 x2
        have e2 := hm x hx (j + 1) hj1 (by omega) h3
        have e3 : Z[j] = Z[j + 1] := Int.eq_of_mul_eq_mul_right (Int.ne_of_gt F.dp) (e1.trans e2.symm)
        rcases hc with hc | hc
        · omega
        · rw [List.getD_eq_getElem?_getD, List.getD_eq_getElem?_getD, List.getElem?_eq_getElem hj0, List.getElem?_eq_getElem hj1, Option.getD_some, Option.getD_some] at hc
          omega
      · omega
    rw [hend, dv_mean ho hrx.1 hrx.2] at h1
    rw [hend]
    rcases Int.mul_eq_zero.1 h1 with h | h
    · omega
    · have := F.dp
      omega
open Classical in
theorem proves_whole (hup : Z.Pairwise (· ≤ ·)) : D39 N5 l (w1 Z) = some (if ∀ x ∈ K, ∀ i (h : i < Z.length), x.1 ≤ i → i < x.2 → Z[i] * (Mx l x.1 x.2).2 = (Mx l x.1 x.2).1 then 0 else 14) := by
  have h8 := hg.le
  have hpos := hg.pos
  have hlw := w1_len Z
  have hbad : ∀ f ∈ w1 Z, badB f = false := by
    intro f hf
    obtain ⟨z, hz, rfl⟩ := List.mem_map.1 hf
    have := hr z hz
    simp [badB]
    omega
  have hbd : ∀ f ∈ w1 Z, Bd f := fun f hf => badB_Bd (hbad f hf)
  have hany : (w1 Z).any badB = false := by
    rw [List.any_eq_false]
    intro f hf
    rw [hbad f hf]
    simp
  have hupg : ∀ i j, i ≤ j → j < l.length → Z.getD i 0 ≤ Z.getD j 0 := by
    intro i j hij hj
    rw [List.getD_eq_getElem?_getD, List.getD_eq_getElem?_getD, List.getElem?_eq_getElem (show i < Z.length by omega), List.getElem?_eq_getElem (show j < Z.length by omega), Option.getD_some, Option.getD_some]
    rcases Nat.lt_or_ge i j with h | h
    · exact List.pairwise_iff_getElem.1 hup i j (by omega) (by omega) h
    · have : i = j := by omega
      subst this
      exact Int.le_refl _
  have hUp : Up (w1 Z) := by
    intro j hj
    have h1 : j < Z.length := by omega
    have h2 : j + 1 < Z.length := by omega
    rw [w1_get hj h2, w1_get (by omega) h1]
    have := List.pairwise_iff_getElem.1 hup j (j + 1) h1 h2 (by omega)
    unfold ltB
    simp only [decide_eq_false_iff_not]
    omega
  obtain ⟨b, s1, s2⟩ := sorted_eq (n := N5) (by decide) hbd (by omega) (by omega)
  have hbt := s2.2 hUp
  subst hbt
  obtain ⟨R, r1, r2, r3⟩ := whole_rests hg hZ hr N5.1 0 [] (by omega) (by show _ < 100000000000000000000; omega) rfl (by simp)
  have h83 : D83 N5 l (w1 Z) = some R := by
    unfold D83
    exact r2
  have hl := last_whole hg hZ hr r1 r3 N5.1 0 (by omega) (by show _ < 100000000000000000000; omega)
  have hiff : (∀ j, 0 ≤ j → j < l.length → Cnd l Z j) ↔ ∀ x ∈ K, ∀ i (h : i < Z.length), x.1 ≤ i → i < x.2 → Z[i] * (Mx l x.1 x.2).2 = (Mx l x.1 x.2).1 := by
    constructor
    · intro h x hx i hi x1 x2
      have := kkt hg hK hupg (fun k hk => by
        cases k with
        | zero => exact Int.le_refl _
        | succ k => exact (h k (by omega) (by omega)).1) (by
        obtain ⟨k, hk⟩ : ∃ k, l.length = k + 1 := ⟨l.length - 1, by omega⟩
        have h1 := h k (by omega) (by omega)
        rw [hk]
        have := h1.2 (.inl hk.symm)
        have := h1.1
        omega) (fun k hk hc => by
        have h1 := h k (by omega) (by omega)
        have := h1.2 (.inr hc)
        have := h1.1
        omega) hx x1 x2
      rw [List.getD_eq_getElem?_getD, List.getElem?_eq_getElem hi, Option.getD_some] at this
      exact this
    · exact fun h j _ hj => cnd_near hg hZ hK h j hj
  unfold D39
  rw [chk_eq (n := N5) (by decide), good_chk hg]
  simp only [Option.bind_some, bne_self_eq_false, cond_false]
  rw [show ((((w1 Z).length : Int)) != (l.length : Int)) = false by simp; omega, cond_false, anybad_eq (n := N5) (by decide) (by omega), hany]
  simp only [Option.bind_some, cond_false, s1, Bool.not_true, h83, r1]
  have hl' : DL39_1 N5 N5.1 l (w1 Z) (l.length : Int) 0 R = _ := hl
  rw [hl']
  by_cases c : ∀ j, 0 ≤ j → j < l.length → Cnd l Z j
  · rw [if_pos c, if_pos (hiff.1 c)]
  · rw [if_neg c, if_neg (fun h => c (hiff.2 h))]
end
/-! ### Where they fall -/
theorem falls_spec : ∀ (l : List Src) (k : Int), (falls l k = (0, 13) ∧ (l.map Prod.fst).Pairwise (· ≤ ·)) ∨ ∃ j : Nat, falls l k = (k + j, 0) ∧ ∃ h : j + 1 < l.length, l[j + 1].1 < l[j].1
  | [], k => .inl ⟨rfl, by simp⟩
  | [a], k => .inl ⟨rfl, by simp⟩
  | a :: b :: r, k => by
    by_cases c : b.1 < a.1
    · refine .inr ⟨0, ?_, by simp, c⟩
      simp only [falls, if_pos c]
      simp
    · simp only [falls, if_neg c]
      rcases falls_spec (b :: r) (k + 1) with ⟨h1, h2⟩ | ⟨j, h1, h2, h3⟩
      · refine .inl ⟨h1, ?_⟩
        rw [List.map_cons, List.pairwise_cons]
        refine ⟨fun y hy => ?_, h2⟩
        rw [List.map_cons] at h2 hy
        rcases List.mem_cons.1 hy with rfl | hy
        · omega
        · have := (List.pairwise_cons.1 h2).1 y hy
          omega
      · refine .inr ⟨j + 1, ?_, by simpa using h2, by simpa using h3⟩
        rw [h1]
        simp only [Prod.mk.injEq, and_true]
        omega
/-- The law's loop for falls. -/
noncomputable abbrev LB (f : Int) (s : Sh8.den) (l : List Src) (V : List Frc) (P R : Int) (num den i e : Int) (m : Nat) (fall k : Int) : Option R14 :=
  DL14_3 N5 m f num den i e fall ((l.length : Int) - 1) k s.1 s.2.1 s.2.2.1 s.2.2.2.1 s.2.2.2.2.1 s.2.2.2.2.2.1 s.2.2.2.2.2.2.1 s.2.2.2.2.2.2.2 l V P R
section
variable {l : List Src} (hg : Good l) (V : List Frc) (f : Int) (s : Sh8.den) (P R num den i e : Int)
include hg
theorem fl_found {fall : Int} (hf : 0 ≤ fall) : ∀ (m k : Nat), k < l.length → l.length - k < m + 1 → LB f s l V P R num den i e (m + 1) fall (k : Int) = LB f s l V P R num den i e 1 fall ((l.length : Int) - 1)
  | 0, k, hk, h => by
    have : (k : Int) = (l.length : Int) - 1 := by omega
    rw [this]
  | m + 1, k, hk, h => by
    by_cases hlt : k + 1 < l.length
    · have ih := fl_found hf m (k + 1) hlt (by omega)
      have h8 := hg.le
      unfold LB at ih ⊢
      rw [← ih, DL14_3_succ]
      unfold DF14_3 DL14_4
      rw [show decide ((k : Int) < (l.length : Int) - 1) = true by simp only [decide_eq_true_eq]; omega, cond_true, show decide (fall < 0) = false by simp only [decide_eq_false_iff_not]; omega]
      simp only [show (false == true) = false from rfl, cond_false, Option.bind_some]
      rw [show wr .i64 ((k : Int) + 1) = ((k + 1 : Nat) : Int) by rw [wr_ok (by omega) (by omega)]; omega]
    · have : (k : Int) = (l.length : Int) - 1 := by omega
      rw [this]
      unfold LB
      rw [DL14_3_succ N5 (m + 1), DL14_3_succ N5 0]
      unfold DF14_3
      rw [show decide ((l.length : Int) - 1 < (l.length : Int) - 1) = false by simp]
      rfl
theorem fl_loop : ∀ (m k : Nat), k < l.length → l.length - k < m + 1 → LB f s l V P R num den i e (m + 1) (-1) (k : Int) = LB f s l V P R num den i e 1 (if (falls (l.drop k) k).2 = 13 then -1 else (falls (l.drop k) k).1) ((l.length : Int) - 1)
  | 0, k, hk, h => by omega
  | m + 1, k, hk, h => by
    have h8 := hg.le
    by_cases hlt : k + 1 < l.length
    · have hd : l.drop k = l[k] :: l[k + 1] :: l.drop (k + 1 + 1) := by rw [List.drop_eq_getElem_cons hk, List.drop_eq_getElem_cons hlt]
      have hd2 : l.drop (k + 1) = l[k + 1] :: l.drop (k + 1 + 1) := List.drop_eq_getElem_cons hlt
      have hw : wr .i64 ((k : Int) + 1) = ((k + 1 : Nat) : Int) := by rw [wr_ok (by omega) (by omega)]; omega
      by_cases c : l[k + 1].1 < l[k].1
      · have hf := fl_found hg V f s P R num den i e (fall := (k : Int)) (by omega) m (k + 1) hlt (by omega)
        rw [hd]
        simp only [falls, if_pos c]
        rw [if_neg (by omega)]
        unfold LB at hf ⊢
        rw [← hf, DL14_3_succ]
        unfold DF14_3 DL14_4
        rw [show decide ((k : Int) < (l.length : Int) - 1) = true by simp only [decide_eq_true_eq]; omega, cond_true]
        simp only [show decide ((-1 : Int) < 0) = true from rfl, show (true == true) = true from rfl, cond_true, show inB (k : Int) l.length = true by simp [inB]; omega, idx_nat hk, Option.bind_some, hw, show inB ((k + 1 : Nat) : Int) l.length = true by simp [inB]; omega, idx_nat hlt]
        rw [show decide (l[k].1 > l[k + 1].1) = true by simpa using c, cond_true]
      · have ih := fl_loop m (k + 1) hlt (by omega)
        have e5 : falls (l.drop k) k = falls (l.drop (k + 1)) ((k + 1 : Nat) : Int) := by
          rw [hd, hd2]
          simp only [falls, if_neg c]
          rw [show ((k + 1 : Nat) : Int) = (k : Int) + 1 by omega]
        rw [e5]
        unfold LB at ih ⊢
        rw [← ih, DL14_3_succ]
        unfold DF14_3 DL14_4
        rw [show decide ((k : Int) < (l.length : Int) - 1) = true by simp only [decide_eq_true_eq]; omega, cond_true]
        simp only [show decide ((-1 : Int) < 0) = true from rfl, show (true == true) = true from rfl, cond_true, show inB (k : Int) l.length = true by simp [inB]; omega, idx_nat hk, Option.bind_some, hw, show inB ((k + 1 : Nat) : Int) l.length = true by simp [inB]; omega, idx_nat hlt]
        rw [show decide (l[k].1 > l[k + 1].1) = false by simpa using c, cond_false]
    · have hk' : (k : Int) = (l.length : Int) - 1 := by omega
      have hd : l.drop k = [l[k]] := by rw [List.drop_eq_getElem_cons hk, List.drop_of_length_le (by omega)]
      rw [hd]
      simp only [falls, if_true]
      rw [hk']
      unfold LB
      rw [DL14_3_succ N5 (m + 1), DL14_3_succ N5 0]
      unfold DF14_3
      rw [show decide ((l.length : Int) - 1 < (l.length : Int) - 1) = false by simp]
      rfl
end
/-! ### Other values, by the law -/
noncomputable abbrev LC (s : Sh8.den) (l : List Src) (V : List Frc) (num den : Int) (m : Nat) (now cost k : Int) (out : List Frc) : Option R14 :=
  DL14_5 N5 m num den now cost (l.length : Int) k s.1 s.2.1 s.2.2.1 s.2.2.2.1 s.2.2.2.2.1 s.2.2.2.2.2.1 s.2.2.2.2.2.2.1 s.2.2.2.2.2.2.2 l V out
theorem other_loop {l : List Src} (hg : Good l) (V : List Frc) {s : Sh8.den} (hs : ∀ x ∈ ([s.1, s.2.1, s.2.2.1, s.2.2.2.1, s.2.2.2.2.1, s.2.2.2.2.2.1, s.2.2.2.2.2.2.1, s.2.2.2.2.2.2.2] : List Int), 0 ≤ x ∧ x ≤ 255) (num den : Int) : ∀ (m k : Nat) (now : Int) (Z : List Int), k ≤ l.length → l.length - k < m → Z.length = k → 0 ≤ now → now ≤ 100 → Z.Pairwise (· ≤ ·) → (∀ z ∈ Z, 0 ≤ z ∧ z ≤ now) → 0 ≤ cst (l.take k) Z → cst (l.take k) Z ≤ 90000 * k →
    ∃ (Z' : List Int) (now' : Int), Z'.length = l.length ∧ Z'.Pairwise (· ≤ ·) ∧ (∀ z ∈ Z', 0 ≤ z ∧ z ≤ 100) ∧ 0 ≤ cst l Z' ∧ cst l Z' ≤ 720000 ∧ LC s l V num den m now (cst (l.take k) Z) (k : Int) (w1 Z) = LC s l V num den 1 now' (cst l Z') (l.length : Int) (w1 Z')
  | 0, k, _, _, _, h, _, _, _, _, _, _, _ => by omega
  | m + 1, k, now, Z, hk, h, hZ, n0, n1, hup, hr, c0, c1 => by
    have h8 := hg.le
    by_cases hlt : k < l.length
    · obtain ⟨x, hx, ex⟩ := idx_mem (l := ([s.1, s.2.1, s.2.2.1, s.2.2.2.1, s.2.2.2.2.1, s.2.2.2.2.2.1, s.2.2.2.2.2.2.1, s.2.2.2.2.2.2.2] : List Int)) (i := (k : Int)) (by omega) (by simp; omega)
      have hx' := hs x hx
      have t1 := tmod_rng hx'.1 (show (0 : Int) < 30 by omega)
      have hy := hg.all l[k] (List.getElem_mem hlt)
      have hw : wr .i64 ((k : Int) + 1) = ((k + 1 : Nat) : Int) := by rw [wr_ok (by omega) (by omega)]; omega
      obtain ⟨z, hz⟩ : ∃ z : Int, z = if now + Int.tmod x 30 < 100 then now + Int.tmod x 30 else 100 := ⟨_, rfl⟩
      have hz0 : now ≤ z ∧ z ≤ 100 := by
        rw [hz]
        split <;> omega
      have hsq0 : 0 ≤ (l[k].1 - z) * (l[k].1 - z) := by
        rcases Int.le_total 0 (l[k].1 - z) with h | h
        · exact Int.mul_nonneg h h
        · exact Int.mul_nonneg_of_nonpos_of_nonpos h h
      have hab : (l[k].1 - z).natAbs ≤ 100 := by omega
      have hm1 : (l[k].2 * (l[k].1 - z)).natAbs ≤ 9 * 100 := by
        rw [Int.natAbs_mul]
        exact Nat.mul_le_mul (by omega) hab
      have hm2 : (l[k].2 * (l[k].1 - z) * (l[k].1 - z)).natAbs ≤ 9 * 100 * 100 := by
        rw [Int.natAbs_mul]
        exact Nat.mul_le_mul hm1 hab
      have hm3 : 0 ≤ l[k].2 * (l[k].1 - z) * (l[k].1 - z) := by
        rw [Int.mul_assoc]
        exact Int.mul_nonneg (by omega) hsq0
      have hcs : cst (l.take (k + 1)) (Z ++ [z]) = cst (l.take k) Z + l[k].2 * (l[k].1 - z) * (l[k].1 - z) := by
        rw [List.take_succ_eq_append_getElem hlt, cst_app _ _ _ _ (by simp; omega)]
        simp [cst]
      obtain ⟨Z', now', i1, i2, i3, i4, i5, i6⟩ := other_loop hg V hs num den m (k + 1) z (Z ++ [z]) hlt (by omega) (by simp [hZ]) (by omega) (by omega) (by
        rw [List.pairwise_append]
        refine ⟨hup, by simp, fun a ha b hb => ?_⟩
        rw [List.mem_singleton.1 hb]
        have := hr a ha
        omega) (fun y hy => by
        rcases List.mem_append.1 hy with hy | hy
        · have := hr y hy
          omega
        · rw [List.mem_singleton.1 hy]
          omega) (by rw [hcs]; omega) (by rw [hcs]; omega)
      refine ⟨Z', now', i1, i2, i3, i4, i5, ?_⟩
      rw [← i6]
      unfold LC
      rw [DL14_5_succ]
      unfold DF14_5
      rw [show decide ((k : Int) < (l.length : Int)) = true by simpa using hlt, cond_true, show inB (k : Int) l.length = true by simp [inB]; omega, cond_true, idx_nat hlt]
      simp only [Option.bind_some, show inB (k : Int) 8 = true by simp [inB]; omega, cond_true, ex, show ((30 : Int) == 0) = false from rfl, show ((30 : Nat) == 0) = false from rfl, cond_false, D52]
      rw [wr_ok (x := x) (by omega) (by omega), wr_ok (x := now + Int.tmod x 30) (by omega) (by omega), ← hz]
      rw [wr_ok (x := l[k].1 - z) (by omega) (by omega), wr_ok (x := l[k].2 * (l[k].1 - z)) (by omega) (by omega), wr_ok (x := l[k].2 * (l[k].1 - z) * (l[k].1 - z)) (by omega) (by omega), wr_ok (x := cst (l.take k) Z + l[k].2 * (l[k].1 - z) * (l[k].1 - z)) (by omega) (by omega), ← hcs, hw,
        show decide ((w1 Z).length + [((z, 1) : Frc)].length ≤ lim) = true by simp [lim, w1]; omega, cond_true]
      rw [show w1 Z ++ [((z, 1) : Frc)] = w1 (Z ++ [z]) by simp [w1]]
    · have : k = l.length := by omega
      subst this
      rw [List.take_length] at c0 c1 ⊢
      refine ⟨Z, now, hZ, hup, fun z hz => by have := hr z hz; omega, c0, by omega, ?_⟩
      unfold LC
      rw [DL14_5_succ N5 m, DL14_5_succ N5 0]
      unfold DF14_5
      rw [show decide ((l.length : Int) < (l.length : Int)) = false by simp]
      rfl
/-! ### The law -/
theorem cost_val (a : ShA.den) (ha : Wf ShA a) {first : Int} (hfirst : 0 ≤ first ∧ first ≤ 255) (s : Sh8.den) (hs : Wf Sh8 s) : D14 N5 a first s = some true := by
  obtain ⟨l, hg, _, _, e1⟩ := made_eq (n := N5) (by decide) a ha (many := 8) (y := 100) (by omega) (by omega)
  have h8 := hg.le
  have ho := hg.ok
  have hpos := hg.pos
  obtain ⟨K, hK, e2⟩ := joined_eq (n := N5) (by decide) hg.ok hg.pos
  obtain ⟨v1, v2, v3, v4, ⟨P, R, p1, p2, p3, p4, p5, p6, p7, p8, p9⟩, _⟩ := all_of18 hg hK
  simp only [Wf] at hs
  obtain ⟨b1, b2, b3, b4, b5, b6, b7, b8⟩ := hs
  have hsr : ∀ x ∈ ([s.1, s.2.1, s.2.2.1, s.2.2.2.1, s.2.2.2.2.1, s.2.2.2.2.2.1, s.2.2.2.2.2.2.1, s.2.2.2.2.2.2.2] : List Int), 0 ≤ x ∧ x ≤ 255 := by
    intro x hx
    simp only [List.mem_cons, List.not_mem_nil, or_false] at hx
    rcases hx with rfl | rfl | rfl | rfl | rfl | rfl | rfl | rfl
    · exact u8_rng b1
    · exact u8_rng b2
    · exact u8_rng b3
    · exact u8_rng b4
    · exact u8_rng b5
    · exact u8_rng b6
    · exact u8_rng b7
    · exact u8_rng b8
  obtain ⟨M, hM⟩ : ∃ M, N5.1 = M + 1 + (l.length - 0) := ⟨100000000000000000000 - 1 - l.length, by show 100000000000000000000 = _; omega⟩
  have hcb : Cb 0 K.reverse l.length := hK.ch.toCb
  have hrK : ∀ x ∈ K.reverse, x ∈ K := fun x hx => List.mem_reverse.1 hx
  obtain ⟨num, den, z1, z2⟩ := c_out hg hK v2 v4 first s P (R : Int) K.reverse 0 (M + 1) 0 1 (0, 1) hcb hrK ⟨by omega, by simp, by simp, by simp, by simp, by simp, by simp⟩
  obtain ⟨d0, d1, d2, d3, deq, dn0, dn1⟩ := z2
  generalize hC : K.reverse.foldl (cstep l) (0, 1) = C at *
  have hden8 : den ≤ 11019960576 := Nat.le_trans d1 (Nat.le_trans (Nat.pow_le_pow_right (by omega) h8) (by decide))
  have hq2 : q2s (l.take l.length) ≤ 720000 := by
    rw [List.take_length]
    have := q2s_le ho.2
    omega
  have hnum : num ≤ 720000 * den := by
    have h1 : (num : Int) ≤ ((q2s (l.take l.length) * den : Nat) : Int) := by
      rw [Int.natCast_mul]
      exact dn1
    have h2 := Nat.mul_le_mul_right den hq2
    omega
  -- num / den = P / R
  have hcross : (num : Int) * R = P * den := by
    have hC2 : (C.2 : Int) ≠ 0 := by omega
    refine Int.eq_of_mul_eq_mul_right hC2 ?_
    have t1 : (num : Int) * R * C.2 = num * C.2 * R := by grind
    have t2 : P * (den : Int) * C.2 = P * C.2 * den := by grind
    rw [t1, t2, deq, p8]
    grind
  obtain ⟨p, rfl⟩ := Int.eq_ofNat_of_zero_le p7
  rw [Int.natAbs_natCast] at p3 p9
  have hcrossN : num * R = p * den := by exact_mod_cast hcross
  have hdvd : R ∣ den := Nat.Coprime.dvd_of_dvd_mul_left (Nat.Coprime.symm p9) ⟨num, by rw [← hcrossN, Nat.mul_comm]⟩
  obtain ⟨c, hc⟩ := hdvd
  have hcdiv : den / R = c := by rw [hc]; exact Nat.mul_div_cancel_left _ p2
  have hpc : p * c = num := by
    have : num * R = p * c * R := by rw [hcrossN, hc]; grind
    exact (Nat.eq_of_mul_eq_mul_right p2 this).symm
  have hRden : R ≤ den := Nat.le_of_dvd d0 ⟨c, hc⟩
  have hP72 : p ≤ 720000 * R := by
    have h1 : p * den ≤ 720000 * R * den := by
      rw [← hcrossN]
      have := Nat.mul_le_mul_right R hnum
      have e5 : 720000 * den * R = 720000 * R * den := by grind
      omega
    exact Nat.le_of_mul_le_mul_right h1 d0
  have hcle : c ≤ den := by rw [hc]; exact Nat.le_mul_of_pos_left _ p2
  -- falls
  have h20 : D20 N5 l = some (falls l 0) := by
    unfold D20
    rw [chk_eq (n := N5) (by decide), good_chk hg]
    simp only [Option.bind_some, bne_self_eq_false, cond_false]
    rw [wr_ok (by omega) (by omega)]
    have := falls_loop N5 l hg N5.1 0 hpos (by show _ < 100000000000000000000; omega)
    simpa using this
  have hM1 : l.length - 0 < M + (l.length - 0) + 1 := by
    have : 8 ≤ M := by
      have h3 : N5.1 = 100000000000000000000 := rfl
      omega
    omega
  obtain ⟨Z, now', o1, o2, o3, o4, o5, o6⟩ := other_loop hg (vals l K.reverse) hsr (num : Int) (den : Int) N5.1 0 (Int.tmod first 40) [] (by omega) (by show _ < 100000000000000000000; omega) rfl (tmod_rng hfirst.1 (by omega)).1 (by have := (tmod_rng hfirst.1 (show (0 : Int) < 40 by omega)).2; omega) (by simp) (by simp) (by simp [cst]) (by simp [cst])
  have fin : ((bif (((decide ((if (falls l 0).2 = 13 then (-1 : Int) else (falls l 0).1) < 0)) != ((p : Int) == 0)) == false) then ((bif (decide ((if (falls l 0).2 = 13 then (-1 : Int) else (falls l 0).1) < 0) == true) then ((bif (((falls l 0).2 != 13) == false) then some ((falls l 0).1 != 0) else some true)).bind fun b24' => some b24' else some false)).bind fun b25' => some b25' else some true) : Option Bool) = some false ∧
      ((bif (decide ((if (falls l 0).2 = 13 then (-1 : Int) else (falls l 0).1) ≥ 0) == true) then ((bif (((falls l 0).2 != 0) == false) then some ((falls l 0).1 != (if (falls l 0).2 = 13 then (-1 : Int) else (falls l 0).1)) else some true)).bind fun b27' => some b27' else some false) : Option Bool) = some false := by
    rcases falls_spec l 0 with ⟨h1, h2⟩ | ⟨j, h1, h2, h3⟩
    · have hp0 : p = 0 := by
        obtain ⟨u1, _⟩ := opt_fold hg hK (Z := l.map Prod.fst) (by simp) h2 K.reverse 0 (0, 1) 0 hcb hrK (by simp) (by simp)
        have hz : ∀ u : List Src, cst u (u.map Prod.fst) = 0 := by
          intro u
          induction u with
          | nil => rfl
          | cons x u ih => simp only [List.map_cons, cst, ih]; simp
        rw [List.drop_zero, List.drop_zero, hz, hC] at u1
        have h5 : (p : Int) * C.2 ≤ 0 := by
          rw [p8]
          have := Int.mul_le_mul_of_nonneg_left u1 (show (0 : Int) ≤ (R : Int) by omega)
          simpa using this
        rcases Nat.eq_zero_or_pos p with h | h
        · exact h
        · have := Int.mul_pos (show (0 : Int) < (p : Int) by omega) (show (0 : Int) < (C.2 : Int) by omega)
          omega
      rw [h1, hp0]
      exact ⟨rfl, rfl⟩
    · have hp0 : p ≠ 0 := by
        intro hp0
        have hC1 : C.1 = 0 := by
          rw [hp0] at p8
          have h5 : (R : Int) * C.1 = 0 := by
            rw [← p8]
            simp
          rcases Int.mul_eq_zero.1 h5 with h | h
          · omega
          · exact h
        obtain ⟨_, u2⟩ := zero_fold hg K.reverse 0 (0, 1) hcb hrK (by simp) (by simp)
        rw [hC] at u2
        obtain ⟨_, u3⟩ := u2 hC1
        obtain ⟨x, hx, x1, x2⟩ := hK.ch.cover j (by omega)
        obtain ⟨y, hy, y1, y2⟩ := hK.ch.cover (j + 1) h2
        have g1 := u3 x (List.mem_reverse.2 hx) j (by omega) x1 x2
        have g2 := u3 y (List.mem_reverse.2 hy) (j + 1) h2 y1 y2
        have rx := hK.ch.rng x hx
        have ry := hK.ch.rng y hy
        have Fx := (Mx_Fr ho rx.1 rx.2).dp
        have Fy := (Mx_Fr ho ry.1 ry.2).dp
        rcases K_next hK.ch hx hy x1 x2 y1 y2 with h | ⟨h5, h6⟩
        · subst h
          have := Int.eq_of_mul_eq_mul_right (Int.ne_of_gt Fx) (g1.trans g2.symm)
          omega
        · have hlt := K_rise hK.ch hK.inc x hx y hy (by omega)
          unfold ltM at hlt
          rw [← g1, ← g2] at hlt
          generalize (Mx l x.1 x.2).2 = q at *
          generalize (Mx l y.1 y.2).2 = r at *
          have t1 : l[j + 1].1 * r * q = l[j + 1].1 * (q * r) := by grind
          have t2 : l[j].1 * q * r = l[j].1 * (q * r) := by grind
          have t3 := Int.mul_le_mul_of_nonneg_right (Int.le_of_lt h3) (Int.le_of_lt (Int.mul_pos Fx Fy))
          omega
      rw [h1]
      simp only [Int.zero_add]
      rw [if_neg (by omega), show decide ((j : Int) < 0) = false by simp only [decide_eq_false_iff_not]; omega, show ((p : Int) == 0) = false by simpa using hp0, show decide ((j : Int) ≥ 0) = true by simp only [decide_eq_true_eq]; omega]
      simp
  have hsum : cst l Z * (den : Int) ≤ 720000 * 11019960576 ∧ 0 ≤ cst l Z * (den : Int) := ⟨Int.mul_le_mul o5 (by omega) (by omega) (by omega), Int.mul_nonneg o4 (by omega)⟩
  obtain ⟨q1, q2⟩ := opt_fold hg hK o1 o2 K.reverse 0 (0, 1) 0 hcb hrK (by simp) (by simp)
  rw [List.drop_zero, List.drop_zero, Int.zero_add, hC] at q1 q2
  have hge : (num : Int) ≤ cst l Z * den := by
    have h5 : (num : Int) * C.2 ≤ cst l Z * den * C.2 := by
      rw [deq]
      have := Int.mul_le_mul_of_nonneg_right q1 (show (0 : Int) ≤ (den : Int) by omega)
      have e5 : cst l Z * (C.2 : Int) * den = cst l Z * den * C.2 := by grind
      omega
    exact Int.le_of_mul_le_mul_right h5 (by omega)
  have heq : cst l Z * (den : Int) = num ↔ cst l Z * (C.2 : Int) = C.1 := by
    constructor
    · intro h
      refine Int.eq_of_mul_eq_mul_right (show (den : Int) ≠ 0 by omega) ?_
      rw [← deq, ← h]
      grind
    · intro h
      refine Int.eq_of_mul_eq_mul_right (show (C.2 : Int) ≠ 0 by omega) ?_
      rw [deq, ← h]
      grind
  have hmatch : w1 Z = vals l K.reverse ↔ ∀ x ∈ K, ∀ i (h : i < Z.length), x.1 ≤ i → i < x.2 → Z[i] * (Mx l x.1 x.2).2 = (Mx l x.1 x.2).1 := by
    constructor
    · intro h x hx i hi x1 x2
      have hi2 : i < (vals l K.reverse).length := by omega
      have h5 := v4 x hx i hi2 x1 x2
      have h6 : (w1 Z)[i]'(by rw [w1_len]; exact hi) = (vals l K.reverse)[i] := by simp only [h]
      rw [w1_get _ hi, h5] at h6
      rw [← h6]
      simp
    · intro h
      refine List.ext_getElem (by rw [w1_len]; omega) fun i h5 h6 => ?_
      have hi : i < Z.length := by rw [w1_len] at h5; exact h5
      obtain ⟨x, hx, x1, x2⟩ := hK.ch.cover i (by omega)
      have hr := hK.ch.rng x hx
      have F := Mx_Fr ho hr.1 hr.2
      rw [w1_get h5 hi, v4 x hx i h6 x1 x2]
      have h7 := h x hx i hi x1 x2
      have hcop := F.cop
      have hdp := F.dp
      have hnp := F.np
      generalize Mx l x.1 x.2 = v at *
      obtain ⟨u, w⟩ := v
      simp only at h7 hcop hdp hnp
      obtain ⟨u, rfl⟩ := Int.eq_ofNat_of_zero_le hnp
      obtain ⟨w, rfl⟩ := Int.eq_ofNat_of_zero_le (Int.le_of_lt hdp)
      have hz := o3 Z[i] (List.getElem_mem hi)
      obtain ⟨z, hz'⟩ := Int.eq_ofNat_of_zero_le hz.1
      rw [hz'] at h7 ⊢
      have h9 : z * w = u := by exact_mod_cast h7
      have hcop' : Nat.gcd u w = 1 := hcop
      rw [← h9, Nat.gcd_mul_left_left] at hcop'
      subst hcop'
      rw [← h9]
      simp
  have h39 := proves_whole hg o1 o3 hK o2
  have hiffK : (∀ x ∈ K.reverse, ∀ i (h : i < Z.length), x.1 ≤ i → i < x.2 → Z[i] * (Mx l x.1 x.2).2 = (Mx l x.1 x.2).1) ↔ ∀ x ∈ K, ∀ i (h : i < Z.length), x.1 ≤ i → i < x.2 → Z[i] * (Mx l x.1 x.2).2 = (Mx l x.1 x.2).1 :=
    ⟨fun h x hx => h x (List.mem_reverse.2 hx), fun h x hx => h x (List.mem_reverse.1 hx)⟩
  have hlast : LC s l (vals l K.reverse) (num : Int) (den : Int) 1 now' (cst l Z) (l.length : Int) (w1 Z) = some true := by
    unfold LC
    rw [DL14_5_succ]
    unfold DF14_5
    rw [show decide ((l.length : Int) < (l.length : Int)) = false by simp, cond_false, same_eq (n := N5) (by decide) (by rw [w1_len]; omega) (by rw [w1_len]; omega)]
    simp only [Option.bind_some]
    rw [wr_ok (x := cst l Z * (den : Int)) (by omega) (by omega), decide_eq_true (show cst l Z * (den : Int) ≥ num by omega), h39]
    by_cases cc : w1 Z = vals l K.reverse
    · have hm := hmatch.1 cc
      have h5 : cst l Z * (den : Int) = num := heq.2 (q2.2 ⟨by simp, hiffK.2 hm⟩)
      rw [decide_eq_true cc, cond_true, if_pos hm, h5]
      simp only [show (true == true) = true from rfl, cond_true, Option.bind_some, works_val5, beq_self_eq_true]
    · have hm : ¬ _ := fun h => cc (hmatch.2 h)
      have h5 : ¬ cst l Z * (den : Int) = num := fun h => hm (hiffK.1 (q2.1 (heq.1 h)).2)
      rw [decide_eq_false cc, cond_false, if_neg hm, show (cst l Z * (den : Int) == num) = false by simpa using h5]
      simp only [show (true == true) = true from rfl, cond_true, Option.bind_some, works_val5, show ((14 : Int) == 0) = false from rfl, show (false == false) = true from rfl, show (((14 : Int) == 14) == true) = true from rfl]
      rfl
  -- all together
  unfold D14
  rw [e1]
  simp only [Option.bind_some, e2, p1]
  have z1' : DL14_1 N5 N5.1 first 0 0 1 0 (l.length : Int) 0 s.1 s.2.1 s.2.2.1 s.2.2.2.1 s.2.2.2.2.1 s.2.2.2.2.2.1 s.2.2.2.2.2.2.1 s.2.2.2.2.2.2.2 l (vals l K.reverse) (p : Int) (R : Int) = LA first s l (vals l K.reverse) (p : Int) (R : Int) (M + 1) num den (l.length : Nat) (l.length : Nat) := by
    rw [← z1]
    unfold LA
    rw [hM]
    rfl
  rw [z1']
  unfold LA
  rw [DL14_1_succ]
  unfold DF14_1
  rw [show decide ((l.length : Int) < (l.length : Int)) = false by simp, cond_false]
  have hpn : p ≤ 9223372036854775807 := by omega
  rw [show decide ((R : Int) < 1) = false by simp only [decide_eq_false_iff_not]; omega, show decide ((R : Int) > (den : Int)) = false by simp only [decide_eq_false_iff_not]; omega, show decide ((p : Int) < 0) = false by simp only [decide_eq_false_iff_not]; omega,
    wr_ok (x := 720000 * (R : Int)) (by omega) (by omega), show decide ((p : Int) > 720000 * (R : Int)) = false by simp only [decide_eq_false_iff_not]; omega, common_eq (n := N5) (a := p) (b := R) (by show _ < 100000000000000000000; omega) (by omega) (by omega), p9]
  have hR0 : ((R : Int) == 0) = false := by simp; omega
  have htm : Int.tmod (den : Int) (R : Int) = 0 := by
    have : Int.tmod (den : Int) (R : Int) = ((den % R : Nat) : Int) := rfl
    rw [this, hc, Nat.mul_mod_right]
    rfl
  have htd : Int.tdiv (den : Int) (R : Int) = (c : Int) := by
    have : Int.tdiv (den : Int) (R : Int) = ((den / R : Nat) : Int) := rfl
    rw [this, hcdiv]
  simp only [bne_self_eq_false, show (false == false) = true from rfl, cond_true, Option.bind_some, show (((1 : Nat) : Int) != 1) = false from rfl, hR0, cond_false, htm, htd]
  rw [wr_nat (x := c) (by omega), ← Int.natCast_mul, hpc, wr_nat (x := num) (by omega), bne_self_eq_false]
  simp only [Option.bind_some, cond_false, h20]
  rw [wr_ok (x := (l.length : Int) - 1) (by omega) (by omega)]
  have hfl := fl_loop hg (vals l K.reverse) first s (p : Int) (R : Int) (num : Int) (den : Int) (falls l 0).1 (falls l 0).2 (M + (l.length - 0)) 0 hpos hM1
  rw [show M + (l.length - 0) + 1 = N5.1 by rw [hM]; omega] at hfl
  have hfl' : DL14_3 N5 N5.1 first (num : Int) (den : Int) (falls l 0).1 (falls l 0).2 (-1) ((l.length : Int) - 1) 0 s.1 s.2.1 s.2.2.1 s.2.2.2.1 s.2.2.2.2.1 s.2.2.2.2.2.1 s.2.2.2.2.2.2.1 s.2.2.2.2.2.2.2 l (vals l K.reverse) (p : Int) (R : Int) = _ := hfl
  rw [hfl']
  simp only [List.drop_zero, Int.natCast_zero]
  unfold LB
  rw [DL14_3_succ]
  unfold DF14_3
  rw [show decide ((l.length : Int) - 1 < (l.length : Int) - 1) = false by simp, cond_false]
  obtain ⟨f1, f2⟩ := fin
  rw [f1]
  simp only [Option.bind_some, show (false == false) = true from rfl, cond_true]
  rw [f2]
  simp only [Option.bind_some, cond_false, show ((40 : Int) == 0) = false from rfl, show ((40 : Nat) == 0) = false from rfl]
  rw [wr_ok (x := first) (by omega) (by omega)]
  have h7 : DL14_5 N5 N5.1 (num : Int) (den : Int) (Int.tmod first 40) 0 (l.length : Int) 0 s.1 s.2.1 s.2.2.1 s.2.2.2.1 s.2.2.2.2.1 s.2.2.2.2.2.1 s.2.2.2.2.2.2.1 s.2.2.2.2.2.2.2 l (vals l K.reverse) [] = LC s l (vals l K.reverse) (num : Int) (den : Int) 1 now' (cst l Z) (l.length : Int) (w1 Z) := o6
  rw [h7]
  exact hlast
theorem cost_ok (xs : pksDen (pks [ShA, .int .u8, Sh8])) (h : WfL [ShA, .int .u8, Sh8] xs) : ∃ n, S14 n xs.1 xs.2.1 xs.2.2.1 = some true :=
  ⟨N5, by rw [S14_D N5 rfl]; exact cost_val xs.1 h.1 (u8_rng h.2.1) xs.2.2.1 h.2.2.1⟩
end Go.Proofs.Ytombednapelokaa
