/- Reign: plain laws: means of parts, fractions compared, and the formula of means. -/
import Derived.Test.YtombednapelokaaMa
set_option linter.unusedVariables false
set_option linter.unusedSimpArgs false
namespace Go.Proofs.Ytombednapelokaa
open Go.Vi

theorem orB (x y : Bool) : (bif (x == false) then some y else some true) = some (x || y) := by cases x <;> rfl
theorem andB (x y : Bool) : (bif (x == true) then some y else some false) = some (x && y) := by cases x <;> rfl

theorem meanf_eq {n : Nat × Nat} (hn : 4611686018427387904 ≤ n.1) (l : List Src) (b e : Int) : ∃ r, D22 n l b e = some r ∧ D23 n l b e = some r := by
  unfold D22 D23
  rw [chk_eq (by omega), chkr_eq (by omega)]
  simp only [Option.bind_some, in_eq, orB, andB]
  by_cases h : chk l = 0
  · have hg := chk_good h
    have h1 := hg.pos
    have h2 := hg.le
    rw [h]
    simp only [bne_self_eq_false, cond_false, beq_self_eq_true, Bool.true_and]
    by_cases hin : (0 ≤ b ∧ b ≤ (l.length : Int)) ∧ (0 ≤ e ∧ e ≤ (l.length : Int))
    · have hA : (decide ((if e < b then e else b) < 0) || decide ((if e > b then e else b) > (l.length : Int))) = false := by
        rw [Bool.or_eq_false_iff]
        constructor <;> split <;> simp <;> omega
      have hB : (!(decide (0 ≤ b) && decide (b ≤ (l.length : Int))) || !(decide (0 ≤ e) && decide (e ≤ (l.length : Int)))) = false := by
        simp
        omega
      rw [hA, hB]
      simp only [cond_false]
      by_cases hle : e ≤ b
      · simp only [hle, decide_true, cond_true, bne_iff_ne]
        exact ⟨_, rfl, rfl⟩
      · have hb1 : bounds (some b) (some e) (some e) l.length = true := by simp [bounds]; omega
        have hb2 : bounds (some b) (some e) none l.length = true := by simp [bounds]; omega
        simp only [hle, decide_false, cond_false, hb1, hb2, cond_true]
        have hok : Ok ((l.take (Int.toNat e)).drop (Int.toNat b)) := (hg.ok.take _).drop _
        have hlen : 0 < ((l.take (Int.toNat e)).drop (Int.toNat b)).length := by simp; omega
        rw [mean_eq hn hok hlen, meanr_eq hn hok hlen]
        exact ⟨_, rfl, rfl⟩
    · have hA : (decide ((if e < b then e else b) < 0) || decide ((if e > b then e else b) > (l.length : Int))) = true := by
        rw [Bool.or_eq_true]
        by_cases c : (if e < b then e else b) < 0
        · exact .inl (by simpa using c)
        · refine .inr ?_
          simp only [gt_iff_lt, decide_eq_true_eq]
          split at c <;> split <;> omega
      have hB : (!(decide (0 ≤ b) && decide (b ≤ (l.length : Int))) || !(decide (0 ≤ e) && decide (e ≤ (l.length : Int)))) = true := by
        simp
        omega
      rw [hA, hB]
      simp only [cond_true]
      exact ⟨_, rfl, by rfl⟩
  · have h' : (chk l != 0) = true := by simpa using h
    have h'' : (chk l == 0) = false := by simpa using h
    simp only [h', h'', cond_true, cond_false, Bool.false_and]
    exact ⟨_, rfl, rfl⟩

/-! ### Fractions -/
abbrev Frc := Int × Int

structure Fr (f : Frc) : Prop where
  dp : 0 < f.2
  dl : f.2 ≤ 72
  np : 0 ≤ f.1
  nl : f.1 ≤ 7200
  cop : Nat.gcd f.1.toNat f.2.toNat = 1

def fle (a b : Frc) : Prop := a.1 * b.2 ≤ b.1 * a.2
def fge (a b : Frc) : Prop := fle b a

theorem fle_refl (a : Frc) : fle a a := Int.le_refl _
theorem fle_total (a b : Frc) : fle a b ∨ fle b a := Int.le_total _ _
theorem fle_trans {a b c : Frc} (ha : 0 < a.2) (hb : 0 < b.2) (hc : 0 < c.2) (h1 : fle a b) (h2 : fle b c) : fle a c := by
  unfold fle at *
  have e1 := Int.mul_le_mul_of_nonneg_right h1 (Int.le_of_lt hc)
  have e2 := Int.mul_le_mul_of_nonneg_right h2 (Int.le_of_lt ha)
  have e3 : a.1 * c.2 * b.2 ≤ c.1 * a.2 * b.2 := by
    have x1 : a.1 * b.2 * c.2 = a.1 * c.2 * b.2 := by rw [Int.mul_assoc, Int.mul_comm b.2 c.2, ← Int.mul_assoc]
    have x2 : b.1 * a.2 * c.2 = b.1 * c.2 * a.2 := by rw [Int.mul_assoc, Int.mul_comm a.2 c.2, ← Int.mul_assoc]
    have x3 : c.1 * b.2 * a.2 = c.1 * a.2 * b.2 := by rw [Int.mul_assoc, Int.mul_comm b.2 a.2, ← Int.mul_assoc]
    omega
  exact Int.le_of_mul_le_mul_right e3 hb

theorem fle_anti {a b : Frc} (ha : Fr a) (hb : Fr b) (h1 : fle a b) (h2 : fle b a) : a = b := by
  have e : a.1 * b.2 = b.1 * a.2 := Int.le_antisymm h1 h2
  obtain ⟨p, q⟩ := a
  obtain ⟨r, s⟩ := b
  obtain ⟨p, rfl⟩ := Int.eq_ofNat_of_zero_le ha.np
  obtain ⟨q, rfl⟩ := Int.eq_ofNat_of_zero_le (Int.le_of_lt ha.dp)
  obtain ⟨r, rfl⟩ := Int.eq_ofNat_of_zero_le hb.np
  obtain ⟨s, rfl⟩ := Int.eq_ofNat_of_zero_le (Int.le_of_lt hb.dp)
  have e' : p * s = r * q := by
    have e2 : (p : Int) * (s : Int) = (r : Int) * (q : Int) := e
    exact_mod_cast e2
  have c1 : Nat.gcd p q = 1 := ha.cop
  have c2 : Nat.gcd r s = 1 := hb.cop
  have hq : 0 < q := by have := ha.dp; simpa using this
  have d1 : q ∣ s := (Nat.Coprime.dvd_of_dvd_mul_left (Nat.Coprime.symm c1) (by rw [e']; exact Nat.dvd_mul_left q r))
  have d2 : s ∣ q := (Nat.Coprime.dvd_of_dvd_mul_left (Nat.Coprime.symm c2) (by rw [← e']; exact Nat.dvd_mul_left s p))
  have hqs := Nat.dvd_antisymm d1 d2
  subst hqs
  have := Nat.eq_of_mul_eq_mul_right hq e'
  subst this
  rfl

theorem prodb {x y : Int} (h1 : 0 ≤ x) (h2 : x ≤ 7200) (h3 : 0 < y) (h4 : y ≤ 72) : 0 ≤ x * y ∧ x * y ≤ 518400 := by
  refine ⟨Int.mul_nonneg h1 (Int.le_of_lt h3), ?_⟩
  have := Int.mul_le_mul h2 h4 (Int.le_of_lt h3) (by omega)
  omega

theorem cmp_eq (n : Nat × Nat) {a b : Frc} (ha : Fr a) (hb : Fr b) : D88 n a b = some (a.1 * b.2 - b.1 * a.2) := by
  have h1 := prodb ha.np ha.nl hb.dp hb.dl
  have h2 := prodb hb.np hb.nl ha.dp ha.dl
  unfold D88
  rw [wr_ok (x := a.1 * b.2) (by omega) (by omega), wr_ok (x := b.1 * a.2) (by omega) (by omega), wr_ok (by omega) (by omega)]

theorem less_eq (n : Nat × Nat) {a b : Frc} (ha : Fr a) (hb : Fr b) : D89 n a b = some (decide (a.1 * b.2 < b.1 * a.2)) := by
  have h1 := prodb ha.np ha.nl hb.dp hb.dl
  have h2 := prodb hb.np hb.nl ha.dp ha.dl
  unfold D89
  rw [wr_ok (x := a.1 * b.2) (by omega) (by omega), wr_ok (x := b.1 * a.2) (by omega) (by omega)]

theorem red_Fr {num den : Nat} (hd : 0 < den) (hl : den ≤ 72) (hn : num ≤ 7200) : Fr (red num den) := by
  have hg : 0 < Nat.gcd num den := Nat.gcd_pos_of_pos_right _ hd
  have l1 : num / Nat.gcd num den ≤ num := Nat.div_le_self _ _
  have l2 : den / Nat.gcd num den ≤ den := Nat.div_le_self _ _
  have l3 : 0 < den / Nat.gcd num den := Nat.div_pos (Nat.le_of_dvd hd (Nat.gcd_dvd_right _ _)) hg
  unfold red
  refine ⟨?_, ?_, ?_, ?_, ?_⟩
  · show (0 : Int) < ((den / Nat.gcd num den : Nat) : Int)
    omega
  · show ((den / Nat.gcd num den : Nat) : Int) ≤ 72
    omega
  · show (0 : Int) ≤ ((num / Nat.gcd num den : Nat) : Int)
    exact Int.natCast_nonneg _
  · show ((num / Nat.gcd num den : Nat) : Int) ≤ 7200
    have := Nat.div_le_self num (Nat.gcd num den)
    omega
  · show Nat.gcd ((num / Nat.gcd num den : Nat) : Int).toNat ((den / Nat.gcd num den : Nat) : Int).toNat = 1
    rw [Int.toNat_natCast, Int.toNat_natCast]
    exact Nat.coprime_div_gcd_div_gcd hg

theorem mn_Fr {l : List Src} (h : Ok l) (hl : 0 < l.length) : Fr (mn l) := by
  have hs := Ok.sums h.2
  have := h.1
  exact red_Fr (by omega) (by omega) (by omega)

/-- The mean of the sources from a to b. -/
def M (l : List Src) (a b : Nat) : Frc := mn ((l.take (b + 1)).drop a)

theorem M_Fr {l : List Src} (h : Ok l) {a b : Nat} (hab : a ≤ b) (hb : b < l.length) : Fr (M l a b) :=
  mn_Fr ((h.take _).drop _) (by simp; omega)

/-! ### The best of some -/
def Bst (R : Frc → Frc → Prop) (S : Frc → Prop) (m : Frc) : Prop := S m ∧ ∀ x, S x → R m x

theorem Bst.congr {R : Frc → Frc → Prop} {S S' : Frc → Prop} {m : Frc} (h : Bst R S m) (e : ∀ x, S' x ↔ S x) : Bst R S' m :=
  ⟨(e m).2 h.1, fun x hx => h.2 x ((e x).1 hx)⟩

theorem Bst.uniq_le {S : Frc → Prop} {m m' : Frc} (hS : ∀ x, S x → Fr x) (h : Bst fle S m) (h' : Bst fle S m') : m = m' :=
  fle_anti (hS m h.1) (hS m' h'.1) (h.2 m' h'.1) (h'.2 m h.1)
theorem Bst.uniq_ge {S : Frc → Prop} {m m' : Frc} (hS : ∀ x, S x → Fr x) (h : Bst fge S m) (h' : Bst fge S m') : m = m' :=
  fle_anti (hS m h.1) (hS m' h'.1) (h'.2 m h.1) (h.2 m' h'.1)

theorem Bst.keep {R : Frc → Frc → Prop} {S S' : Frc → Prop} {m y : Frc} (h : Bst R S m) (e : ∀ x, S' x ↔ S x ∨ x = y) (hr : R m y) : Bst R S' m :=
  ⟨(e m).2 (.inl h.1), fun x hx => by
    rcases (e x).1 hx with hx | rfl
    · exact h.2 x hx
    · exact hr⟩
theorem Bst.ext_le {S S' : Frc → Prop} {m y : Frc} (hS : ∀ x, S' x → Fr x) (h : Bst fle S m) (e : ∀ x, S' x ↔ S x ∨ x = y) (hr : fle y m) : Bst fle S' y := by
  have hy := hS y ((e y).2 (.inr rfl))
  have hm := hS m ((e m).2 (.inl h.1))
  refine ⟨(e y).2 (.inr rfl), fun x hx => ?_⟩
  rcases (e x).1 hx with hx' | rfl
  · exact fle_trans hy.dp hm.dp (hS x hx).dp hr (h.2 x hx')
  · exact fle_refl _
theorem Bst.ext_ge {S S' : Frc → Prop} {m y : Frc} (hS : ∀ x, S' x → Fr x) (h : Bst fge S m) (e : ∀ x, S' x ↔ S x ∨ x = y) (hr : fge y m) : Bst fge S' y := by
  have hy := hS y ((e y).2 (.inr rfl))
  have hm := hS m ((e m).2 (.inl h.1))
  refine ⟨(e y).2 (.inr rfl), fun x hx => ?_⟩
  rcases (e x).1 hx with hx' | rfl
  · exact fle_trans (hS x hx).dp hm.dp hy.dp (h.2 x hx') hr
  · exact fle_refl _

theorem idx_zero {α : Type} {L : List α} (h : 0 < L.length) : idx L 0 = some L[0] := idx_nat (k := 0) h

theorem take_mem {L : List Frc} {k : Nat} (h : k < L.length) (x : Frc) : x ∈ L.take (k + 1) ↔ x ∈ L.take k ∨ x = L[k] := by
  rw [List.take_succ_eq_append_getElem h, List.mem_append, List.mem_singleton]

/-! ### The least and the greatest of a list -/
theorem min_loop (n : Nat × Nat) (L : List Frc) (hF : ∀ x ∈ L, Fr x) (hl : L.length ≤ 1000) (u v : Int) : ∀ (m k : Nat) (c : Frc), k ≤ L.length → L.length - k < m → Bst fle (· ∈ L.take k) c →
    ∃ r, DL102c88_1 n m L (k : Int) u v c.1 c.2 = some r ∧ Bst fle (· ∈ L) r
  | 0, k, c, _, h, _ => by omega
  | m + 1, k, c, hk, h, hb => by
    rw [DL102c88_1_succ]
    unfold DF102c88_1 DL102c88_2
    by_cases hlt : k < L.length
    · rw [show decide ((k : Int) < (L.length : Int)) = true by simpa using hlt, cond_true, idx_nat hlt]
      have hw : wr .i64 ((k : Int) + 1) = ((k + 1 : Nat) : Int) := by rw [wr_ok (by omega) (by omega)]; omega
      have hx := hF L[k] (List.getElem_mem hlt)
      have hc := hF c (List.mem_of_mem_take hb.1)
      simp only [Option.bind_some, Prod.eta, cmp_eq n hx hc, hw]
      have hS : ∀ x, x ∈ L.take (k + 1) → Fr x := fun x hx => hF x (List.mem_of_mem_take hx)
      by_cases hlt2 : L[k].1 * c.2 - c.1 * L[k].2 < 0
      · simp only [hlt2, decide_true, cond_true]
        exact min_loop n L hF hl u v m (k + 1) L[k] hlt (by omega) (hb.ext_le hS (take_mem hlt) (by unfold fle; omega))
      · simp only [hlt2, decide_false, cond_false]
        exact min_loop n L hF hl u v m (k + 1) c hlt (by omega) (hb.keep (take_mem hlt) (by unfold fle; omega))
    · rw [show decide ((k : Int) < (L.length : Int)) = false by simpa using hlt, cond_false]
      rw [List.take_of_length_le (by omega)] at hb
      exact ⟨c, rfl, hb⟩

theorem first_Bst {R : Frc → Frc → Prop} (hR : ∀ x, R x x) {L : List Frc} (h : 0 < L.length) : Bst R (· ∈ L.take 1) L[0] := by
  match L, h with
  | a :: L, _ => exact ⟨by simp, fun x hx => by simp at hx; subst hx; exact hR x⟩

theorem min_eq {n : Nat × Nat} (hn : 2000 ≤ n.1) {L : List Frc} (hF : ∀ x ∈ L, Fr x) (hl : L.length ≤ 1000) (h0 : 0 < L.length) : ∃ r, D102c88 n L = some r ∧ Bst fle (· ∈ L) r := by
  unfold D102c88
  rw [show decide ((L.length : Int) < 1) = false by simp; omega, cond_false, idx_zero h0]
  simp only [Option.bind_some]
  exact min_loop n L hF hl 0 0 n.1 1 L[0] h0 (by omega) (first_Bst fle_refl h0)

theorem max_loop (n : Nat × Nat) (L : List Frc) (hF : ∀ x ∈ L, Fr x) (hl : L.length ≤ 1000) (u v : Int) : ∀ (m k : Nat) (c : Frc), k ≤ L.length → L.length - k < m → Bst fge (· ∈ L.take k) c →
    ∃ r, DL103c88_1 n m L (k : Int) u v c.1 c.2 = some r ∧ Bst fge (· ∈ L) r
  | 0, k, c, _, h, _ => by omega
  | m + 1, k, c, hk, h, hb => by
    rw [DL103c88_1_succ]
    unfold DF103c88_1 DL103c88_2
    by_cases hlt : k < L.length
    · rw [show decide ((k : Int) < (L.length : Int)) = true by simpa using hlt, cond_true, idx_nat hlt]
      have hw : wr .i64 ((k : Int) + 1) = ((k + 1 : Nat) : Int) := by rw [wr_ok (by omega) (by omega)]; omega
      have hx := hF L[k] (List.getElem_mem hlt)
      have hc := hF c (List.mem_of_mem_take hb.1)
      simp only [Option.bind_some, Prod.eta, cmp_eq n hx hc, hw]
      have hS : ∀ x, x ∈ L.take (k + 1) → Fr x := fun x hx => hF x (List.mem_of_mem_take hx)
      by_cases hlt2 : L[k].1 * c.2 - c.1 * L[k].2 > 0
      · simp only [hlt2, decide_true, cond_true]
        exact max_loop n L hF hl u v m (k + 1) L[k] hlt (by omega) (hb.ext_ge hS (take_mem hlt) (by unfold fge fle; omega))
      · simp only [hlt2, decide_false, cond_false]
        exact max_loop n L hF hl u v m (k + 1) c hlt (by omega) (hb.keep (take_mem hlt) (by unfold fge fle; omega))
    · rw [show decide ((k : Int) < (L.length : Int)) = false by simpa using hlt, cond_false]
      rw [List.take_of_length_le (by omega)] at hb
      exact ⟨c, rfl, hb⟩

theorem max_eq {n : Nat × Nat} (hn : 2000 ≤ n.1) {L : List Frc} (hF : ∀ x ∈ L, Fr x) (hl : L.length ≤ 1000) (h0 : 0 < L.length) : ∃ r, D103c88 n L = some r ∧ Bst fge (· ∈ L) r := by
  unfold D103c88
  rw [show decide ((L.length : Int) < 1) = false by simp; omega, cond_false, idx_zero h0]
  simp only [Option.bind_some]
  exact max_loop n L hF hl 0 0 n.1 1 L[0] h0 (by omega) (first_Bst (R := fge) fle_refl h0)

theorem by_eq (n : Nat × Nat) {a b : Frc} (ha : Fr a) (hb : Fr b) {s : Int} (hs : s = 1 ∨ s = -1) : D101 n a b s = some (s * (a.1 * b.2 - b.1 * a.2)) := by
  have h1 := prodb ha.np ha.nl hb.dp hb.dl
  have h2 := prodb hb.np hb.nl ha.dp ha.dl
  unfold D101
  rw [cmp_eq n ha hb]
  simp only [Option.bind_some]
  rcases hs with rfl | rfl
  · rw [Int.one_mul, wr_ok (by omega) (by omega)]
  · rw [wr_ok (by omega) (by omega)]

theorem sgn_loop1 (n : Nat × Nat) (L : List Frc) (hF : ∀ x ∈ L, Fr x) (hl : L.length ≤ 1000) (u v : Int) : ∀ (m k : Nat) (c : Frc), k ≤ L.length → L.length - k < m → Bst fge (· ∈ L.take k) c →
    ∃ r, DL103c101_1 n m L 1 (k : Int) u v c.1 c.2 = some r ∧ Bst fge (· ∈ L) r
  | 0, k, c, _, h, _ => by omega
  | m + 1, k, c, hk, h, hb => by
    rw [DL103c101_1_succ]
    unfold DF103c101_1 DL103c101_2
    by_cases hlt : k < L.length
    · rw [show decide ((k : Int) < (L.length : Int)) = true by simpa using hlt, cond_true, idx_nat hlt]
      have hw : wr .i64 ((k : Int) + 1) = ((k + 1 : Nat) : Int) := by rw [wr_ok (by omega) (by omega)]; omega
      have hx := hF L[k] (List.getElem_mem hlt)
      have hc := hF c (List.mem_of_mem_take hb.1)
      simp only [Option.bind_some, Prod.eta, by_eq n hx hc (.inl rfl), hw]
      have hS : ∀ x, x ∈ L.take (k + 1) → Fr x := fun x hx => hF x (List.mem_of_mem_take hx)
      by_cases hlt2 : 1 * (L[k].1 * c.2 - c.1 * L[k].2) > 0
      · simp only [hlt2, decide_true, cond_true]
        exact sgn_loop1 n L hF hl u v m (k + 1) L[k] hlt (by omega) (hb.ext_ge hS (take_mem hlt) (by unfold fge fle; omega))
      · simp only [hlt2, decide_false, cond_false]
        exact sgn_loop1 n L hF hl u v m (k + 1) c hlt (by omega) (hb.keep (take_mem hlt) (by unfold fge fle; omega))
    · rw [show decide ((k : Int) < (L.length : Int)) = false by simpa using hlt, cond_false]
      rw [List.take_of_length_le (by omega)] at hb
      exact ⟨c, rfl, hb⟩

theorem sgn_loop2 (n : Nat × Nat) (L : List Frc) (hF : ∀ x ∈ L, Fr x) (hl : L.length ≤ 1000) (u v : Int) : ∀ (m k : Nat) (c : Frc), k ≤ L.length → L.length - k < m → Bst fle (· ∈ L.take k) c →
    ∃ r, DL103c101_1 n m L (-1) (k : Int) u v c.1 c.2 = some r ∧ Bst fle (· ∈ L) r
  | 0, k, c, _, h, _ => by omega
  | m + 1, k, c, hk, h, hb => by
    rw [DL103c101_1_succ]
    unfold DF103c101_1 DL103c101_2
    by_cases hlt : k < L.length
    · rw [show decide ((k : Int) < (L.length : Int)) = true by simpa using hlt, cond_true, idx_nat hlt]
      have hw : wr .i64 ((k : Int) + 1) = ((k + 1 : Nat) : Int) := by rw [wr_ok (by omega) (by omega)]; omega
      have hx := hF L[k] (List.getElem_mem hlt)
      have hc := hF c (List.mem_of_mem_take hb.1)
      simp only [Option.bind_some, Prod.eta, by_eq n hx hc (.inr rfl), hw]
      have hS : ∀ x, x ∈ L.take (k + 1) → Fr x := fun x hx => hF x (List.mem_of_mem_take hx)
      by_cases hlt2 : -1 * (L[k].1 * c.2 - c.1 * L[k].2) > 0
      · simp only [hlt2, decide_true, cond_true]
        exact sgn_loop2 n L hF hl u v m (k + 1) L[k] hlt (by omega) (hb.ext_le hS (take_mem hlt) (by unfold fle; omega))
      · simp only [hlt2, decide_false, cond_false]
        exact sgn_loop2 n L hF hl u v m (k + 1) c hlt (by omega) (hb.keep (take_mem hlt) (by unfold fle; omega))
    · rw [show decide ((k : Int) < (L.length : Int)) = false by simpa using hlt, cond_false]
      rw [List.take_of_length_le (by omega)] at hb
      exact ⟨c, rfl, hb⟩

theorem sgn_eq1 {n : Nat × Nat} (hn : 2000 ≤ n.1) {L : List Frc} (hF : ∀ x ∈ L, Fr x) (hl : L.length ≤ 1000) (h0 : 0 < L.length) : ∃ r, D103c101 n L 1 = some r ∧ Bst fge (· ∈ L) r := by
  unfold D103c101
  rw [show decide ((L.length : Int) < 1) = false by simp; omega, cond_false, idx_zero h0]
  simp only [Option.bind_some]
  exact sgn_loop1 n L hF hl 0 0 n.1 1 L[0] h0 (by omega) (first_Bst (R := fge) fle_refl h0)
theorem sgn_eq2 {n : Nat × Nat} (hn : 2000 ≤ n.1) {L : List Frc} (hF : ∀ x ∈ L, Fr x) (hl : L.length ≤ 1000) (h0 : 0 < L.length) : ∃ r, D103c101 n L (-1) = some r ∧ Bst fle (· ∈ L) r := by
  unfold D103c101
  rw [show decide ((L.length : Int) < 1) = false by simp; omega, cond_false, idx_zero h0]
  simp only [Option.bind_some]
  exact sgn_loop2 n L hF hl 0 0 n.1 1 L[0] h0 (by omega) (first_Bst fle_refl h0)

end Go.Proofs.Ytombednapelokaa
