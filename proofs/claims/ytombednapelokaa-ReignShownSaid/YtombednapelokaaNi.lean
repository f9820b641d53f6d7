/- Reign: plain laws: ReignShown. -/
import Derived.Test.YtombednapelokaaLG16
import Derived.Test.YtombednapelokaaNf
import Derived.Test.YtombednapelokaaNb
import Derived.Test.YtombednapelokaaMo
import Derived.Test.YtombednapelokaaViX
set_option linter.unusedVariables false
set_option linter.unusedSimpArgs false
namespace Go.Proofs.Ytombednapelokaa
open Go.Vi

theorem commonZ_eq {n : Nat × Nat} {a : Int} {b : Nat} (hb : b < n.1) (h1 : a.natAbs ≤ 9223372036854775807) (h2 : b ≤ 9223372036854775807) : D49 n a (b : Int) = some ((Nat.gcd a.natAbs b : Nat) : Int) := by
  unfold D49
  rw [wr_ok (x := 0 - a) (by omega) (by omega), absI, wr_ok (x := 0 - (b : Int)) (by omega) (by omega), absI, Int.natAbs_natCast]
  exact common_loop n n.1 a.natAbs b hb

/-- One step of sums of rests, as the program and the law go it. -/
theorem law_step {p num : Int} {q den K : Nat} (hq : 0 < q) (hd : 0 < den) (hd72 : den ≤ 72) (hK : K ≤ 7) (hqb : q ≤ 72 ^ K) (hp : p.natAbs ≤ 900 * K * q) (hnum : num.natAbs ≤ 900 * den) :
    ∃ (p' a : Int) (q' b g h : Nat), D80 N5 (p, (q : Int)) num (den : Int) = some (p', (q' : Int)) ∧ 0 < q' ∧ q' ≤ 72 ^ (K + 1) ∧ p'.natAbs ≤ 900 * (K + 1) * q' ∧
      D49 N5 (q : Int) (den : Int) = some (g : Int) ∧ (((g : Nat) : Int) == 0) = false ∧ wr .i64 (wr .i64 (p * wr .i64 (Int.tdiv (den : Int) (g : Int))) + wr .i64 (num * wr .i64 (Int.tdiv (q : Int) (g : Int)))) = a ∧
      wr .i64 (wr .i64 (Int.tdiv (q : Int) (g : Int)) * (den : Int)) = (b : Int) ∧ D49 N5 a (b : Int) = some (h : Int) ∧ (((h : Nat) : Int) == 0) = false ∧ wr .i64 (Int.tdiv a (h : Int)) = p' ∧ wr .i64 (Int.tdiv (b : Int) (h : Int)) = (q' : Int) := by
  have hn : 100000000000000000000 ≤ N5.1 := by decide
  have h72 : 72 ^ (K + 1) ≤ 722204136308736 := by
    have : 72 ^ (K + 1) ≤ 72 ^ 8 := Nat.pow_le_pow_right (by omega) (by omega)
    omega
  have hqs : q ≤ 722204136308736 := Nat.le_trans hqb (Nat.le_trans (Nat.pow_le_pow_right (by omega) (by omega)) h72)
  let d := Nat.gcd q den
  have hdp : 0 < d := Nat.gcd_pos_of_pos_left _ hq
  obtain ⟨q1, hq1⟩ : d ∣ q := Nat.gcd_dvd_left _ _
  obtain ⟨d1, hd1⟩ : d ∣ den := Nat.gcd_dvd_right _ _
  have hq1p : 0 < q1 := Nat.pos_of_ne_zero (by rintro rfl; simp at hq1; omega)
  have hd1p : 0 < d1 := Nat.pos_of_ne_zero (by rintro rfl; simp at hd1; omega)
  have eq1 : q / d = q1 := by rw [hq1]; exact Nat.mul_div_cancel_left _ hdp
  have ed1 : den / d = d1 := by rw [hd1]; exact Nat.mul_div_cancel_left _ hdp
  have hq1q : q1 ≤ q := by rw [hq1]; exact Nat.le_mul_of_pos_left _ hdp
  have hd1d : d1 ≤ den := by rw [hd1]; exact Nat.le_mul_of_pos_left _ hdp
  have hM : q1 * den = q * d1 := by rw [hq1, hd1, Nat.mul_left_comm, Nat.mul_assoc]
  have hM1 : q1 * den ≤ 72 ^ (K + 1) := by
    rw [Nat.pow_succ]
    exact Nat.mul_le_mul (Nat.le_trans hq1q hqb) hd72
  have hb1 : (p * (d1 : Int)).natAbs ≤ 900 * K * (q1 * den) := by
    rw [Int.natAbs_mul, Int.natAbs_natCast, hM, ← Nat.mul_assoc]
    exact Nat.mul_le_mul_right _ hp
  have hb2 : (num * (q1 : Int)).natAbs ≤ 900 * (q1 * den) := by
    rw [Int.natAbs_mul, Int.natAbs_natCast, Nat.mul_comm q1 den, ← Nat.mul_assoc]
    exact Nat.mul_le_mul_right _ hnum
  have hKb : 900 * K * (q1 * den) ≤ 6300 * 722204136308736 := Nat.mul_le_mul (by omega) (by omega)
  have hsum : 900 * K * (q1 * den) + 900 * (q1 * den) = 900 * (K + 1) * (q1 * den) := by rw [← Nat.add_mul, Nat.mul_add, Nat.mul_one]
  have hN1 : (p * (d1 : Int) + num * (q1 : Int)).natAbs ≤ 900 * (K + 1) * (q1 * den) := by omega
  have hM1p : 0 < q1 * den := Nat.mul_pos hq1p hd
  have g0 : ((((Nat.gcd q den : Nat) : Int)) == 0) = false := by
    have : 0 < Nat.gcd q den := hdp
    simp
    omega
  have e1 : Int.tdiv (den : Int) (Nat.gcd q den : Nat) = (d1 : Int) := by rw [← ed1]; rfl
  have e2 : Int.tdiv (q : Int) (Nat.gcd q den : Nat) = (q1 : Int) := by rw [← eq1]; rfl
  have hprog : D80 N5 (p, (q : Int)) num (den : Int) = some (redZ (p * (d1 : Int) + num * (q1 : Int)) (q1 * den)) := by
    unfold D80 D105
    rw [gcd_loop N5 N5.1 q den (by show _ < 100000000000000000000; omega)]
    simp only [Option.bind_some]
    simp only [g0, cond_false, e1, e2]
    rw [wr_nat (x := d1) (by omega), wr_nat (x := q1) (by omega), wr_ok (x := p * (d1 : Int)) (by omega) (by omega), wr_ok (x := num * (q1 : Int)) (by omega) (by omega), wr_ok (x := p * (d1 : Int) + num * (q1 : Int)) (by omega) (by omega),
      ← Int.natCast_mul, wr_nat (by omega), reducedZ_eq hn hM1p (by omega) (by omega)]
    rfl
  obtain ⟨p', q', hh, z1, z2, z3, ea, eb, ec⟩ := redZ_spec (p * (d1 : Int) + num * (q1 : Int)) hM1p
  have z1' := z1
  unfold redZ at z1'
  simp only [Prod.mk.injEq] at z1'
  have hH : 0 < Nat.gcd (p * (d1 : Int) + num * (q1 : Int)).natAbs (q1 * den) := Nat.gcd_pos_of_pos_right _ hM1p
  have hpb : p'.natAbs ≤ 900 * (K + 1) * q' := by
    rw [ea, eb, Int.natAbs_mul, Int.natAbs_natCast, ← Nat.mul_assoc] at hN1
    exact Nat.le_of_mul_le_mul_right hN1 z2
  have hqb' : q' ≤ 72 ^ (K + 1) := by
    refine Nat.le_trans ?_ hM1
    rw [eb]
    exact Nat.le_mul_of_pos_right _ z2
  have hpb2 : p'.natAbs ≤ 7200 * 722204136308736 := Nat.le_trans hpb (Nat.mul_le_mul (by omega) (by omega))
  refine ⟨p', p * (d1 : Int) + num * (q1 : Int), q', q1 * den, Nat.gcd q den, Nat.gcd (p * (d1 : Int) + num * (q1 : Int)).natAbs (q1 * den), by rw [hprog, z1], z3, hqb', hpb, ?_, g0, ?_, ?_, ?_, by simp; omega, ?_, ?_⟩
  · exact common_eq (by show _ < 100000000000000000000; omega) (by omega) (by omega)
  · rw [e1, e2, wr_nat (x := d1) (by omega), wr_nat (x := q1) (by omega), wr_ok (x := p * (d1 : Int)) (by omega) (by omega), wr_ok (x := num * (q1 : Int)) (by omega) (by omega), wr_ok (x := p * (d1 : Int) + num * (q1 : Int)) (by omega) (by omega)]
  · rw [e2, wr_nat (x := q1) (by omega), ← Int.natCast_mul, wr_nat (by omega)]
  · exact commonZ_eq (by show _ < 100000000000000000000; omega) (by omega) (by omega)
  · rw [z1'.1, wr_ok (by omega) (by omega)]
  · have : Int.tdiv ((q1 * den : Nat) : Int) ((Nat.gcd (p * (d1 : Int) + num * (q1 : Int)).natAbs (q1 * den) : Nat) : Int) = (q' : Int) := z1'.2
    rw [this, wr_nat (by omega)]

/-! ### All sums of rests -/
def prv (R : List Frc) (k : Nat) : Frc := if k = 0 then (0, 1) else (R[k - 1]?).getD (0, 1)
def num1 (l : List Src) (v : List Frc) (k : Nat) (h : k < l.length) (h' : k < v.length) : Int := l[k].2 * (l[k].1 * v[k].2 - v[k].1)
structure BdS (k : Nat) (s : Frc) : Prop where
  dp : 0 < s.2
  dl : s.2 ≤ ((72 ^ k : Nat) : Int)
  nl : (s.1.natAbs : Int) ≤ 900 * k * s.2

theorem prv_app (R : List Frc) (z : Frc) {k : Nat} (h : k ≤ R.length) : prv (R ++ [z]) k = prv R k := by
  unfold prv
  by_cases hk : k = 0
  · rw [if_pos hk, if_pos hk]
  · rw [if_neg hk, if_neg hk, List.getElem?_append_left (by omega)]
theorem prv_last (R : List Frc) (z : Frc) : prv (R ++ [z]) (R.length + 1) = z := by simp [prv]

theorem BdS.get {k : Nat} {s : Frc} (h : BdS k s) : ∃ q : Nat, s = (s.1, (q : Int)) ∧ 0 < q ∧ q ≤ 72 ^ k ∧ s.1.natAbs ≤ 900 * k * q := by
  obtain ⟨p, q⟩ := s
  obtain ⟨h1, h2, h3⟩ := h
  simp only at h1 h2 h3 ⊢
  obtain ⟨q, rfl⟩ := Int.eq_ofNat_of_zero_le (Int.le_of_lt h1)
  refine ⟨q, rfl, by omega, by exact_mod_cast h2, ?_⟩
  have : ((900 * k * q : Nat) : Int) = 900 * (k : Int) * (q : Int) := by simp
  omega

theorem run_loop {l : List Src} {v : List Frc} (hg : Good l) (hl : v.length = l.length) (hv : ∀ f ∈ v, Bd f) : ∀ (m k : Nat) (out : List Frc), k ≤ l.length → l.length - k < m → out.length = k → (∀ j, j ≤ k → BdS j (prv out j)) →
    (∀ j (h : j < out.length) (h1 : j < l.length) (h2 : j < v.length), D80 N5 (prv out j) (num1 l v j h1 h2) v[j].2 = some out[j]) →
    ∃ R, R.length = l.length ∧ DL83_1 N5 m v l (l.length : Int) (k : Int) (prv out k).1 (prv out k).2 out = some R ∧ (∀ j, j ≤ l.length → BdS j (prv R j)) ∧ ∀ j (h : j < R.length) (h1 : j < l.length) (h2 : j < v.length), D80 N5 (prv R j) (num1 l v j h1 h2) v[j].2 = some R[j]
  | 0, k, _, _, h, _, _, _ => by omega
  | m + 1, k, out, hk, h, ho, hb, hst => by
    have hle := hg.le
    rw [DL83_1_succ]
    unfold DF83_1
    by_cases hlt : k < l.length
    · have hltv : k < v.length := by omega
      rw [show decide ((k : Int) < (l.length : Int)) = true by simpa using hlt, cond_true, idx_nat hlt, idx_nat hltv]
      have hs := hg.all l[k] (List.getElem_mem hlt)
      have hf := hv v[k] (List.getElem_mem hltv)
      obtain ⟨e1, e2⟩ := rest_bound hs hf
      simp only [Option.bind_some]
      rw [e1]
      obtain ⟨dn, hdn⟩ := Int.eq_ofNat_of_zero_le (show 0 ≤ v[k].2 by have := hf.dp; omega)
      have hd1 : 0 < dn := by have := hf.dp; omega
      have hd2 : dn ≤ 72 := by have := hf.dl; omega
      obtain ⟨q, hqe, hq1, hq2, hq3⟩ := (hb k (Nat.le_refl _)).get
      rw [hdn, Int.toNat_natCast] at e2
      rw [← hdn] at e2
      obtain ⟨p', a, q', b, g, hh, a1, a2, a3, a4, _⟩ := law_step (p := (prv out k).1) (num := l[k].2 * (l[k].1 * v[k].2 - v[k].1)) (K := k) hq1 hd1 hd2 (by omega) hq2 hq3 e2
      rw [← hqe] at a1
      have a1' : D80 N5 ((prv out k).1, (prv out k).2) (l[k].2 * (l[k].1 * v[k].2 - v[k].1)) v[k].2 = some (p', (q' : Int)) := by
        rw [← a1, hdn]
      rw [a1']
      simp only [Option.bind_some]
      rw [show decide (out.length + [(p', (q' : Int))].length ≤ lim) = true by simp [lim]; omega, cond_true, show wr .i64 ((k : Int) + 1) = ((k + 1 : Nat) : Int) by rw [wr_ok (by omega) (by omega)]; omega]
      have hz : prv (out ++ [(p', (q' : Int))]) (k + 1) = (p', (q' : Int)) := by rw [← ho]; exact prv_last _ _
      obtain ⟨R, r1, r2, r3, r4⟩ := run_loop hg hl hv m (k + 1) (out ++ [(p', (q' : Int))]) (by omega) (by omega) (by simp; omega) (fun j hj => by
        by_cases hjk : j ≤ k
        · rw [prv_app _ _ (by omega)]
          exact hb j hjk
        · have : j = k + 1 := by omega
          subst this
          rw [hz]
          refine ⟨by simp only; omega, by simp only; exact_mod_cast a3, ?_⟩
          simp only
          have : ((900 * (k + 1) * q' : Nat) : Int) = 900 * ((k + 1 : Nat) : Int) * (q' : Int) := by simp
          omega) (fun j hj h1 h2 => by
        rw [prv_app _ _ (by simp at hj; omega)]
        by_cases hjk : j < out.length
        · rw [hst j hjk h1 h2, List.getElem_append_left hjk]
        · have hjk' : j = k := by simp at hj; omega
          subst hjk'
          rw [List.getElem_append_right (by omega)]
          simp only [ho, Nat.sub_self, List.getElem_cons_zero]
          exact a1')
      rw [hz] at r2
      exact ⟨R, r1, r2, r3, r4⟩
    · rw [show decide ((k : Int) < (l.length : Int)) = false by simpa using hlt, cond_false]
      have : k = l.length := by omega
      subst this
      exact ⟨out, by omega, rfl, hb, hst⟩

theorem run_eq {l : List Src} {v : List Frc} (hg : Good l) (hl : v.length = l.length) (hv : ∀ f ∈ v, Bd f) : ∃ R, R.length = l.length ∧ D83 N5 l v = some R ∧ (∀ j, j ≤ l.length → BdS j (prv R j)) ∧ ∀ j (h : j < R.length) (h1 : j < l.length) (h2 : j < v.length), D80 N5 (prv R j) (num1 l v j h1 h2) v[j].2 = some R[j] := by
  have hle := hg.le
  unfold D83
  exact run_loop hg hl hv N5.1 0 [] (by omega) (by show _ < 100000000000000000000; omega) rfl (fun j hj => by
    have : j = 0 := by omega
    subst this
    exact ⟨by decide, by decide, by decide⟩) (by simp)

/-! ### The law -/
def den72 (v : List Frc) : Bool := v.any fun f => decide (f.2 > 72)
structure Pr (f : Frc) : Prop where
  dp : 1 ≤ f.2
  dl : f.2 ≤ 74
  np : 0 ≤ f.1
  nl : f.1 ≤ 100 * f.2

theorem Pr.bad {f : Frc} (h : Pr f) : badB f = decide (f.2 > 72) := by
  unfold badB
  rw [decide_eq_true h.dp, decide_eq_true h.np, decide_eq_true h.nl]
  by_cases c : f.2 ≤ 72
  · rw [decide_eq_true c, decide_eq_false (show ¬ f.2 > 72 by omega)]
    rfl
  · rw [decide_eq_false c, decide_eq_true (show f.2 > 72 by omega)]
    rfl

theorem below_lt {a b : Frc} (ha : Bd a) (hb : Bd b) : ∃ z : Int, D62 N5 a b = some z ∧ decide (z < 0) = ltB a b := by
  have h1 := Bd.prod ha hb
  have h2 := Bd.prod hb ha
  refine ⟨a.1 * b.2 - b.1 * a.2, ?_, lt_neg⟩
  unfold D62
  rw [wr_ok (x := a.1 * b.2) (by omega) (by omega), wr_ok (x := b.1 * a.2) (by omega) (by omega), wr_ok (x := _ - _) (by omega) (by omega)]

section
variable {l : List Src} (hg : Good l) {v v11 : List Frc} {o w : Nat} (hvw : (v11.drop o).take w = v) (hv8 : v.length ≤ 8)
include hg hvw hv8

omit hg in
theorem s2 : ∀ (m k : Nat) (want : Int), k ≤ v.length → v.length - k < m → DL16_2 N5 m o w want o w (v.length : Int) (k : Int) l v11 = DL16_4 N5 N5.1 o w (bif (want == 0) && den72 (v.drop k) then 1 else want) 1 l v11
  | 0, k, _, _, h => by omega
  | m + 1, k, want, hk, h => by
    rw [DL16_2_succ]
    unfold DF16_2 DL16_3
    rw [hvw]
    by_cases hlt : k < v.length
    · have hw : wr .i64 ((k : Int) + 1) = ((k + 1 : Nat) : Int) := by rw [wr_ok (by omega) (by omega)]; omega
      have hin : inB (k : Int) v.length = true := by simp [inB]; omega
      have hd : den72 (v.drop k) = (decide (v[k].2 > 72) || den72 (v.drop (k + 1))) := by
        rw [List.drop_eq_getElem_cons hlt]
        rfl
      rw [show decide ((k : Int) < (v.length : Int)) = true by simpa using hlt, cond_true, hin, cond_true, idx_nat hlt, hw, hd]
      simp only [Option.bind_some, andB]
      cases c1 : want == 0 with
      | true =>
        cases c2 : decide (v[k].2 > 72) with
        | true =>
          simp only [Bool.true_and, cond_true]
          rw [s2 m (k + 1) 1 hlt (by omega)]
          rfl
        | false =>
          simp only [Bool.true_and, cond_false, Bool.false_or]
          rw [s2 m (k + 1) want hlt (by omega), c1]
          rfl
      | false =>
        simp only [Bool.false_and, cond_false]
        rw [s2 m (k + 1) want hlt (by omega), c1]
        rfl
    · rw [show decide ((k : Int) < (v.length : Int)) = false by simpa using hlt, cond_false, List.drop_of_length_le (by omega)]
      simp [den72]

omit hg in
theorem s4 (T : Option Bool) (want : Int) (hT : (bif (want == 0) then DL16_6 N5 N5.1 o w want 0 1 (l.length : Int) 0 l v11 else (D39 N5 l v).bind fun r13' => ((bif ((r13' == want) == true) then (D18 N5).bind fun r14' => some r14' else some false)).bind fun b15' => some b15') = T)
    (hw0 : want ≠ 0 ∨ Up v) (hbd : want = 0 → ∀ f ∈ v, Bd f) : ∀ (m k : Nat), v.length - k < m → DL16_4 N5 m o w want ((k + 1 : Nat) : Int) l v11 = T
  | 0, k, h => by omega
  | m + 1, k, h => by
    rw [DL16_4_succ]
    unfold DF16_4 DL16_5
    rw [hvw]
    by_cases hlt : k + 1 < v.length
    · have hw : wr .i64 (((k + 1 : Nat) : Int) + 1) = ((k + 1 + 1 : Nat) : Int) := by rw [wr_ok (by omega) (by omega)]; omega
      have hw2 : wr .i64 (((k + 1 : Nat) : Int) - 1) = (k : Int) := by rw [wr_ok (by omega) (by omega)]; omega
      have hin : inB ((k + 1 : Nat) : Int) v.length = true := by simp [inB]; omega
      have hin2 : inB (k : Int) v.length = true := by simp [inB]; omega
      rw [show decide (((k + 1 : Nat) : Int) < (v.length : Int)) = true by simp only [decide_eq_true_eq]; omega, cond_true, hin, hw, hw2, hin2, idx_nat hlt, idx_nat (show k < v.length by omega)]
      have ih := s4 T want hT hw0 hbd m (k + 1) (by omega)
      by_cases c : want = 0
      · have hu := hw0.resolve_left (fun h => h c)
        obtain ⟨z, z1, z2⟩ := below_lt (hbd c _ (List.getElem_mem hlt)) (hbd c _ (List.getElem_mem (show k < v.length by omega)))
        rw [hu k hlt] at z2
        rw [show (want == 0) = true by simpa using c]
        simp only [show (true == true) = true from rfl, cond_true, Option.bind_some, z1, z2, cond_false]
        exact ih
      · rw [show (want == 0) = false by simpa using c]
        simp only [show (false == true) = false from rfl, cond_false, Option.bind_some]
        exact ih
    · rw [show decide (((k + 1 : Nat) : Int) < (v.length : Int)) = false by simp only [decide_eq_false_iff_not]; omega, cond_false]
      exact hT

omit hg in
/-- Values that fall. -/
theorem s4d (h39 : D39 N5 l v = some 7) (hbd : ∀ f ∈ v, Bd f) : ∀ (m k : Nat), v.length - k < m → (¬ ∀ j (h : j + 1 < v.length), k ≤ j → ltB v[j + 1] v[j] = false) → DL16_4 N5 m o w 0 ((k + 1 : Nat) : Int) l v11 = some true
  | 0, k, h, _ => by omega
  | m + 1, k, h, hnu => by
    by_cases hlt : k + 1 < v.length
    · rw [DL16_4_succ]
      unfold DF16_4 DL16_5
      rw [hvw]
      have hw : wr .i64 (((k + 1 : Nat) : Int) + 1) = ((k + 1 + 1 : Nat) : Int) := by rw [wr_ok (by omega) (by omega)]; omega
      have hw2 : wr .i64 (((k + 1 : Nat) : Int) - 1) = (k : Int) := by rw [wr_ok (by omega) (by omega)]; omega
      have hin : inB ((k + 1 : Nat) : Int) v.length = true := by simp [inB]; omega
      have hin2 : inB (k : Int) v.length = true := by simp [inB]; omega
      rw [show decide (((k + 1 : Nat) : Int) < (v.length : Int)) = true by simp only [decide_eq_true_eq]; omega, cond_true, hin, hw, hw2, hin2, idx_nat hlt, idx_nat (show k < v.length by omega)]
      obtain ⟨z, z1, z2⟩ := below_lt (hbd _ (List.getElem_mem hlt)) (hbd _ (List.getElem_mem (show k < v.length by omega)))
      simp only [show (((0 : Int) == 0) == true) = true from rfl, cond_true, Option.bind_some, z1, z2]
      cases c : ltB v[k + 1] v[k] with
      | true =>
        simp only [cond_true]
        refine s4 (l := l) hvw hv8 (some true) 7 ?_ (.inl (by omega)) (fun h => by omega) m (k + 1) (by omega)
        rw [h39]
        simp only [show ((7 : Int) == 0) = false from rfl, cond_false, Option.bind_some, show (((7 : Int) == 7) == true) = true from rfl, cond_true, works_val5]
      | false =>
        simp only [cond_false]
        refine s4d h39 hbd m (k + 1) (by omega) fun hu => hnu fun j hj hkj => ?_
        by_cases hjk : j = k
        · subst hjk
          exact c
        · exact hu j hj (by omega)
    · exact absurd (fun j hj hkj => by omega) hnu
end

section
variable {l : List Src} (hg : Good l) {v v11 R : List Frc} {o w : Nat} (hvw : (v11.drop o).take w = v) (hl : v.length = l.length) (hbd : ∀ f ∈ v, Bd f) (hR : R.length = l.length) (hB : ∀ j, j ≤ l.length → BdS j (prv R j))
  (hS : ∀ j (h : j < R.length) (h1 : j < l.length) (h2 : j < v.length), D80 N5 (prv R j) (num1 l v j h1 h2) v[j].2 = some R[j])
include hg hvw hl hbd hR hB hS

theorem s6 : ∀ (m k f : Nat), k ≤ l.length → l.length - k < m → l.length - k < f → D39 N5 l v = DL39_1 N5 f l v (l.length : Int) (k : Int) R → DL16_6 N5 m o w 0 (prv R k).1 (prv R k).2 (l.length : Int) (k : Int) l v11 = some true
  | 0, k, _, _, h, _, _ => by omega
  | m + 1, k, 0, _, _, h, _ => by omega
  | m + 1, k, f + 1, hk, h, hf, h39 => by
    have h8 := hg.le
    rw [DL39_1_succ] at h39
    unfold DF39_1 at h39
    rw [DL16_6_succ]
    unfold DF16_6
    rw [hvw]
    by_cases hlt : k < l.length
    · have hltR : k < R.length := by omega
      have hltv : k < v.length := by omega
      have hiR : inB (k : Int) R.length = true := by simp [inB]; omega
      have hiv : inB (k : Int) v.length = true := by simp [inB]; omega
      have hil : inB (k : Int) l.length = true := by simp [inB]; omega
      have hw : wr .i64 ((k : Int) + 1) = ((k + 1 : Nat) : Int) := by rw [wr_ok (by omega) (by omega)]; omega
      have hs := hg.all l[k] (List.getElem_mem hlt)
      have hfb := hbd v[k] (List.getElem_mem hltv)
      obtain ⟨e1, e2⟩ := rest_bound hs hfb
      obtain ⟨dn, hdn⟩ := Int.eq_ofNat_of_zero_le (show 0 ≤ v[k].2 by have := hfb.dp; omega)
      have hd1 : 0 < dn := by have := hfb.dp; omega
      have hd2 : dn ≤ 72 := by have := hfb.dl; omega
      obtain ⟨q, hqe, hq1, hq2, hq3⟩ := (hB k (by omega)).get
      rw [hdn, Int.toNat_natCast] at e2
      rw [← hdn] at e2
      obtain ⟨p', a, q', b, g, hh, a1, a2, a3, a4, a5, a6, a7, a8, a9, a10, a11, a12⟩ := law_step (p := (prv R k).1) (num := l[k].2 * (l[k].1 * v[k].2 - v[k].1)) (K := k) hq1 hd1 hd2 (by omega) hq2 hq3 e2
      have hRk : R[k] = (p', (q' : Int)) := by
        have h1 := hS k hltR hlt hltv
        unfold num1 at h1
        rw [hqe, hdn] at h1
        rw [hdn] at a1
        rw [a1] at h1
        exact (Option.some.inj h1).symm
      have hnx : prv R (k + 1) = (p', (q' : Int)) := by
        unfold prv
        rw [if_neg (by omega), Nat.add_sub_cancel, List.getElem?_eq_getElem hltR, hRk]
        rfl
      have hq2' : (prv R k).2 = (q : Int) := by rw [hqe]
      rw [show decide ((k : Int) < (l.length : Int)) = true by simpa using hlt] at h39 ⊢
      simp only [cond_true, hiR, idx_nat hltR, idx_nat hltv, Option.bind_some, hw, hRk] at h39
      simp only [cond_true, hil, hiv, idx_nat hlt, idx_nat hltv, Option.bind_some, hw]
      rw [e1, hq2', hdn, a5]
      rw [hdn] at a7
      simp only [Option.bind_some, a6, cond_false]
      rw [a7, a8, a9]
      simp only [Option.bind_some, a10, cond_false, a11, a12]
      have ih := s6 m (k + 1) f (by omega) (by omega) (by omega)
      rw [hnx] at ih
      have bad : D39 N5 l v = some 14 → ((D39 N5 l v).bind fun r30' => ((bif ((r30' == 14) == true) then (D18 N5).bind fun r31' => some r31' else some false)).bind fun b32' => some b32') = some true := by
        intro h14
        rw [h14]
        simp only [Option.bind_some, show (((14 : Int) == 14) == true) = true from rfl, cond_true, works_val5]
      by_cases hend : k + 1 = l.length
      · rw [show (((k + 1 : Nat) : Int) == (l.length : Int)) = true by simp; omega] at h39 ⊢
        simp only [show (true == false) = false from rfl, cond_false, Option.bind_some, show (true == true) = true from rfl, cond_true, orB, andB, Bool.and_true, Bool.true_and] at h39 ⊢
        cases c : decide (p' < 0) || decide (p' > 0) with
        | true =>
          rw [c] at h39
          simp only [cond_true] at h39 ⊢
          exact bad h39
        | false =>
          rw [c] at h39
          simp only [cond_false] at h39 ⊢
          exact ih h39
      · have hlt2 : k + 1 < v.length := by omega
        have hiv2 : inB ((k + 1 : Nat) : Int) v.length = true := by simp [inB]; omega
        have hb2 := hbd v[k + 1] (List.getElem_mem hlt2)
        obtain ⟨z, z1, z2⟩ := below_lt hfb hb2
        rw [show (((k + 1 : Nat) : Int) == (l.length : Int)) = false by simp; omega] at h39 ⊢
        simp only [show (false == false) = true from rfl, cond_true, Option.bind_some, idx_nat hlt2, cmpB_eq N5 hfb hb2, lt_neg, andB, orB] at h39
        simp only [show (false == false) = true from rfl, cond_true, Option.bind_some, hiv2, idx_nat hlt2, z1, z2, andB, orB]
        rw [Bool.and_comm] at h39
        cases c : decide (p' < 0) || (decide (p' > 0) && ltB v[k] v[k + 1]) with
        | true =>
          rw [c] at h39
          simp only [cond_true] at h39 ⊢
          exact bad h39
        | false =>
          rw [c] at h39
          simp only [cond_false] at h39 ⊢
          exact ih h39
    · rw [show decide ((k : Int) < (l.length : Int)) = false by simpa using hlt] at h39 ⊢
      simp only [cond_false] at h39 ⊢
      rw [h39]
      simp only [Option.bind_some, show (((0 : Int) == 0) == true) = true from rfl, cond_true, works_val5]
end

/-- The law, for any values. -/
theorem shown_any {l : List Src} (hg : Good l) {v v11 : List Frc} {o w : Nat} (hvw : (v11.drop o).take w = v) (hv8 : v.length ≤ 8) (hp : ∀ f ∈ v, Pr f) :
    DL16_2 N5 N5.1 o w (bif ((v.length : Int) != (l.length : Int)) then 5 else 0) o w (v.length : Int) 0 l v11 = some true := by
  have h8 := hg.le
  have hpos := hg.pos
  have big : ∀ k : Nat, v.length - k < N5.1 := fun k => by show _ < 100000000000000000000; omega
  have h2 := s2 (l := l) hvw hv8 N5.1 0 (bif ((v.length : Int) != (l.length : Int)) then 5 else 0) (by omega) (big 0)
  simp only [Int.natCast_zero, List.drop_zero] at h2
  rw [h2]
  have c1 := chk_eq (n := N5) (by decide) l
  rw [good_chk hg] at c1
  have one : ((0 + 1 : Nat) : Int) = 1 := rfl
  by_cases hl : v.length = l.length
  · have hne : (((v.length : Int)) != (l.length : Int)) = false := by simp; omega
    have hany : v.any badB = den72 v := by
      unfold den72
      have : ∀ (u : List Frc), (∀ f ∈ u, Pr f) → u.any badB = u.any fun f => decide (f.2 > 72) := by
        intro u
        induction u with
        | nil => intro _; rfl
        | cons f u ih => intro h; rw [List.any_cons, List.any_cons, (h f (by simp)).bad, ih fun g hg => h g (by simp [hg])]
      exact this v hp
    have h39 : D39 N5 l v = bif den72 v then some 1 else (D87c88 N5 v).bind fun r3' => (bif (!r3') then some 7 else (D83 N5 l v).bind fun r4' => DL39_1 N5 N5.1 l v (r4'.length : Int) 0 r4') := by
      unfold D39
      rw [c1]
      simp only [Option.bind_some, bne_self_eq_false, cond_false, hne, anybad_eq (n := N5) (v := v) (by decide) (by omega), hany]
    rw [hne]
    simp only [cond_false, beq_self_eq_true, Bool.true_and]
    cases hd : den72 v with
    | true =>
      rw [hd] at h39
      simp only [cond_true] at h39 ⊢
      have := s4 (l := l) hvw hv8 (some true) 1 (by
        rw [h39]
        simp only [show ((1 : Int) == 0) = false from rfl, cond_false, Option.bind_some, show (((1 : Int) == 1) == true) = true from rfl, cond_true, works_val5]) (.inl (by omega)) (fun h => by omega) N5.1 0 (big 0)
      rw [one] at this
      exact this
    | false =>
      rw [hd] at h39
      simp only [cond_false] at h39 ⊢
      have hbd : ∀ f ∈ v, Bd f := fun f hf => badB_Bd (by
        have := List.any_eq_false.1 (hany.trans hd) f hf
        simpa using this)
      obtain ⟨b, s1, s2⟩ := sorted_eq (n := N5) (by decide) hbd (by omega) (by omega)
      rw [s1] at h39
      simp only [Option.bind_some] at h39
      cases b with
      | true =>
        obtain ⟨R, r1, r2, r3, r4⟩ := run_eq hg hl hbd
        rw [r2] at h39
        simp only [Bool.not_true, cond_false, Option.bind_some, r1] at h39
        have h6 := s6 hg hvw hl hbd r1 r3 r4 N5.1 0 N5.1 (by omega) (by show _ < 100000000000000000000; omega) (by show _ < 100000000000000000000; omega) (by rw [Int.natCast_zero]; exact h39)
        rw [show prv R 0 = (0, 1) from rfl, Int.natCast_zero] at h6
        simp only at h6
        have := s4 (l := l) hvw hv8 (some true) 0 (by rw [show ((0 : Int) == 0) = true from rfl, cond_true]; exact h6) (.inr (s2.1 rfl)) (fun _ => hbd) N5.1 0 (big 0)
        rw [one] at this
        exact this
      | false =>
        simp only [Bool.not_false, cond_true] at h39
        have := s4d (l := l) hvw hv8 h39 hbd N5.1 0 (big 0) (fun hu => by
          have := s2.2 fun j hj => hu j hj (by omega)
          cases this)
        rw [one] at this
        exact this
  · have hne : (((v.length : Int)) != (l.length : Int)) = true := by simp; omega
    have h39 : D39 N5 l v = some 5 := by
      unfold D39
      rw [c1]
      simp only [Option.bind_some, bne_self_eq_false, cond_false, hne, cond_true]
    rw [hne]
    simp only [cond_true, show ((5 : Int) == 0) = false from rfl, Bool.false_and, cond_false]
    have := s4 (l := l) hvw hv8 (some true) 5 (by
      rw [h39]
      simp only [show ((5 : Int) == 0) = false from rfl, cond_false, Option.bind_some, show (((5 : Int) == 5) == true) = true from rfl, cond_true, works_val5]) (.inl (by omega)) (fun h => by omega) N5.1 0 (big 0)
    rw [one] at this
    exact this

theorem s1_loop {l : List Src} {V : List Frc} (hV : V.length ≤ 8) (hv : ∀ f ∈ V, Val f) {d : Int} (hd : 1 ≤ d ∧ d ≤ 74) (lg : Int) {a1 a2 a3 a4 a5 a6 a7 a8 : Int} (hY : ∀ x ∈ [a1, a2, a3, a4, a5, a6, a7, a8], 0 ≤ x ∧ x ≤ 255) : ∀ (m k : Nat) (out : List Frc), k ≤ V.length → V.length - k < m → out.length = k → (∀ f ∈ out, Pr f) →
    ∃ v, v.length = V.length ∧ (∀ f ∈ v, Pr f) ∧ DL16_1 N5 m lg d (V.length : Int) (k : Int) a1 a2 a3 a4 a5 a6 a7 a8 l out V = DL16_1 N5 1 lg d (V.length : Int) (V.length : Int) a1 a2 a3 a4 a5 a6 a7 a8 l v V
  | 0, k, _, _, h, _, _ => by omega
  | m + 1, k, out, hk, h, ho, hp => by
    by_cases hlt : k < V.length
    · rw [DL16_1_succ]
      unfold DF16_1
      obtain ⟨x, hx, ex⟩ := idx_mem (l := [a1, a2, a3, a4, a5, a6, a7, a8]) (i := (k : Int)) (by omega) (by simp; omega)
      have hx' := hY x hx
      have hin : inB (k : Int) V.length = true := by simp [inB]; omega
      have hin8 : inB (k : Int) 8 = true := by simp [inB]; omega
      have hw : wr .i64 ((k : Int) + 1) = ((k + 1 : Nat) : Int) := by rw [wr_ok (by omega) (by omega)]; omega
      have hf := hv V[k] (List.getElem_mem hlt)
      have hlim : ∀ f : Frc, decide (out.length + [f].length ≤ lim) = true := fun f => by simp [lim]; omega
      rw [show decide ((k : Int) < (V.length : Int)) = true by simpa using hlt, cond_true, hin, cond_true, idx_nat hlt]
      simp only [Option.bind_some, hin8, cond_true, ex, show ((3 : Int) == 0) = false from rfl, show ((3 : Nat) == 0) = false from rfl, cond_false, D52, hlim, hw]
      have next : ∀ f : Frc, Pr f → ∃ v, v.length = V.length ∧ (∀ f ∈ v, Pr f) ∧ DL16_1 N5 m lg d (V.length : Int) ((k + 1 : Nat) : Int) a1 a2 a3 a4 a5 a6 a7 a8 l (out ++ [f]) V = DL16_1 N5 1 lg d (V.length : Int) (V.length : Int) a1 a2 a3 a4 a5 a6 a7 a8 l v V := fun f hf =>
        s1_loop hV hv hd lg hY m (k + 1) (out ++ [f]) hlt (by omega) (by simp [ho]) (fun g hg => by
          rcases List.mem_append.1 hg with hg | hg
          · exact hp g hg
          · rw [List.mem_singleton.1 hg]
            exact hf)
      by_cases c : x < 40
      · rw [decide_eq_true c, cond_true]
        have m1 : 0 ≤ x * d := Int.mul_nonneg hx'.1 (by omega)
        have m2 : x * d ≤ 40 * d := Int.mul_le_mul_of_nonneg_right (by omega) (by omega)
        rw [wr_ok (x := x) (by omega) (by omega), wr_ok (x := x * d) (by omega) (by omega)]
        have t1 : 0 ≤ Int.tdiv (x * d) 3 := Int.tdiv_nonneg m1 (by omega)
        have t2 : Int.tdiv (x * d) 3 ≤ x * d := Int.tdiv_le_self _ m1
        rw [wr_ok (x := Int.tdiv (x * d) 3) (by omega) (by omega)]
        exact next _ ⟨hd.1, hd.2, t1, by simp only; omega⟩
      · rw [decide_eq_false c, cond_false]
        have h1 := hf.fr.dp
        have h2 := hf.fr.dl
        exact next _ ⟨by omega, by omega, hf.fr.np, hf.le⟩
    · have : k = V.length := by omega
      subst this
      refine ⟨out, ho, hp, ?_⟩
      rw [DL16_1_succ, DL16_1_succ]
      unfold DF16_1
      rw [show decide ((V.length : Int) < (V.length : Int)) = false by simp]
      rfl

abbrev Sh8 : Sh := .pair (.int .u8) (.pair (.int .u8) (.pair (.int .u8) (.pair (.int .u8) (.pair (.int .u8) (.pair (.int .u8) (.pair (.int .u8) (.int .u8)))))))

theorem shown_val (a : ShA.den) (ha : Wf ShA a) {den long : Int} (hden : 0 ≤ den ∧ den ≤ 255) (b : Sh8.den) (hb : Wf Sh8 b) (hlong : 0 ≤ long ∧ long ≤ 255) : D16 N5 a den b long = some true := by
  obtain ⟨l, hg, _, _, e1⟩ := made_eq (n := N5) (by decide) a ha (many := 8) (y := 12) (by omega) (by omega)
  have h8 := hg.le
  obtain ⟨K, hK, e2⟩ := joined_eq (n := N5) (by decide) hg.ok hg.pos
  obtain ⟨v1, v2, v3, _⟩ := all_of18 hg hK
  have t1 := tmod_rng hden.1 (show (0 : Int) < 74 by omega)
  simp only [Wf] at hb
  obtain ⟨b1, b2, b3, b4, b5, b6, b7, b8⟩ := hb
  unfold D16
  rw [e1]
  simp only [Option.bind_some, show ((74 : Int) == 0) = false from rfl, show ((74 : Nat) == 0) = false from rfl, cond_false, e2]
  rw [wr_ok (x := den) (by omega) (by omega), wr_ok (x := 1 + Int.tmod den 74) (by omega) (by omega)]
  obtain ⟨v, w1, w2, w3⟩ := s1_loop (l := l) (V := vals l K.reverse) (by omega) v3 (d := 1 + Int.tmod den 74) (by omega) long (a1 := b.1) (a2 := b.2.1) (a3 := b.2.2.1) (a4 := b.2.2.2.1) (a5 := b.2.2.2.2.1) (a6 := b.2.2.2.2.2.1) (a7 := b.2.2.2.2.2.2.1) (a8 := b.2.2.2.2.2.2.2) (by
      intro x hx
      simp only [List.mem_cons, List.not_mem_nil, or_false] at hx
      rcases hx with rfl | rfl | rfl | rfl | rfl | rfl | rfl | rfl
      · exact u8_rng b1
      · exact u8_rng b2
      · exact u8_rng b3
      · exact u8_rng b4
      · exact u8_rng b5
      · exact u8_rng b6
      · exact u8_rng b7
      · exact u8_rng b8) N5.1 0 [] (by omega) (by show _ < 100000000000000000000; omega) rfl (by simp)
  simp only [Int.natCast_zero] at w3
  rw [w3, DL16_1_succ]
  unfold DF16_1
  rw [show decide (((vals l K.reverse).length : Int) < ((vals l K.reverse).length : Int)) = false by simp, cond_false]
  simp only [show ((250 : Int) == 0) = false from rfl, show ((250 : Nat) == 0) = false from rfl, show ((2 : Int) == 0) = false from rfl, show ((2 : Nat) == 0) = false from rfl, cond_false]
  have u1 : 0 ≤ Int.tdiv long 250 := Int.tdiv_nonneg hlong.1 (by omega)
  have u2 : Int.tdiv long 250 ≤ long := Int.tdiv_le_self _ hlong.1
  have u3 := tmod_rng u1 (show (0 : Int) < 2 by omega)
  have hpos := hg.pos
  rw [wr_ok (x := long) (by omega) (by omega), wr_ok (x := Int.tdiv long 250) (by omega) (by omega), wr_ok (x := (v.length : Int) - Int.tmod (Int.tdiv long 250) 2) (by omega) (by omega)]
  obtain ⟨c, hc⟩ := Int.eq_ofNat_of_zero_le (show 0 ≤ (v.length : Int) - Int.tmod (Int.tdiv long 250) 2 by omega)
  rw [hc, Int.toNat_natCast, Nat.sub_zero, Nat.zero_add]
  have hcv : c ≤ v.length := by omega
  rw [show bounds none (some (c : Int)) none v.length = true by simp [bounds]; omega, cond_true]
  have := shown_any hg (v := (v.drop 0).take c) (v11 := v) (o := 0) (w := c) rfl (by simp; omega) (fun f hf => w2 f (by
    rw [List.drop_zero] at hf
    exact List.mem_of_mem_take hf))
  cases hh : ((((v.drop 0).take c).length : Int) != (l.length : Int)) with
  | true =>
    rw [hh] at this
    exact this
  | false =>
    rw [hh] at this
    exact this

theorem shown_ok (xs : pksDen (pks [ShA, .int .u8, Sh8, .int .u8])) (h : WfL [ShA, .int .u8, Sh8, .int .u8] xs) : ∃ n, S16 n xs.1 xs.2.1 xs.2.2.1 xs.2.2.2.1 = some true :=
  ⟨N5, by rw [S16_D N5 rfl]; exact shown_val xs.1 h.1 (u8_rng h.2.1) xs.2.2.1 h.2.2.1 (u8_rng h.2.2.2.1)⟩

end Go.Proofs.Ytombednapelokaa
