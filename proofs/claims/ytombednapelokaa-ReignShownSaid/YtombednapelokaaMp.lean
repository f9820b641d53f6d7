/- Reign: plain laws: sums of fractions, sums of rests, and proofs. -/
import Derived.Test.YtombednapelokaaMb
set_option linter.unusedVariables false
set_option linter.unusedSimpArgs false
namespace Go.Proofs.Ytombednapelokaa
open Go.Vi

/-! ### Values within bounds -/
structure Bd (f : Frc) : Prop where
  dp : 1 ≤ f.2
  dl : f.2 ≤ 72
  np : 0 ≤ f.1
  nl : f.1 ≤ 100 * f.2

def badB (f : Frc) : Bool := !(decide (1 ≤ f.2) && decide (f.2 ≤ 72) && decide (0 ≤ f.1) && decide (f.1 ≤ 100 * f.2))

theorem badB_Bd {f : Frc} (h : badB f = false) : Bd f := by
  unfold badB at h
  simp at h
  exact ⟨h.1.1.1, h.1.1.2, h.1.2, h.2⟩

theorem bad_eq (n : Nat × Nat) (f : Frc) : D86 n f = some (badB f) := by
  unfold D86 badB
  simp only [orB, Option.bind_some]
  congr 1
  by_cases h1 : f.2 < 1
  · simp [h1, show ¬ 1 ≤ f.2 by omega]
  by_cases h2 : f.2 > 72
  · simp [h2, show ¬ f.2 ≤ 72 by omega]
  rw [wr_ok (by omega) (by omega)]
  by_cases h3 : f.1 < 0
  · simp [h3, show ¬ 0 ≤ f.1 by omega]
  by_cases h4 : f.1 > 100 * f.2
  · simp [h4, show ¬ f.1 ≤ 100 * f.2 by omega]
  simp [h1, h2, h3, h4, show 1 ≤ f.2 by omega, show f.2 ≤ 72 by omega, show 0 ≤ f.1 by omega, show f.1 ≤ 100 * f.2 by omega]

theorem badr_eq (f : Frc) : (!(decide (1 ≤ f.2) && decide (f.2 ≤ 72)) || !(decide (0 ≤ f.1) && decide (f.1 ≤ wr .i64 (100 * f.2)))) = badB f := by
  unfold badB
  by_cases h1 : 1 ≤ f.2
  · by_cases h2 : f.2 ≤ 72
    · rw [wr_ok (by omega) (by omega)]
      simp [h1, h2]
    · simp [h2]
  · simp [h1]

theorem Bd.prod {a b : Frc} (ha : Bd a) (hb : Bd b) : 0 ≤ a.1 * b.2 ∧ a.1 * b.2 ≤ 518400 := by
  have := ha.nl
  have := ha.dl
  exact prodb ha.np (by omega) (by have := hb.dp; omega) hb.dl

def ltB (a b : Frc) : Bool := decide (a.1 * b.2 < b.1 * a.2)

theorem cmpB_eq (n : Nat × Nat) {a b : Frc} (ha : Bd a) (hb : Bd b) : D88 n a b = some (a.1 * b.2 - b.1 * a.2) := by
  have h1 := ha.prod hb
  have h2 := hb.prod ha
  unfold D88
  rw [wr_ok (x := a.1 * b.2) (by omega) (by omega), wr_ok (x := b.1 * a.2) (by omega) (by omega), wr_ok (by omega) (by omega)]

theorem lessB_eq (n : Nat × Nat) {a b : Frc} (ha : Bd a) (hb : Bd b) : D89 n a b = some (ltB a b) := by
  have h1 := ha.prod hb
  have h2 := hb.prod ha
  unfold D89 ltB
  rw [wr_ok (x := a.1 * b.2) (by omega) (by omega), wr_ok (x := b.1 * a.2) (by omega) (by omega)]

theorem lt_neg {a b : Frc} : decide (a.1 * b.2 - b.1 * a.2 < 0) = ltB a b := by
  unfold ltB
  by_cases h : a.1 * b.2 < b.1 * a.2
  · rw [decide_eq_true h, decide_eq_true (by omega)]
  · rw [decide_eq_false h, decide_eq_false (by omega)]

/-! ### Fractions of any sign in lowest terms -/
def redZ (a : Int) (b : Nat) : Frc := (a.tdiv (Nat.gcd a.natAbs b : Nat), ((b / Nat.gcd a.natAbs b : Nat) : Int))

theorem absI (a : Int) : (if (0 - a) > a then (0 - a) else a) = ((a.natAbs : Nat) : Int) := by
  split <;> omega

theorem tdiv_abs_le (a : Int) (g : Nat) : (a.tdiv g).natAbs ≤ a.natAbs := by
  rw [Int.natAbs_tdiv]
  exact Nat.div_le_self _ _

theorem reducedZ_eq {n : Nat × Nat} (hn : 100000000000000000000 ≤ n.1) {a : Int} {b : Nat} (hb : 0 < b) (h1 : a.natAbs ≤ 9223372036854775807) (h2 : b ≤ 9223372036854775807) : D98 n a (b : Int) = some (redZ a b) := by
  unfold D98 D105
  have hw : wr .i64 (0 - a) = 0 - a := wr_ok (by omega) (by omega)
  rw [hw, absI, gcd_loop n n.1 a.natAbs b (by omega)]
  have hg : 0 < Nat.gcd a.natAbs b := Nat.gcd_pos_of_pos_right _ hb
  have h0 : (((Nat.gcd a.natAbs b : Nat) : Int) == 0) = false := by
    simp
    omega
  simp only [Option.bind_some, h0, cond_false]
  have l1 := tdiv_abs_le a (Nat.gcd a.natAbs b)
  have l2 : b / Nat.gcd a.natAbs b ≤ b := Nat.div_le_self _ _
  have e2 : Int.tdiv (b : Int) (Nat.gcd a.natAbs b : Nat) = ((b / Nat.gcd a.natAbs b : Nat) : Int) := rfl
  rw [e2, wr_nat (Nat.le_trans l2 h2), wr_ok (by omega) (by omega)]
  rfl

theorem lowestZ_eq {n : Nat × Nat} (hn : 100000000000000000000 ≤ n.1) {a : Int} {b : Nat} (hb : 0 < b) (h1 : a.natAbs ≤ 9223372036854775807) (h2 : b ≤ 9223372036854775807) : D82 n a (b : Int) = some (redZ a b) := by
  unfold D82
  have hw : wr .i64 (0 - a) = 0 - a := wr_ok (by omega) (by omega)
  rw [hw, absI, lowest_loop n a b 0 0 n.1 b a.natAbs (.inl hb) (by omega), Nat.gcd_comm b]
  have l1 := tdiv_abs_le a (Nat.gcd a.natAbs b)
  have l2 : b / Nat.gcd a.natAbs b ≤ b := Nat.div_le_self _ _
  have e2 : Int.tdiv (b : Int) (Nat.gcd a.natAbs b : Nat) = ((b / Nat.gcd a.natAbs b : Nat) : Int) := rfl
  rw [e2, wr_nat (Nat.le_trans l2 h2), wr_ok (by omega) (by omega)]
  rfl

/-- What a fraction in lowest terms is. -/
theorem redZ_spec (a : Int) {b : Nat} (hb : 0 < b) : ∃ (p : Int) (q g : Nat), redZ a b = (p, (q : Int)) ∧ 0 < g ∧ 0 < q ∧ a = p * g ∧ b = q * g ∧ Nat.gcd p.natAbs q = 1 := by
  have hg : 0 < Nat.gcd a.natAbs b := Nat.gcd_pos_of_pos_right _ hb
  have hd : (((Nat.gcd a.natAbs b : Nat) : Int)) ∣ a := Int.natAbs_dvd_natAbs.1 (by rw [Int.natAbs_natCast]; exact Nat.gcd_dvd_left _ _)
  refine ⟨a.tdiv (Nat.gcd a.natAbs b : Nat), b / Nat.gcd a.natAbs b, Nat.gcd a.natAbs b, rfl, hg, Nat.div_pos (Nat.le_of_dvd hb (Nat.gcd_dvd_right _ _)) hg, (Int.tdiv_mul_cancel hd).symm, (Nat.div_mul_cancel (Nat.gcd_dvd_right _ _)).symm, ?_⟩
  rw [Int.natAbs_tdiv, Int.natAbs_natCast]
  exact Nat.coprime_div_gcd_div_gcd hg

theorem frac_uniq {p r : Int} {q s : Nat} (hq : 0 < q) (hs : 0 < s) (c1 : Nat.gcd p.natAbs q = 1) (c2 : Nat.gcd r.natAbs s = 1) (e : p * s = r * q) : p = r ∧ q = s := by
  have e' : p.natAbs * s = r.natAbs * q := by
    have := congrArg Int.natAbs e
    simpa [Int.natAbs_mul] using this
  have d1 : q ∣ s := Nat.Coprime.dvd_of_dvd_mul_left (Nat.Coprime.symm c1) (by rw [e']; exact Nat.dvd_mul_left q _)
  have d2 : s ∣ q := Nat.Coprime.dvd_of_dvd_mul_left (Nat.Coprime.symm c2) (by rw [← e']; exact Nat.dvd_mul_left s _)
  have hqs := Nat.dvd_antisymm d1 d2
  subst hqs
  exact ⟨Int.eq_of_mul_eq_mul_right (by omega) e, rfl⟩

theorem redZ_cross {a c : Int} {b d : Nat} (hb : 0 < b) (hd : 0 < d) (e : a * d = c * b) : redZ a b = redZ c d := by
  obtain ⟨p, q, g, e1, hg, hq, ea, eb, c1⟩ := redZ_spec a hb
  obtain ⟨r, s, h, e2, hh, hs, ec, ed, c2⟩ := redZ_spec c hd
  rw [e1, e2]
  have key : p * s = r * q := by
    rw [ea, ec, eb, ed] at e
    have e3 : (p * s) * ((g * h : Nat) : Int) = (r * q) * ((g * h : Nat) : Int) := by
      rw [Int.natCast_mul]
      rw [Int.natCast_mul, Int.natCast_mul] at e
      have x1 : p * s * ((g : Int) * h) = p * g * (s * h) := by
        rw [Int.mul_assoc, Int.mul_assoc, Int.mul_left_comm (s : Int) g h]
      have x2 : r * q * ((g : Int) * h) = r * h * (q * g) := by
        rw [Int.mul_comm (g : Int) h, Int.mul_assoc, Int.mul_assoc, Int.mul_left_comm (q : Int) h g]
      rw [x1, x2]
      exact e
    exact Int.eq_of_mul_eq_mul_right (by have := Nat.mul_pos hg hh; omega) e3
  obtain ⟨rfl, rfl⟩ := frac_uniq hq hs c1 c2 key
  rfl

/-! ### The sum of two fractions -/
theorem add_both {n : Nat × Nat} (hn : 100000000000000000000 ≤ n.1) {p num : Int} {q den K : Nat} (hq : 0 < q) (hd : 0 < den) (hd72 : den ≤ 72) (hK : K ≤ 7) (hqb : q ≤ 72 ^ K) (hp : p.natAbs ≤ 900 * K * q) (hnum : num.natAbs ≤ 900 * den) :
    ∃ (p' : Int) (q' : Nat), D80 n (p, (q : Int)) num (den : Int) = some (p', (q' : Int)) ∧ D81 n (p, (q : Int)) (redZ num den) = some (p', (q' : Int)) ∧ 0 < q' ∧ q' ≤ 72 ^ (K + 1) ∧ p'.natAbs ≤ 900 * (K + 1) * q' := by
  have h72 : 72 ^ (K + 1) ≤ 722204136308736 := by
    have : 72 ^ (K + 1) ≤ 72 ^ 8 := Nat.pow_le_pow_right (by omega) (by omega)
    omega
  have hqs : q ≤ 722204136308736 := Nat.le_trans hqb (Nat.le_trans (Nat.pow_le_pow_right (by omega) (by omega)) h72)
  -- the program
  let d := Nat.gcd q den
  have hdp : 0 < d := Nat.gcd_pos_of_pos_left _ hq
  obtain ⟨q1, hq1⟩ : d ∣ q := Nat.gcd_dvd_left _ _
  obtain ⟨d1, hd1⟩ : d ∣ den := Nat.gcd_dvd_right _ _
  have hq1p : 0 < q1 := Nat.pos_of_ne_zero (by rintro rfl; simp at hq1; omega)
  have hd1p : 0 < d1 := Nat.pos_of_ne_zero (by rintro rfl; simp at hd1; omega)
  have eq1 : q / d = q1 := by rw [hq1]; exact Nat.mul_div_cancel_left _ hdp
  have ed1 : den / d = d1 := by rw [hd1]; exact Nat.mul_div_cancel_left _ hdp
  have hq1q : q1 ≤ q := by rw [hq1]; exact Nat.le_mul_of_pos_left _ hdp
  have hd1d : d1 ≤ den := by rw [hd1]; exact Nat.le_mul_of_pos_left _ hdp
  -- M1 = q1 * den = q * d1
  have hM : q1 * den = q * d1 := by rw [hq1, hd1, Nat.mul_left_comm, Nat.mul_assoc]
  have hM1 : q1 * den ≤ 72 ^ (K + 1) := by
    rw [Nat.pow_succ]
    exact Nat.mul_le_mul (Nat.le_trans hq1q hqb) hd72
  have hb1 : (p * (d1 : Int)).natAbs ≤ 900 * K * (q1 * den) := by
    rw [Int.natAbs_mul, Int.natAbs_natCast, hM, ← Nat.mul_assoc]
    exact Nat.mul_le_mul_right _ hp
  have hb2 : (num * (q1 : Int)).natAbs ≤ 900 * (q1 * den) := by
    rw [Int.natAbs_mul, Int.natAbs_natCast, Nat.mul_comm q1 den, ← Nat.mul_assoc]
    exact Nat.mul_le_mul_right _ hnum
  have hKb : 900 * K * (q1 * den) ≤ 6300 * 722204136308736 := Nat.mul_le_mul (by omega) (by omega)
  have hsum : 900 * K * (q1 * den) + 900 * (q1 * den) = 900 * (K + 1) * (q1 * den) := by rw [← Nat.add_mul, Nat.mul_add, Nat.mul_one]
  have hN1 : (p * (d1 : Int) + num * (q1 : Int)).natAbs ≤ 900 * (K + 1) * (q1 * den) := by omega
  have hM1p : 0 < q1 * den := Nat.mul_pos hq1p hd
  have g0 : ((((d : Nat) : Int)) == 0) = false := by simp; omega
  have hprog : D80 n (p, (q : Int)) num (den : Int) = some (redZ (p * (d1 : Int) + num * (q1 : Int)) (q1 * den)) := by
    unfold D80 D105
    rw [gcd_loop n n.1 q den (by omega)]
    simp only [Option.bind_some]
    have e1 : Int.tdiv (den : Int) (Nat.gcd q den : Nat) = (d1 : Int) := by rw [← ed1]; rfl
    have e2 : Int.tdiv (q : Int) (Nat.gcd q den : Nat) = (q1 : Int) := by rw [← eq1]; rfl
    have g0' : (((Nat.gcd q den : Nat) : Int) == 0) = false := g0
    simp only [g0', cond_false, e1, e2]
    rw [wr_nat (x := d1) (by omega), wr_nat (x := q1) (by omega), wr_ok (x := p * (d1 : Int)) (by omega) (by omega), wr_ok (x := num * (q1 : Int)) (by omega) (by omega), wr_ok (x := p * (d1 : Int) + num * (q1 : Int)) (by omega) (by omega),
      ← Int.natCast_mul, wr_nat (by omega), reducedZ_eq hn hM1p (by omega) (by omega)]
    rfl
  -- the reference
  obtain ⟨u, v, g, er, hg, hv, en, ev, hc⟩ := redZ_spec num hd
  have hv72 : v ≤ den := by rw [ev]; exact Nat.le_mul_of_pos_right _ hg
  have hu : u.natAbs ≤ 900 * v := by
    have : u.natAbs * g ≤ 900 * v * g := by
      have := hnum
      rw [en, ev, Int.natAbs_mul, Int.natAbs_natCast] at this
      rw [Nat.mul_assoc]
      exact this
    exact Nat.le_of_mul_le_mul_right this hg
  let e := Nat.gcd q v
  have hep : 0 < e := Nat.gcd_pos_of_pos_left _ hq
  obtain ⟨q2, hq2⟩ : e ∣ q := Nat.gcd_dvd_left _ _
  obtain ⟨v2, hv2⟩ : e ∣ v := Nat.gcd_dvd_right _ _
  have hq2p : 0 < q2 := Nat.pos_of_ne_zero (by rintro rfl; simp at hq2; omega)
  have hv2p : 0 < v2 := Nat.pos_of_ne_zero (by rintro rfl; simp at hv2; omega)
  have eq2 : q / e = q2 := by rw [hq2]; exact Nat.mul_div_cancel_left _ hep
  have ev2 : v / e = v2 := by rw [hv2]; exact Nat.mul_div_cancel_left _ hep
  have hq2q : q2 ≤ q := by rw [hq2]; exact Nat.le_mul_of_pos_left _ hep
  have hv2v : v2 ≤ v := by rw [hv2]; exact Nat.le_mul_of_pos_left _ hep
  have hM' : q2 * v = q * v2 := by rw [hq2, hv2, Nat.mul_left_comm, Nat.mul_assoc]
  have hM2 : q * v2 ≤ 72 ^ (K + 1) := by
    rw [Nat.pow_succ]
    exact Nat.mul_le_mul hqb (by omega)
  have hb3 : (p * (v2 : Int)).natAbs ≤ 900 * K * (q * v2) := by
    rw [Int.natAbs_mul, Int.natAbs_natCast, ← Nat.mul_assoc]
    exact Nat.mul_le_mul_right _ hp
  have hb4 : (u * (q2 : Int)).natAbs ≤ 900 * (q * v2) := by
    rw [Int.natAbs_mul, Int.natAbs_natCast, ← hM', Nat.mul_comm q2 v, ← Nat.mul_assoc]
    exact Nat.mul_le_mul_right _ hu
  have hKb2 : 900 * K * (q * v2) ≤ 6300 * 722204136308736 := Nat.mul_le_mul (by omega) (by omega)
  have hM2p : 0 < q * v2 := Nat.mul_pos hq hv2p
  have href : D81 n (p, (q : Int)) (redZ num den) = some (redZ (p * (v2 : Int) + u * (q2 : Int)) (q * v2)) := by
    unfold D81
    rw [er]
    simp only
    rw [lowest_eq (num := q) (den := v) hv (by omega) (by omega) (by omega)]
    simp only [Option.bind_some, red]
    rw [show ((q / Nat.gcd q v : Nat) : Int) = (q2 : Int) by rw [← eq2], show ((v / Nat.gcd q v : Nat) : Int) = (v2 : Int) by rw [← ev2]]
    rw [wr_ok (x := p * (v2 : Int)) (by omega) (by omega), wr_ok (x := u * (q2 : Int)) (by omega) (by omega), wr_ok (x := p * (v2 : Int) + u * (q2 : Int)) (by omega) (by omega),
      ← Int.natCast_mul, wr_nat (by omega), lowestZ_eq hn hM2p (by omega) (by omega)]
    rfl
  have hcross : redZ (p * (d1 : Int) + num * (q1 : Int)) (q1 * den) = redZ (p * (v2 : Int) + u * (q2 : Int)) (q * v2) := by
    refine redZ_cross hM1p hM2p ?_
    -- (p d1 + num q1) (q v2) = (p v2 + u q2) (q1 den); num = u g, den = v g, q1 den = q d1, q2 v = q v2
    have a1 : (q1 : Int) * den = q * d1 := by exact_mod_cast hM
    have a2 : (q2 : Int) * v = q * v2 := by exact_mod_cast hM'
    have a3 : (den : Int) = v * g := by exact_mod_cast ev
    rw [Int.natCast_mul, Int.natCast_mul, a1, Int.add_mul, Int.add_mul, en]
    have t1 : p * (d1 : Int) * (q * v2) = p * (v2 : Int) * (q * d1) := by
      rw [Int.mul_assoc, Int.mul_assoc, Int.mul_left_comm (d1 : Int), Int.mul_left_comm (v2 : Int), Int.mul_comm (d1 : Int) v2]
    have t2 : u * (g : Int) * q1 * (q * v2) = u * (q2 : Int) * (q * d1) := by
      rw [← a1, ← a2, a3]
      have : u * (g : Int) * q1 * (q2 * v) = u * (q2 * (q1 * (v * g))) := by
        rw [Int.mul_assoc, Int.mul_assoc]
        congr 1
        rw [Int.mul_left_comm (q1 : Int) q2 v, Int.mul_left_comm (g : Int) q2, ]
        congr 1
        rw [Int.mul_left_comm (g : Int) q1 v, Int.mul_comm (g : Int) v]
      rw [this, Int.mul_assoc]
    rw [t1, t2]
  obtain ⟨p', q', h, e1, hh, hq', ea, eb, _⟩ := redZ_spec (p * (d1 : Int) + num * (q1 : Int)) hM1p
  refine ⟨p', q', by rw [hprog, e1], by rw [href, ← hcross, e1], hq', ?_, ?_⟩
  · refine Nat.le_trans ?_ hM1
    rw [eb]
    exact Nat.le_mul_of_pos_right _ hh
  · rw [ea, eb, Int.natAbs_mul, Int.natAbs_natCast, ← Nat.mul_assoc] at hN1
    exact Nat.le_of_mul_le_mul_right hN1 hh

/-! ### Sums of rests -/
theorem rest_bound {s f : Frc} (hs : 0 ≤ s.1 ∧ s.1 ≤ 100 ∧ 1 ≤ s.2 ∧ s.2 ≤ 9) (hf : Bd f) : wr .i64 (s.2 * (wr .i64 ((wr .i64 (s.1 * f.2)) - f.1))) = s.2 * (s.1 * f.2 - f.1) ∧ (s.2 * (s.1 * f.2 - f.1)).natAbs ≤ 900 * f.2.toNat := by
  have h1 := hf.dp
  have h2 := hf.dl
  have h3 := hf.np
  have h4 := hf.nl
  have m0 : 0 ≤ s.1 * f.2 := Int.mul_nonneg hs.1 (by omega)
  have m1 : s.1 * f.2 ≤ 100 * f.2 := Int.mul_le_mul_of_nonneg_right hs.2.1 (by omega)
  have m2 : (s.1 * f.2 - f.1).natAbs ≤ 100 * f.2.toNat := by omega
  have m3 : (s.2 * (s.1 * f.2 - f.1)).natAbs ≤ 9 * (100 * f.2.toNat) := by
    rw [Int.natAbs_mul]
    exact Nat.mul_le_mul (by omega) m2
  have m4 : f.2.toNat ≤ 72 := by omega
  rw [wr_ok (x := s.1 * f.2) (by omega) (by omega), wr_ok (x := s.1 * f.2 - f.1) (by omega) (by omega), wr_ok (x := s.2 * (s.1 * f.2 - f.1)) (by omega) (by omega)]
  exact ⟨rfl, by omega⟩

theorem rests_loop {n : Nat × Nat} (hn : 100000000000000000000 ≤ n.1) {l : List Src} {v : List Frc} (hg : Good l) (hl : v.length = l.length) (hv : ∀ f ∈ v, Bd f) : ∀ (m k : Nat) (p : Int) (q : Nat) (out : List Frc), k ≤ l.length → l.length - k < m → out.length = k → 0 < q → q ≤ 72 ^ k → p.natAbs ≤ 900 * k * q →
    ∃ R, R.length = l.length ∧ DL83_1 n m v l (l.length : Int) (k : Int) p (q : Int) out = some R ∧ DL84_1 n m l v (k : Int) out p (q : Int) = some R
  | 0, k, _, _, _, _, h, _, _, _, _ => by omega
  | m + 1, k, p, q, out, hk, h, ho, hq, hqb, hp => by
    have hle := hg.le
    rw [DL83_1_succ, DL84_1_succ]
    unfold DF83_1 DF84_1
    by_cases hlt : k < l.length
    · have hltv : k < v.length := by omega
      rw [show decide ((k : Int) < (l.length : Int)) = true by simpa using hlt, cond_true, cond_true, idx_nat hlt, idx_nat hltv]
      have hs := hg.all l[k] (List.getElem_mem hlt)
      have hf := hv v[k] (List.getElem_mem hltv)
      obtain ⟨e1, e2⟩ := rest_bound hs hf
      simp only [Option.bind_some]
      rw [e1]
      obtain ⟨dn, hdn⟩ := Int.eq_ofNat_of_zero_le (show 0 ≤ v[k].2 by have := hf.dp; omega)
      have hd1 : 0 < dn := by have := hf.dp; omega
      have hd2 : dn ≤ 72 := by have := hf.dl; omega
      rw [hdn] at e2 ⊢
      rw [Int.toNat_natCast] at e2
      generalize l[k].2 * (l[k].1 * (dn : Int) - v[k].1) = num at e2 ⊢
      rw [lowestZ_eq hn hd1 (by omega) (by omega)]
      obtain ⟨p', q', a1, a2, a3, a4, a5⟩ := add_both hn (K := k) hq hd1 hd2 (by omega) hqb hp e2
      simp only [Option.bind_some]
      rw [a1, a2]
      simp only [Option.bind_some]
      rw [show decide (out.length + [(p', (q' : Int))].length ≤ lim) = true by simp [lim]; omega, cond_true, cond_true, show wr .i64 ((k : Int) + 1) = ((k + 1 : Nat) : Int) by rw [wr_ok (by omega) (by omega)]; omega]
      exact rests_loop hn hg hl hv m (k + 1) p' q' (out ++ [(p', (q' : Int))]) (by omega) (by omega) (by simp; omega) a3 a4 a5
    · rw [show decide ((k : Int) < (l.length : Int)) = false by simpa using hlt, cond_false, cond_false]
      exact ⟨out, by omega, rfl, rfl⟩

theorem rests_eq {n : Nat × Nat} (hn : 100000000000000000000 ≤ n.1) {l : List Src} {v : List Frc} (hg : Good l) (hl : v.length = l.length) (hv : ∀ f ∈ v, Bd f) : ∃ R, R.length = l.length ∧ D83 n l v = some R ∧ D84 n l v = some R := by
  unfold D83 D84
  have hle := hg.le
  exact rests_loop hn hg hl hv n.1 0 0 1 [] (by omega) (by omega) rfl (by omega) (by simp) (by simp)

end Go.Proofs.Ytombednapelokaa
