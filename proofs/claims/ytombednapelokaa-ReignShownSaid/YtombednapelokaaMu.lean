/- Reign: plain laws: the cost, of the program and of the reference. -/
import Derived.Test.YtombednapelokaaMr
import Derived.Test.YtombednapelokaaMp
set_option linter.unusedVariables false
set_option linter.unusedSimpArgs false
namespace Go.Proofs.Ytombednapelokaa
open Go.Vi

/-- The sum of two fractions, by the reference. -/
theorem plus_gen {n : Nat × Nat} (hn : 100000000000000000000 ≤ n.1) {P num : Int} {R den D B C : Nat} (hR : 0 < R) (hd : 0 < den) (hRD : R ∣ D) (hdD : den ∣ D) (hD : 0 < D) (hDb : D ≤ 4000000000000000000) (hB : (B + C) * D ≤ 4000000000000000000) (hP : P.natAbs ≤ B * R) (hnum : num.natAbs ≤ C * den) :
    ∃ (P' : Int) (R' : Nat), D81 n (P, (R : Int)) (redZ num den) = some (P', (R' : Int)) ∧ 0 < R' ∧ R' ∣ D ∧ P'.natAbs ≤ (B + C) * R' ∧ Nat.gcd P'.natAbs R' = 1 ∧ P' * ((R * den : Nat) : Int) = R' * (P * den + num * R) := by
  obtain ⟨u, v, g, er, hg, hv, en, ev, hc⟩ := redZ_spec num hd
  have hvD : v ∣ D := Nat.dvd_trans ⟨g, ev⟩ hdD
  have hu : u.natAbs ≤ C * v := by
    have : u.natAbs * g ≤ C * v * g := by
      have := hnum
      rw [en, ev, Int.natAbs_mul, Int.natAbs_natCast] at this
      rw [Nat.mul_assoc]
      exact this
    exact Nat.le_of_mul_le_mul_right this hg
  have hRle : R ≤ D := Nat.le_of_dvd hD hRD
  have hvle : v ≤ D := Nat.le_of_dvd hD hvD
  let e := Nat.gcd R v
  have hep : 0 < e := Nat.gcd_pos_of_pos_left _ hR
  obtain ⟨q2, hq2⟩ : e ∣ R := Nat.gcd_dvd_left _ _
  obtain ⟨v2, hv2⟩ : e ∣ v := Nat.gcd_dvd_right _ _
  have eq2 : R / e = q2 := by rw [hq2]; exact Nat.mul_div_cancel_left _ hep
  have ev2 : v / e = v2 := by rw [hv2]; exact Nat.mul_div_cancel_left _ hep
  have hv2p : 0 < v2 := Nat.pos_of_ne_zero (by rintro rfl; simp at hv2; omega)
  have hM' : q2 * v = R * v2 := by rw [hq2, hv2, Nat.mul_left_comm, Nat.mul_assoc]
  have hMD : R * v2 ∣ D := by
    have h1 : Nat.lcm R v ∣ D := Nat.lcm_dvd hRD hvD
    have h2 : Nat.lcm R v = R * v2 := by
      unfold Nat.lcm
      rw [Nat.mul_div_assoc _ (Nat.gcd_dvd_right _ _)]
      show R * (v / e) = _
      rw [ev2]
    rwa [h2] at h1
  have hM : R * v2 ≤ D := Nat.le_of_dvd hD hMD
  have hMp : 0 < R * v2 := Nat.mul_pos hR hv2p
  have b1 : (P * (v2 : Int)).natAbs ≤ B * (R * v2) := by
    rw [Int.natAbs_mul, Int.natAbs_natCast, ← Nat.mul_assoc]
    exact Nat.mul_le_mul_right _ hP
  have b2 : (u * (q2 : Int)).natAbs ≤ C * (R * v2) := by
    rw [Int.natAbs_mul, Int.natAbs_natCast, ← hM', Nat.mul_comm q2 v, ← Nat.mul_assoc]
    exact Nat.mul_le_mul_right _ hu
  have b3 : (B + C) * (R * v2) ≤ (B + C) * D := Nat.mul_le_mul_left _ hM
  rw [Nat.add_mul] at b3
  have hq2R : q2 ≤ R := by rw [hq2]; exact Nat.le_mul_of_pos_left _ hep
  have hv2v : v2 ≤ v := by rw [hv2]; exact Nat.le_mul_of_pos_left _ hep
  have href : D81 n (P, (R : Int)) (redZ num den) = some (redZ (P * (v2 : Int) + u * (q2 : Int)) (R * v2)) := by
    unfold D81
    rw [er]
    simp only
    rw [lowest_eq (num := R) (den := v) hv (by omega) (by omega) (by omega)]
    simp only [Option.bind_some, red]
    rw [show ((R / Nat.gcd R v : Nat) : Int) = (q2 : Int) by rw [← eq2], show ((v / Nat.gcd R v : Nat) : Int) = (v2 : Int) by rw [← ev2]]
    rw [wr_ok (x := P * (v2 : Int)) (by omega) (by omega), wr_ok (x := u * (q2 : Int)) (by omega) (by omega), wr_ok (x := P * (v2 : Int) + u * (q2 : Int)) (by omega) (by omega),
      ← Int.natCast_mul, wr_nat (by omega), lowestZ_eq hn hMp (by omega) (by omega)]
    rfl
  obtain ⟨P', R', h, e1, hh, hR', ea, eb, hcop⟩ := redZ_spec (P * (v2 : Int) + u * (q2 : Int)) hMp
  refine ⟨P', R', by rw [href, e1], hR', Nat.dvd_trans ⟨h, eb⟩ hMD, ?_, hcop, ?_⟩
  · have : P'.natAbs * h ≤ (B + C) * R' * h := by
      rw [Nat.mul_assoc, ← eb, Nat.add_mul]
      have := congrArg Int.natAbs ea
      rw [Int.natAbs_mul, Int.natAbs_natCast] at this
      omega
    exact Nat.le_of_mul_le_mul_right this hh
  · have a1 : (q2 : Int) * v = R * v2 := by exact_mod_cast hM'
    have a2 : (R : Int) * v2 = R' * h := by exact_mod_cast eb
    have a3 : (den : Int) = v * g := by exact_mod_cast ev
    have key : P' * ((R : Int) * den) * h = R' * (P * den + num * R) * h := by
      rw [en, a3]
      grind
    rw [Int.natCast_mul]
    exact Int.eq_of_mul_eq_mul_right (by omega) key

/-- The sum of two fractions, by the program. -/
theorem add_gen {n : Nat × Nat} (hn : 100000000000000000000 ≤ n.1) {P num : Int} {R den D B C : Nat} (hR : 0 < R) (hd : 0 < den) (hRD : R ∣ D) (hdD : den ∣ D) (hD : 0 < D) (hDb : D ≤ 4000000000000000000) (hB : (B + C) * D ≤ 4000000000000000000) (hP : P.natAbs ≤ B * R) (hnum : num.natAbs ≤ C * den) :
    ∃ (P' : Int) (R' : Nat), D80 n (P, (R : Int)) num (den : Int) = some (P', (R' : Int)) ∧ 0 < R' ∧ R' ∣ D ∧ P'.natAbs ≤ (B + C) * R' ∧ Nat.gcd P'.natAbs R' = 1 ∧ P' * ((R * den : Nat) : Int) = R' * (P * den + num * R) := by
  have hRle : R ≤ D := Nat.le_of_dvd hD hRD
  have hdle : den ≤ D := Nat.le_of_dvd hD hdD
  let d := Nat.gcd R den
  have hdp : 0 < d := Nat.gcd_pos_of_pos_left _ hR
  obtain ⟨q1, hq1⟩ : d ∣ R := Nat.gcd_dvd_left _ _
  obtain ⟨d1, hd1⟩ : d ∣ den := Nat.gcd_dvd_right _ _
  have hq1p : 0 < q1 := Nat.pos_of_ne_zero (by rintro rfl; simp at hq1; omega)
  have eq1 : R / d = q1 := by rw [hq1]; exact Nat.mul_div_cancel_left _ hdp
  have ed1 : den / d = d1 := by rw [hd1]; exact Nat.mul_div_cancel_left _ hdp
  have hq1q : q1 ≤ R := by rw [hq1]; exact Nat.le_mul_of_pos_left _ hdp
  have hd1d : d1 ≤ den := by rw [hd1]; exact Nat.le_mul_of_pos_left _ hdp
  have hM : q1 * den = R * d1 := by rw [hq1, hd1, Nat.mul_left_comm, Nat.mul_assoc]
  have hMD : q1 * den ∣ D := by
    have h1 : Nat.lcm R den ∣ D := Nat.lcm_dvd hRD hdD
    have h2 : Nat.lcm R den = R * d1 := by
      unfold Nat.lcm
      rw [Nat.mul_div_assoc _ (Nat.gcd_dvd_right _ _)]
      show R * (den / d) = _
      rw [ed1]
    rw [h2] at h1
    rwa [hM]
  have hMle : q1 * den ≤ D := Nat.le_of_dvd hD hMD
  have hMp : 0 < q1 * den := Nat.mul_pos hq1p hd
  have b1 : (P * (d1 : Int)).natAbs ≤ B * (q1 * den) := by
    rw [Int.natAbs_mul, Int.natAbs_natCast, hM, ← Nat.mul_assoc]
    exact Nat.mul_le_mul_right _ hP
  have b2 : (num * (q1 : Int)).natAbs ≤ C * (q1 * den) := by
    rw [Int.natAbs_mul, Int.natAbs_natCast, Nat.mul_comm q1 den, ← Nat.mul_assoc]
    exact Nat.mul_le_mul_right _ hnum
  have b3 : (B + C) * (q1 * den) ≤ (B + C) * D := Nat.mul_le_mul_left _ hMle
  rw [Nat.add_mul] at b3
  have g0 : (((Nat.gcd R den : Nat) : Int) == 0) = false := by
    rw [beq_eq_false_iff_ne]
    have : 0 < Nat.gcd R den := hdp
    omega
  have hprog : D80 n (P, (R : Int)) num (den : Int) = some (redZ (P * (d1 : Int) + num * (q1 : Int)) (q1 * den)) := by
    unfold D80 D105
    rw [gcd_loop n n.1 R den (by omega)]
    simp only [Option.bind_some]
    have e1 : Int.tdiv (den : Int) (Nat.gcd R den : Nat) = (d1 : Int) := by rw [← ed1]; rfl
    have e2 : Int.tdiv (R : Int) (Nat.gcd R den : Nat) = (q1 : Int) := by rw [← eq1]; rfl
    simp only [g0, cond_false, e1, e2]
    rw [wr_nat (x := d1) (by omega), wr_nat (x := q1) (by omega), wr_ok (x := P * (d1 : Int)) (by omega) (by omega), wr_ok (x := num * (q1 : Int)) (by omega) (by omega), wr_ok (x := P * (d1 : Int) + num * (q1 : Int)) (by omega) (by omega),
      ← Int.natCast_mul, wr_nat (by omega), reducedZ_eq hn hMp (by omega) (by omega)]
    rfl
  obtain ⟨P', R', h, e1, hh, hR', ea, eb, hcop⟩ := redZ_spec (P * (d1 : Int) + num * (q1 : Int)) hMp
  refine ⟨P', R', by rw [hprog, e1], hR', Nat.dvd_trans ⟨h, eb⟩ hMD, ?_, hcop, ?_⟩
  · have : P'.natAbs * h ≤ (B + C) * R' * h := by
      rw [Nat.mul_assoc, ← eb, Nat.add_mul]
      have := congrArg Int.natAbs ea
      rw [Int.natAbs_mul, Int.natAbs_natCast] at this
      omega
    exact Nat.le_of_mul_le_mul_right this hh
  · have a1 : (q1 : Int) * den = R * d1 := by exact_mod_cast hM
    have a2 : (q1 : Int) * den = R' * h := by exact_mod_cast eb
    have key : P' * ((R : Int) * den) * h = R' * (P * den + num * R) * h := by
      grind
    rw [Int.natCast_mul]
    exact Int.eq_of_mul_eq_mul_right (by omega) key

/-! ### Sums of squares -/
def q2s : List Src → Nat
  | [] => 0
  | s :: r => s.2.toNat * s.1.toNat * s.1.toNat + q2s r

/-- The sum of the squares of rests by a value, times the square of its Den. -/
def rss (v : Frc) : List Src → Int
  | [] => 0
  | s :: r => s.2 * (s.1 * v.2 - v.1) * (s.1 * v.2 - v.1) + rss v r

theorem rss_eq (v : Frc) : ∀ {s : List Src}, (∀ x ∈ s, 0 ≤ x.1 ∧ x.1 ≤ 100 ∧ 1 ≤ x.2 ∧ x.2 ≤ 9) → rss v s = v.2 * v.2 * ((q2s s : Nat) : Int) - 2 * v.2 * v.1 * ((ysum s : Nat) : Int) + v.1 * v.1 * ((tsum s : Nat) : Int)
  | [], _ => by simp [rss, q2s, ysum, tsum]
  | x :: r, h => by
    have ih := rss_eq v (s := r) fun y hy => h y (List.mem_cons_of_mem _ hy)
    have hx := h x (by simp)
    obtain ⟨a, ha⟩ := Int.eq_ofNat_of_zero_le hx.1
    obtain ⟨b, hb⟩ := Int.eq_ofNat_of_zero_le (show 0 ≤ x.2 by omega)
    simp only [rss, q2s, ysum, tsum, ha, hb, Int.toNat_natCast, ih]
    simp only [Int.natCast_add, Int.natCast_mul]
    grind

theorem q2s_le : ∀ {s : List Src}, (∀ x ∈ s, 0 ≤ x.1 ∧ x.1 ≤ 100 ∧ 1 ≤ x.2 ∧ x.2 ≤ 9) → q2s s ≤ 90000 * s.length
  | [], _ => by simp [q2s]
  | x :: r, h => by
    have ih := q2s_le (s := r) fun y hy => h y (List.mem_cons_of_mem _ hy)
    have hx := h x (by simp)
    have h1 := Nat.mul_le_mul (show x.2.toNat ≤ 9 by omega) (show x.1.toNat ≤ 100 by omega)
    have h2 := Nat.mul_le_mul h1 (show x.1.toNat ≤ 100 by omega)
    simp only [q2s, List.length_cons]
    omega

theorem drop_sq {l : List Src} {k : Nat} (h : k < l.length) : q2s (l.drop k) = l[k].2.toNat * l[k].1.toNat * l[k].1.toNat + q2s (l.drop (k + 1)) := by
  rw [drop_cons h]
  rfl

/-- The program, in a block. -/
theorem cost_inner (n : Nat × Nat) (f1 : (List (Int × Int)) → Int → Int → Int → Int → Int → Int → (List (Int × Int × Int × Int)) → Option R35) (l : List Src) (v21 v22 u v : Int) (bs : List B4) {s : List Src} (hs : Ok s) {R : Nat} (hR : R * 720000 ≤ 1000000000000000000) : ∀ (m k a b : Nat) (P : Int), k ≤ s.length → s.length - k < m →
    a + ysum (s.drop k) ≤ 7200 → b + tsum (s.drop k) ≤ 72 → P.natAbs + R * q2s (s.drop k) ≤ 4000000000000000000 →
    DL35_2 n f1 m l (a : Int) (b : Int) v21 v22 s (s.length : Int) (k : Int) u v P (R : Int) bs =
      (D80 n (P + ((R * q2s (s.drop k) : Nat) : Int), (R : Int)) (-(((a + ysum (s.drop k) : Nat) : Int) * ((a + ysum (s.drop k) : Nat) : Int))) ((b + tsum (s.drop k) : Nat) : Int)).bind fun r => f1 l v21 (wr .i64 (v22 + 1)) u v r.1 r.2 bs
  | 0, k, _, _, _, _, h, _, _, _ => by omega
  | m + 1, k, a, b, P, hk, h, ha, hb, hP => by
    have h8 := hs.1
    rw [DL35_2_succ]
    unfold DF35_2
    by_cases hlt : k < s.length
    · have hx := hs.2 s[k] (List.getElem_mem hlt)
      obtain ⟨y, hy⟩ := Int.eq_ofNat_of_zero_le hx.1
      obtain ⟨t, ht⟩ := Int.eq_ofNat_of_zero_le (show 0 ≤ s[k].2 by omega)
      have hyt : s[k].1.toNat = y := by rw [hy]; rfl
      have htt : s[k].2.toNat = t := by rw [ht]; rfl
      rw [ysum_drop hlt, hyt, htt] at ha ⊢
      rw [tsum_drop hlt, htt] at hb ⊢
      rw [drop_sq hlt, hyt, htt] at hP ⊢
      have c1 := Nat.mul_le_mul (show t ≤ 9 by omega) (show y ≤ 100 by omega)
      have c2 := Nat.mul_le_mul c1 (show y ≤ 100 by omega)
      have c3 : t * y * y * R ≤ 90000 * R := Nat.mul_le_mul_right _ c2
      have c4 : R * (t * y * y + q2s (s.drop (k + 1))) = t * y * y * R + R * q2s (s.drop (k + 1)) := by rw [Nat.mul_add, Nat.mul_comm R (t * y * y)]
      rw [c4] at hP ⊢
      have c5 : y * t = t * y := Nat.mul_comm _ _
      rw [show decide ((k : Int) < (s.length : Int)) = true by simpa using hlt, cond_true, idx_nat hlt]
      simp only [Option.bind_some, hy, ht]
      rw [← Int.natCast_mul, ← Int.natCast_mul t y, wr_nat (x := y * t) (by omega), wr_nat (x := t * y) (by omega), ← Int.natCast_mul (t * y) y, wr_nat (x := t * y * y) (by omega), ← Int.natCast_mul (t * y * y) R, wr_nat (x := t * y * y * R) (by omega),
        ← Int.natCast_add, wr_nat (x := a + y * t) (by omega), ← Int.natCast_add, wr_nat (x := b + t) (by omega), wr_ok (x := P + _) (by omega) (by omega), wr_ok (x := (k : Int) + 1) (by omega) (by omega)]
      have ih := cost_inner n f1 l v21 v22 u v bs hs hR m (k + 1) (a + y * t) (b + t) (P + ((t * y * y * R : Nat) : Int)) (by omega) (by omega) (by omega) (by omega) (by omega)
      rw [show ((k + 1 : Nat) : Int) = (k : Int) + 1 by omega] at ih
      rw [ih, show a + y * t + ysum (s.drop (k + 1)) = a + (y * t + ysum (s.drop (k + 1))) by omega, show b + t + tsum (s.drop (k + 1)) = b + (t + tsum (s.drop (k + 1))) by omega, show P + ((t * y * y * R : Nat) : Int) + ((R * q2s (s.drop (k + 1)) : Nat) : Int) = P + ((t * y * y * R + R * q2s (s.drop (k + 1)) : Nat) : Int) by omega]
    · rw [show decide ((k : Int) < (s.length : Int)) = false by simpa using hlt, cond_false]
      rw [List.drop_of_length_le (by omega)] at ha hb ⊢
      simp only [ysum, tsum, q2s, Nat.add_zero, Nat.mul_zero, Int.natCast_zero, Int.add_zero] at ha hb ⊢
      have c1 := Nat.mul_le_mul ha ha
      have c2 : (0 - (a : Int)) * (a : Int) = -((a : Int) * (a : Int)) := by grind
      have c3 : (a : Int) * (a : Int) = ((a * a : Nat) : Int) := (Int.natCast_mul a a).symm
      rw [wr_ok (x := 0 - (a : Int)) (by omega) (by omega), c2, wr_ok (x := -((a : Int) * (a : Int))) (by omega) (by omega)]

/-- The reference, in a block. -/
theorem costr_inner {n : Nat × Nat} (hn : 100000000000000000000 ≤ n.1) {l : List Src} (hg : Good l) {V : List Frc} (hV : V.length = l.length) {b e p q : Nat} (he : e ≤ l.length) (hq : 0 < q) (hq72 : q ≤ 72) (hp : p ≤ 100 * q) (hVb : ∀ i (h : i < V.length), b ≤ i → i < e → V[i] = ((p : Int), (q : Int))) (u v : Int)
    {P : Int} {R D : Nat} (hRp : 0 < R) (hD : 0 < D) (hDb : D ≤ 11019960576) (hqD : q * q ∣ D) : ∀ (c k m : Nat) (Pk : Int) (Rk : Nat), k + c = e → b ≤ k → 0 < Rk → Rk ∣ D → Pk.natAbs ≤ 180000 * k * Rk →
      Pk * (R * (q * q)) = Rk * (P * (q * q) + rss ((p : Int), (q : Int)) ((l.take k).drop b) * R) → (k = b → Nat.gcd Pk.natAbs Rk = 1) → (b < k → Nat.gcd Pk.natAbs Rk = 1) →
      ∃ (P' : Int) (R' : Nat), DL36_1 n (m + c) l (k : Int) u v V Pk (Rk : Int) = DL36_1 n m l (e : Int) u v V P' (R' : Int) ∧ 0 < R' ∧ R' ∣ D ∧ P'.natAbs ≤ 180000 * e * R' ∧ Nat.gcd P'.natAbs R' = 1 ∧
        P' * (R * (q * q)) = R' * (P * (q * q) + rss ((p : Int), (q : Int)) ((l.take e).drop b) * R)
  | 0, k, m, Pk, Rk, hke, hbk, hRk, hRD, hPk, hx, hc0, hc1 => by
    have : k = e := by omega
    subst this
    refine ⟨Pk, Rk, rfl, hRk, hRD, hPk, ?_, hx⟩
    rcases Nat.eq_or_lt_of_le hbk with h | h
    · exact hc0 h.symm
    · exact hc1 h
  | c + 1, k, m, Pk, Rk, hke, hbk, hRk, hRD, hPk, hx, hc0, hc1 => by
    have h8 := hg.le
    have hlt : k < l.length := by omega
    have hlv : k < V.length := by omega
    have hs := hg.all l[k] (List.getElem_mem hlt)
    have hVk := hVb k hlv hbk (by omega)
    rw [show m + (c + 1) = (m + c) + 1 by omega, DL36_1_succ]
    unfold DF36_1
    have hin : inB (k : Int) V.length = true := by simp [inB]; omega
    rw [show decide ((k : Int) < (l.length : Int)) = true by simpa using hlt, cond_true, idx_nat hlt]
    simp only [Option.bind_some, hin, cond_true, idx_nat hlv, hVk]
    have m0 : 0 ≤ l[k].1 * (q : Int) := Int.mul_nonneg hs.1 (by omega)
    have m1 : l[k].1 * (q : Int) ≤ 100 * (q : Int) := Int.mul_le_mul_of_nonneg_right hs.2.1 (by omega)
    rw [wr_ok (x := l[k].1 * (q : Int)) (by omega) (by omega), wr_ok (x := l[k].1 * (q : Int) - (p : Int)) (by omega) (by omega)]
    have hz : rss ((p : Int), (q : Int)) ((l.take (k + 1)).drop b) = rss ((p : Int), (q : Int)) ((l.take k).drop b) + l[k].2 * (l[k].1 * (q : Int) - (p : Int)) * (l[k].1 * (q : Int) - (p : Int)) := by
      have ha : ∀ (x y : List Src) (w : Frc), rss w (x ++ y) = rss w x + rss w y := by
        intro x y w
        induction x with
        | nil => simp [rss]
        | cons z x ih => simp only [List.cons_append, rss, ih]; omega
      rw [List.take_succ_eq_append_getElem hlt, List.drop_append_of_le_length (by simp; omega), ha]
      simp [rss]
    generalize hd : l[k].1 * (q : Int) - (p : Int) = d at hz ⊢
    have hdb : d.natAbs ≤ 100 * q := by omega
    have hT9 : l[k].2.natAbs ≤ 9 := by omega
    have n1 : (l[k].2 * d).natAbs ≤ 9 * (100 * q) := by rw [Int.natAbs_mul]; exact Nat.mul_le_mul hT9 hdb
    have n2 : (l[k].2 * d * d).natAbs ≤ 9 * (100 * q) * (100 * q) := by rw [Int.natAbs_mul]; exact Nat.mul_le_mul n1 hdb
    have n3 : 9 * (100 * q) * (100 * q) = 90000 * (q * q) := by grind
    rw [n3] at n2
    have n4 : q * q ≤ 5184 := Nat.mul_le_mul hq72 hq72
    have n5 : 0 < q * q := Nat.mul_pos hq hq
    rw [wr_ok (x := l[k].2 * d) (by omega) (by omega), wr_ok (x := l[k].2 * d * d) (by omega) (by omega), ← Int.natCast_mul, wr_nat (x := q * q) (by omega), lowestZ_eq hn n5 (by omega) (by omega)]
    simp only [Option.bind_some]
    have hBC : (180000 * k + 90000) * D ≤ 4000000000000000000 := by
      have := Nat.mul_le_mul (show 180000 * k + 90000 ≤ 1530000 by omega) hDb
      omega
    obtain ⟨P', R', e1, e2, e3, e4, e5, e6⟩ := plus_gen hn (P := Pk) (num := l[k].2 * d * d) (R := Rk) (den := q * q) (D := D) (B := 180000 * k) (C := 90000) hRk n5 hRD hqD hD (by omega) hBC hPk n2
    rw [e1]
    simp only [Option.bind_some]
    rw [show wr .i64 ((k : Int) + 1) = ((k + 1 : Nat) : Int) by rw [wr_ok (by omega) (by omega)]; omega]
    refine costr_inner hn hg hV he hq hq72 hp hVb u v hRp hD hDb hqD c (k + 1) m P' R' (by omega) (by omega) e2 e3 ?_ ?_ (fun h => by omega) (fun _ => e5)
    · refine Nat.le_trans e4 (Nat.mul_le_mul_right _ (by omega))
    · rw [hz]
      simp only [Int.natCast_mul] at e6
      generalize l[k].2 * d * d = w at e6 ⊢
      have hRkI : (Rk : Int) ≠ 0 := by omega
      refine Int.eq_of_mul_eq_mul_right hRkI ?_
      generalize rss ((p : Int), (q : Int)) ((l.take k).drop b) = S at hx ⊢
      grind

end Go.Proofs.Ytombednapelokaa
