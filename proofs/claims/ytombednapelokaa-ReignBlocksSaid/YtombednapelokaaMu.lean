/- Reign: plain laws: the cost, of the program and of the reference. -/
import Derived.Test.YtombednapelokaaMr
import Derived.Test.YtombednapelokaaMp
set_option linter.unusedVariables false
set_option linter.unusedSimpArgs false
namespace Go.Proofs.Ytombednapelokaa
open Go.Vi
/-- The sum of two fractions, by the program. -/
theorem add_gen {n : Nat × Nat} (hn : 100000000000000000000 ≤ n.1) {P num : Int} {R den D B C : Nat} (hR : 0 < R) (hd : 0 < den) (hRD : R ∣ D) (hdD : den ∣ D) (hD : 0 < D) (hDb : D ≤ 4000000000000000000) (hB : (B + C) * D ≤ 4000000000000000000) (hP : P.natAbs ≤ B * R) (hnum : num.natAbs ≤ C * den) :
    ∃ (P' : Int) (R' : Nat), D80 n (P, (R : Int)) num (den : Int) = some (P', (R' : Int)) ∧ 0 < R' ∧ R' ∣ D ∧ P'.natAbs ≤ (B + C) * R' ∧ Nat.gcd P'.natAbs R' = 1 ∧ P' * ((R * den : Nat) : Int) = R' * (P * den + num * R) := by
  have hRle : R ≤ D := Nat.le_of_dvd hD hRD
  have hdle : den ≤ D := Nat.le_of_dvd hD hdD
  let d := Nat.gcd R den
  have hdp : 0 < d := Nat.gcd_pos_of_pos_left _ hR
  obtain ⟨q1, hq1⟩ : d ∣ R := Nat.gcd_dvd_left _ _
  obtain ⟨d1, hd1⟩ : d ∣ den := Nat.gcd_dvd_right _ _
  have hq1p : 0 < q1 := Nat.pos_of_ne_zero (by rintro rfl; simp at hq1; omega)
  have eq1 : R / d = q1 := by rw [hq1]; exact Nat.mul_div_cancel_left _ hdp
  have ed1 : den / d = d1 := by rw [hd1]; exact Nat.mul_div_cancel_left _ hdp
  have hq1q : q1 ≤ R := by rw [hq1]; exact Nat.le_mul_of_pos_left _ hdp
  have hd1d : d1 ≤ den := by rw [hd1]; exact Nat.le_mul_of_pos_left _ hdp
  have hM : q1 * den = R * d1 := by rw [hq1, hd1, Nat.mul_left_comm, Nat.mul_assoc]
  have hMD : q1 * den ∣ D := by
    have h1 : Nat.lcm R den ∣ D := Nat.lcm_dvd hRD hdD
    have h2 : Nat.lcm R den = R * d1 := by
      unfold Nat.lcm
      rw [Nat.mul_div_assoc _ (Nat.gcd_dvd_right _ _)]
      show R * (den / d) = _
      rw [ed1]
    rw [h2] at h1
    rwa [hM]
  have hMle : q1 * den ≤ D := Nat.le_of_dvd hD hMD
  have hMp : 0 < q1 * den := Nat.mul_pos hq1p hd
  have b1 : (P * (d1 : Int)).natAbs ≤ B * (q1 * den) := by
    rw [Int.natAbs_mul, Int.natAbs_natCast, hM, ← Nat.mul_assoc]
    exact Nat.mul_le_mul_right _ hP
  have b2 : (num * (q1 : Int)).natAbs ≤ C * (q1 * den) := by
    rw [Int.natAbs_mul, Int.natAbs_natCast, Nat.mul_comm q1 den, ← Nat.mul_assoc]
    exact Nat.mul_le_mul_right _ hnum
  have b3 : (B + C) * (q1 * den) ≤ (B + C) * D := Nat.mul_le_mul_left _ hMle
  rw [Nat.add_mul] at b3
  have g0 : (((Nat.gcd R den : Nat) : Int) == 0) = false := by
    rw [beq_eq_false_iff_ne]
    have : 0 < Nat.gcd R den := hdp
    omega
  have hprog : D80 n (P, (R : Int)) num (den : Int) = some (redZ (P * (d1 : Int) + num * (q1 : Int)) (q1 * den)) := by
    unfold D80 D105
    rw [gcd_loop n n.1 R den (by omega)]
    simp only [Option.bind_some]
    have e1 : Int.tdiv (den : Int) (Nat.gcd R den : Nat) = (d1 : Int) := by rw [← ed1]; rfl
    have e2 : Int.tdiv (R : Int) (Nat.gcd R den : Nat) = (q1 : Int) := by rw [← eq1]; rfl
    simp only [g0, cond_false, e1, e2]
    rw [wr_nat (x := d1) (by omega), wr_nat (x := q1) (by omega), wr_ok (x := P * (d1 : Int)) (by omega) (by omega), wr_ok (x := num * (q1 : Int)) (by omega) (by omega), wr_ok (x := P * (d1 : Int) + num * (q1 : Int)) (by omega) (by omega),
      ← Int.natCast_mul, wr_nat (by omega), reducedZ_eq hn hMp (by omega) (by omega)]
    rfl
  obtain ⟨P', R', h, e1, hh, hR', ea, eb, hcop⟩ := redZ_spec (P * (d1 : Int) + num * (q1 : Int)) hMp
  refine ⟨P', R', by rw [hprog, e1], hR', Nat.dvd_trans ⟨h, eb⟩ hMD, ?_, hcop, ?_⟩
  · have : P'.natAbs * h ≤ (B + C) * R' * h := by
      rw [Nat.mul_assoc, ← eb, Nat.add_mul]
      have := congrArg Int.natAbs ea
      rw [Int.natAbs_mul, Int.natAbs_natCast] at this
      omega
    exact Nat.le_of_mul_le_mul_right this hh
  · have a1 : (q1 : Int) * den = R * d1 := by exact_mod_cast hM
    have a2 : (q1 : Int) * den = R' * h := by exact_mod_cast eb
    have key : P' * ((R : Int) * den) * h = R' * (P * den + num * R) * h := by
      grind
    rw [Int.natCast_mul]
    exact Int.eq_of_mul_eq_mul_right (by omega) key
/-! ### Sums of squares -/
def q2s : List Src → Nat
  | [] => 0
  | s :: r => s.2.toNat * s.1.toNat * s.1.toNat + q2s r
/-- The sum of the squares of rests by a value, times the square of its Den. -/
def rss (v : Frc) : List Src → Int
  | [] => 0
  | s :: r => s.2 * (s.1 * v.2 - v.1) * (s.1 * v.2 - v.1) + rss v r
theorem rss_eq (v : Frc) : ∀ {s : List Src}, (∀ x ∈ s, 0 ≤ x.1 ∧ x.1 ≤ 100 ∧ 1 ≤ x.2 ∧ x.2 ≤ 9) → rss v s = v.2 * v.2 * ((q2s s : Nat) : Int) - 2 * v.2 * v.1 * ((ysum s : Nat) : Int) + v.1 * v.1 * ((tsum s : Nat) : Int)
  | [], _ => by simp [rss, q2s, ysum, tsum]
  | x :: r, h => by
    have ih := rss_eq v (s := r) fun y hy => h y (List.mem_cons_of_mem _ hy)
    have hx := h x (by simp)
    obtain ⟨a, ha⟩ := Int.eq_ofNat_of_zero_le hx.1
    obtain ⟨b, hb⟩ := Int.eq_ofNat_of_zero_le (show 0 ≤ x.2 by omega)
    simp only [rss, q2s, ysum, tsum, ha, hb, Int.toNat_natCast, ih]
    simp only [Int.natCast_add, Int.natCast_mul]
    grind
theorem q2s_le : ∀ {s : List Src}, (∀ x ∈ s, 0 ≤ x.1 ∧ x.1 ≤ 100 ∧ 1 ≤ x.2 ∧ x.2 ≤ 9) → q2s s ≤ 90000 * s.length
  | [], _ => by simp [q2s]
  | x :: r, h => by
    have ih := q2s_le (s := r) fun y hy => h y (List.mem_cons_of_mem _ hy)
    have hx := h x (by simp)
    have h1 := Nat.mul_le_mul (show x.2.toNat ≤ 9 by omega) (show x.1.toNat ≤ 100 by omega)
    have h2 := Nat.mul_le_mul h1 (show x.1.toNat ≤ 100 by omega)
    simp only [q2s, List.length_cons]
    omega
theorem drop_sq {l : List Src} {k : Nat} (h : k < l.length) : q2s (l.drop k) = l[k].2.toNat * l[k].1.toNat * l[k].1.toNat + q2s (l.drop (k + 1)) := by
  rw [drop_cons h]
  rfl
/-- The program, in a block. -/
theorem cost_inner (n : Nat × Nat) (f1 : (List (Int × Int)) → Int → Int → Int → Int → Int → Int → (List (Int × Int × Int × Int)) → Option R35) (l : List Src) (v21 v22 u v : Int) (bs : List B4) {s : List Src} (hs : Ok s) {R : Nat} (hR : R * 720000 ≤ 1000000000000000000) : ∀ (m k a b : Nat) (P : Int), k ≤ s.length → s.length - k < m →
    a + ysum (s.drop k) ≤ 7200 → b + tsum (s.drop k) ≤ 72 → P.natAbs + R * q2s (s.drop k) ≤ 4000000000000000000 →
    DL35_2 n f1 m l (a : Int) (b : Int) v21 v22 s (s.length : Int) (k : Int) u v P (R : Int) bs =
      (D80 n (P + ((R * q2s (s.drop k) : Nat) : Int), (R : Int)) (-(((a + ysum (s.drop k) : Nat) : Int) * ((a + ysum (s.drop k) : Nat) : Int))) ((b + tsum (s.drop k) : Nat) : Int)).bind fun r => f1 l v21 (wr .i64 (v22 + 1)) u v r.1 r.2 bs
  | 0, k, _, _, _, _, h, _, _, _ => by omega
  | m + 1, k, a, b, P, hk, h, ha, hb, hP => by
    have h8 := hs.1
    rw [DL35_2_succ]
    unfold DF35_2
    by_cases hlt : k < s.length
    · have hx := hs.2 s[k] (List.getElem_mem hlt)
      obtain ⟨y, hy⟩ := Int.eq_ofNat_of_zero_le hx.1
      obtain ⟨t, ht⟩ := Int.eq_ofNat_of_zero_le (show 0 ≤ s[k].2 by omega)
      have hyt : s[k].1.toNat = y := by rw [hy]; rfl
      have htt : s[k].2.toNat = t := by rw [ht]; rfl
      rw [ysum_drop hlt, hyt, htt] at ha ⊢
      rw [tsum_drop hlt, htt] at hb ⊢
      rw [drop_sq hlt, hyt, htt] at hP ⊢
      have c1 := Nat.mul_le_mul (show t ≤ 9 by omega) (show y ≤ 100 by omega)
      have c2 := Nat.mul_le_mul c1 (show y ≤ 100 by omega)
      have c3 : t * y * y * R ≤ 90000 * R := Nat.mul_le_mul_right _ c2
      have c4 : R * (t * y * y + q2s (s.drop (k + 1))) = t * y * y * R + R * q2s (s.drop (k + 1)) := by rw [Nat.mul_add, Nat.mul_comm R (t * y * y)]
      rw [c4] at hP ⊢
      have c5 : y * t = t * y := Nat.mul_comm _ _
      rw [show decide ((k : Int) < (s.length : Int)) = true by simpa using hlt, cond_true, idx_nat hlt]
      simp only [Option.bind_some, hy, ht]
      rw [← Int.natCast_mul, ← Int.natCast_mul t y, wr_nat (x := y * t) (by omega), wr_nat (x := t * y) (by omega), ← Int.natCast_mul (t * y) y, wr_nat (x := t * y * y) (by omega), ← Int.natCast_mul (t * y * y) R, wr_nat (x := t * y * y * R) (by omega),
        ← Int.natCast_add, wr_nat (x := a + y * t) (by omega), ← Int.natCast_add, wr_nat (x := b + t) (by omega), wr_ok (x := P + _) (by omega) (by omega), wr_ok (x := (k : Int) + 1) (by omega) (by omega)]
      have ih := cost_inner n f1 l v21 v22 u v bs hs hR m (k + 1) (a + y * t) (b + t) (P + ((t * y * y * R : Nat) : Int)) (by omega) (by omega) (by omega) (by omega) (by omega)
      rw [show ((k + 1 : Nat) : Int) = (k : Int) + 1 by omega] at ih
      rw [ih, show a + y * t + ysum (s.drop (k + 1)) = a + (y * t + ysum (s.drop (k + 1))) by omega, show b + t + tsum (s.drop (k + 1)) = b + (t + tsum (s.drop (k + 1))) by omega, show P + ((t * y * y * R : Nat) : Int) + ((R * q2s (s.drop (k + 1)) : Nat) : Int) = P + ((t * y * y * R + R * q2s (s.drop (k + 1)) : Nat) : Int) by omega]
    · rw [show decide ((k : Int) < (s.length : Int)) = false by simpa using hlt, cond_false]
      rw [List.drop_of_length_le (by omega)] at ha hb ⊢
      simp only [ysum, tsum, q2s, Nat.add_zero, Nat.mul_zero, Int.natCast_zero, Int.add_zero] at ha hb ⊢
      have c1 := Nat.mul_le_mul ha ha
      have c2 : (0 - (a : Int)) * (a : Int) = -((a : Int) * (a : Int)) := by grind
      have c3 : (a : Int) * (a : Int) = ((a * a : Nat) : Int) := (Int.natCast_mul a a).symm
      rw [wr_ok (x := 0 - (a : Int)) (by omega) (by omega), c2, wr_ok (x := -((a : Int) * (a : Int))) (by omega) (by omega)]
end Go.Proofs.Ytombednapelokaa
