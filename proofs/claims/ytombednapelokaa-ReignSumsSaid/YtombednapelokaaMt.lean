/- Reign: plain laws: the nearest values, each times its trust, are together what the years are. -/
import Derived.Test.YtombednapelokaaMs
import Derived.Test.YtombednapelokaaViX
import Derived.Test.YtombednapelokaaLG7
set_option linter.unusedVariables false
set_option linter.unusedSimpArgs false
namespace Go.Proofs.Ytombednapelokaa
open Go.Vi

abbrev N1 : Nat × Nat := (100000000000000000000, 1)
theorem works_val1 : D18 N1 = some true := by kernel_rfl

theorem ChT.uniq : ∀ {K : List (Nat × Nat)} {t : Nat}, ChT K t → ∀ x ∈ K, ∀ y ∈ K, ∀ i, x.1 ≤ i → i < x.2 → y.1 ≤ i → i < y.2 → x = y
  | [], _, _, x, hx, _, _, _, _, _, _, _ => by cases hx
  | (b, e) :: r, t, ⟨h1, h2, h3⟩, x, hx, y, hy, i, a1, a2, a3, a4 => by
    rcases List.mem_cons.1 hx with rfl | hx <;> rcases List.mem_cons.1 hy with rfl | hy
    · rfl
    · have := h3.rng y hy
      simp only at a1 a2
      omega
    · have := h3.rng x hx
      simp only at a3 a4
      omega
    · exact ChT.uniq h3 x hx y hy i a1 a2 a3 a4

theorem Y_succ {l : List Src} {k : Nat} (h : k < l.length) : Yk l (k + 1) = Yk l k + ((l[k].1.toNat * l[k].2.toNat : Nat) : Int) ∧ Tk l (k + 1) = Tk l k + ((l[k].2.toNat : Nat) : Int) := by
  unfold Yk Tk
  rw [List.take_succ_eq_append_getElem h, ysum_app, tsum_app]
  simp only [ysum, tsum]
  omega

/-- One step of the sum: of near/den and T p/q. -/
theorem sum_step {near den T p q K : Nat} (hden : 0 < den) (hq : 0 < q) (hq72 : q ≤ 72) (hK : K ≤ 7) (hdb : den ≤ 72 ^ K) (hnb : near ≤ 900 * K * den) (hTp : T * p ≤ 900 * q) :
    ∃ d near1 den1 g near' den', d = Nat.gcd den q ∧ 0 < d ∧ den / d * d = den ∧ q / d * d = q ∧ near1 = near * (q / d) + T * p * (den / d) ∧ den1 = den / d * q ∧ g = Nat.gcd near1 den1 ∧ 0 < g ∧ near' = near1 / g ∧ den' = den1 / g ∧ 0 < den' ∧ den1 ≤ 722204136308736 ∧
      near * (q / d) ≤ 6300 * 722204136308736 ∧ T * p * (den / d) ≤ 900 * 722204136308736 ∧ den' ≤ 72 ^ (K + 1) ∧ near' ≤ 900 * (K + 1) * den' ∧ near' * (den * q) = den' * (near * q + T * p * den) := by
  have h72 : 72 ^ (K + 1) ≤ 722204136308736 := by
    have : 72 ^ (K + 1) ≤ 72 ^ 8 := Nat.pow_le_pow_right (by omega) (by omega)
    omega
  have hdp : 0 < Nat.gcd den q := Nat.gcd_pos_of_pos_left _ hden
  have e1 : den / Nat.gcd den q * Nat.gcd den q = den := Nat.div_mul_cancel (Nat.gcd_dvd_left _ _)
  have e2 : q / Nat.gcd den q * Nat.gcd den q = q := Nat.div_mul_cancel (Nat.gcd_dvd_right _ _)
  generalize Nat.gcd den q = d at hdp e1 e2 ⊢
  generalize hA : den / d = A at e1
  generalize hB : q / d = B at e2
  have hAp : 0 < A := Nat.pos_of_ne_zero (by rintro rfl; simp at e1; omega)
  have hAd : A ≤ den := by rw [← e1]; exact Nat.le_mul_of_pos_right _ hdp
  -- A q = den B
  have hM : A * q = den * B := by rw [← e1, ← e2, Nat.mul_assoc, Nat.mul_comm d B]
  have hden1 : A * q ≤ 72 ^ (K + 1) := by
    rw [Nat.pow_succ]
    exact Nat.mul_le_mul (Nat.le_trans hAd hdb) hq72
  have hden1p : 0 < A * q := Nat.mul_pos hAp hq
  have b1 : near * B ≤ 900 * K * (A * q) := by
    rw [hM, ← Nat.mul_assoc]
    exact Nat.mul_le_mul_right _ hnb
  have b2 : T * p * A ≤ 900 * (A * q) := by
    rw [Nat.mul_comm A q, ← Nat.mul_assoc]
    exact Nat.mul_le_mul_right _ hTp
  have hKb : 900 * K * (A * q) ≤ 6300 * 722204136308736 := Nat.mul_le_mul (by omega) (by omega)
  have hsum : 900 * K * (A * q) + 900 * (A * q) = 900 * (K + 1) * (A * q) := by rw [← Nat.add_mul, Nat.mul_add, Nat.mul_one]
  have hg : 0 < Nat.gcd (near * B + T * p * A) (A * q) := Nat.gcd_pos_of_pos_right _ hden1p
  have g1 : (near * B + T * p * A) / Nat.gcd (near * B + T * p * A) (A * q) * Nat.gcd (near * B + T * p * A) (A * q) = near * B + T * p * A := Nat.div_mul_cancel (Nat.gcd_dvd_left _ _)
  have g2 : A * q / Nat.gcd (near * B + T * p * A) (A * q) * Nat.gcd (near * B + T * p * A) (A * q) = A * q := Nat.div_mul_cancel (Nat.gcd_dvd_right _ _)
  refine ⟨d, near * B + T * p * A, A * q, Nat.gcd (near * B + T * p * A) (A * q), _, _, rfl, hdp, by rw [hA]; exact e1, by rw [hB]; exact e2, by rw [hA, hB], by rw [hA], rfl, hg, rfl, rfl, ?_, by omega, by rw [hB]; omega, by rw [hA]; omega, ?_, ?_, ?_⟩
  all_goals
    generalize Nat.gcd (near * B + T * p * A) (A * q) = g at hg g1 g2 ⊢
    generalize (near * B + T * p * A) / g = near' at g1 ⊢
    generalize A * q / g = den' at g2 ⊢
  · exact Nat.pos_of_ne_zero (by rintro rfl; simp at g2; omega)
  · have : den' ≤ A * q := by rw [← g2]; exact Nat.le_mul_of_pos_right _ hg
    omega
  · have : near' * g ≤ 900 * (K + 1) * den' * g := by
      rw [g1, Nat.mul_assoc _ den' g, g2]
      omega
    exact Nat.le_of_mul_le_mul_right this hg
  · -- near' den q = den' (near q + T p den); times g: near1 den q = den1 (near q + T p den)
    refine Nat.eq_of_mul_eq_mul_right hg ?_
    have l1 : near' * (den * q) * g = (near * B + T * p * A) * (den * q) := by rw [← g1, Nat.mul_right_comm]
    have l2 : den' * (near * q + T * p * den) * g = A * q * (near * q + T * p * den) := by rw [← g2, Nat.mul_right_comm]
    rw [l1, l2, Nat.add_mul, Nat.mul_add]
    have t1 : near * B * (den * q) = A * q * (near * q) := by
      rw [hM]
      simp only [Nat.mul_comm, Nat.mul_left_comm, Nat.mul_assoc]
    have t2 : T * p * A * (den * q) = A * q * (T * p * den) := by
      simp only [Nat.mul_comm, Nat.mul_left_comm, Nat.mul_assoc]
    rw [t1, t2]

/-- What the sum is, at a place. -/
def At (l : List Src) (K : List (Nat × Nat)) (k near den : Nat) : Prop :=
  (k = l.length → (near : Int) = den * Yk l k) ∧ ∀ x ∈ K, x.1 ≤ k → k < x.2 → (near : Int) * (Mx l x.1 x.2).2 = den * ((Mx l x.1 x.2).2 * Yk l x.1 + (Mx l x.1 x.2).1 * (Tk l k - Tk l x.1))

theorem At.step {l : List Src} (ho : Ok l) {K : List (Nat × Nat)} (hK : ChT K l.length) {k near den near' den' : Nat} (hk : k < l.length) (h : At l K k near den) (hden : 0 < den) {x : Nat × Nat} (hx : x ∈ K) (h1 : x.1 ≤ k) (h2 : k < x.2)
    (e : (near' : Int) * (den * (Mx l x.1 x.2).2) = den' * (near * (Mx l x.1 x.2).2 + ((l[k].2.toNat : Nat) : Int) * (Mx l x.1 x.2).1 * den)) : At l K (k + 1) near' den' := by
  have hr := hK.rng x hx
  have F := Mx_Fr ho hr.1 hr.2
  have hA := h.2 x hx h1 h2
  have hT := (Y_succ (l := l) hk).2
  have key : (near' : Int) * (Mx l x.1 x.2).2 = den' * ((Mx l x.1 x.2).2 * Yk l x.1 + (Mx l x.1 x.2).1 * (Tk l (k + 1) - Tk l x.1)) := by
    rw [hA] at e
    generalize (Mx l x.1 x.2).2 = q at *
    generalize (Mx l x.1 x.2).1 = p at *
    have e2 : (near' : Int) * q * den = den' * (q * Yk l x.1 + p * (Tk l (k + 1) - Tk l x.1)) * den := by
      have x1 : (near' : Int) * q * den = near' * (den * q) := by rw [Int.mul_assoc, Int.mul_comm q den]
      have x2 : ((den : Int) * (q * Yk l x.1 + p * (Tk l k - Tk l x.1)) + ((l[k].2.toNat : Nat) : Int) * p * den) = (q * Yk l x.1 + p * (Tk l (k + 1) - Tk l x.1)) * den := by
        rw [hT]
        generalize ((l[k].2.toNat : Nat) : Int) = t
        rw [show Tk l k + t - Tk l x.1 = (Tk l k - Tk l x.1) + t by omega, Int.mul_add p, ← Int.add_assoc]
        generalize q * Yk l x.1 + p * (Tk l k - Tk l x.1) = X
        rw [Int.add_mul, Int.mul_comm (den : Int) X, Int.mul_comm t p]
      rw [x1, e, x2, ← Int.mul_assoc]
    exact Int.eq_of_mul_eq_mul_right (by omega) e2
  have hend : k + 1 = x.2 → (near' : Int) = den' * Yk l (k + 1) := by
    intro he
    have hm := dv_mean ho hr.1 hr.2
    unfold dv at hm
    rw [he] at key ⊢
    have e3 : (near' : Int) * (Mx l x.1 x.2).2 = den' * Yk l x.2 * (Mx l x.1 x.2).2 := by
      rw [key, Int.mul_assoc]
      congr 1
      rw [Int.mul_sub] at hm
      rw [Int.mul_comm (Yk l x.2)]
      omega
    exact Int.eq_of_mul_eq_mul_right (by have := F.dp; omega) e3
  refine ⟨fun he => hend (by omega), fun y hy y1 y2 => ?_⟩
  by_cases hb : k + 1 < x.2
  · have := hK.uniq x hx y hy (k + 1) (by omega) hb y1 y2
    subst this
    exact key
  · have hb' : k + 1 = x.2 := by omega
    have hy0 : y.1 = k + 1 := by
      rcases Nat.lt_or_ge y.1 (k + 1) with hlt | hge
      · have := hK.uniq x hx y hy k h1 h2 (by omega) (by omega)
        subst this
        omega
      · omega
    have := hend hb'
    rw [hy0, this, show Tk l (k + 1) - Tk l (k + 1) = 0 by omega, Int.mul_zero, Int.add_zero, Int.mul_assoc, Int.mul_comm (Yk l (k + 1))]

/-! ### The mean of the law -/
theorem msum_loop (n : Nat × Nat) (l : List Src) (ho : Ok l) : ∀ (m k a b : Nat), k ≤ l.length → l.length - k < m → a + ysum (l.drop k) = ysum l → b + tsum (l.drop k) = tsum l → DL66_1 n m (a : Int) (b : Int) l (l.length : Int) (k : Int) = some (((ysum l : Nat) : Int), ((tsum l : Nat) : Int))
  | 0, k, _, _, _, h, _, _ => by omega
  | m + 1, k, a, b, hk, h, ha, hb => by
    have hs := Ok.sums ho.2
    have hle := ho.1
    rw [DL66_1_succ]
    unfold DF66_1
    by_cases hlt : k < l.length
    · rw [show decide ((k : Int) < (l.length : Int)) = true by simpa using hlt, cond_true, idx_nat hlt]
      have hk2 := ho.2 l[k] (List.getElem_mem hlt)
      have hp := prod_cast hk2
      rw [ysum_drop hlt] at ha
      rw [tsum_drop hlt] at hb
      simp only [Option.bind_some]
      rw [hp, wr_ok (x := ((l[k].1.toNat * l[k].2.toNat : Nat) : Int)) (by omega) (by omega), wr_ok (x := (a : Int) + _) (by omega) (by omega), wr_ok (x := (b : Int) + _) (by omega) (by omega), wr_ok (x := (k : Int) + 1) (by omega) (by omega)]
      have ih := msum_loop n l ho m (k + 1) (a + l[k].1.toNat * l[k].2.toNat) (b + l[k].2.toNat) (by omega) (by omega) (by omega) (by omega)
      rw [show (a : Int) + ((l[k].1.toNat * l[k].2.toNat : Nat) : Int) = ((a + l[k].1.toNat * l[k].2.toNat : Nat) : Int) by omega, show (b : Int) + l[k].2 = ((b + l[k].2.toNat : Nat) : Int) by omega,
        show (k : Int) + 1 = ((k + 1 : Nat) : Int) by omega]
      exact ih
    · rw [show decide ((k : Int) < (l.length : Int)) = false by simpa using hlt, cond_false]
      rw [List.drop_of_length_le (by omega)] at ha hb
      simp only [ysum, tsum, Nat.add_zero] at ha hb
      rw [ha, hb]

theorem meanl_eq {n : Nat × Nat} (hn : 4611686018427387904 ≤ n.1) {l : List Src} (ho : Ok l) (hne : 0 < l.length) : D50 n l = some (mn l) := by
  have hs := Ok.sums ho.2
  have hle := ho.1
  unfold D50 D66
  have h1 := msum_loop n l ho n.1 0 0 0 (by omega) (by omega) (by simp) (by simp)
  simp only [Int.natCast_zero] at h1
  rw [h1]
  simp only [Option.bind_some]
  have hg : 0 < Nat.gcd (ysum l) (tsum l) := Nat.gcd_pos_of_pos_right _ (by omega)
  have h0 : (((Nat.gcd (ysum l) (tsum l) : Nat) : Int) == 0) = false := by
    simp
    omega
  rw [common_eq (by omega) (by omega) (by omega)]
  simp only [Option.bind_some, h0, cond_false]
  have l1 : ysum l / Nat.gcd (ysum l) (tsum l) ≤ ysum l := Nat.div_le_self _ _
  have l2 : tsum l / Nat.gcd (ysum l) (tsum l) ≤ tsum l := Nat.div_le_self _ _
  have e1 : Int.tdiv (ysum l : Int) (Nat.gcd (ysum l) (tsum l) : Nat) = ((ysum l / Nat.gcd (ysum l) (tsum l) : Nat) : Int) := rfl
  have e2 : Int.tdiv (tsum l : Int) (Nat.gcd (ysum l) (tsum l) : Nat) = ((tsum l / Nat.gcd (ysum l) (tsum l) : Nat) : Int) := rfl
  rw [e1, e2, wr_nat (by omega), wr_nat (by omega)]
  rfl

/-- Mean, as it answers. -/
theorem meanf_spec {n : Nat × Nat} (hn : 4611686018427387904 ≤ n.1) {l : List Src} (hg : Good l) (b e : Int) : D22 n l b e = some (if ¬ ((0 ≤ b ∧ b ≤ (l.length : Int)) ∧ (0 ≤ e ∧ e ≤ (l.length : Int))) then ((0, 0), 2) else if e ≤ b then ((0, 0), 7) else (mn ((l.take (Int.toNat e)).drop (Int.toNat b)), 0)) := by
  have h1 := hg.pos
  have h2 := hg.le
  unfold D22
  rw [chk_eq (by omega), good_chk hg]
  simp only [Option.bind_some, orB, bne_self_eq_false, cond_false]
  by_cases hin : (0 ≤ b ∧ b ≤ (l.length : Int)) ∧ (0 ≤ e ∧ e ≤ (l.length : Int))
  · have hA : (decide ((if e < b then e else b) < 0) || decide ((if e > b then e else b) > (l.length : Int))) = false := by
      rw [Bool.or_eq_false_iff]
      constructor <;> split <;> simp <;> omega
    rw [hA, cond_false, if_neg (fun h => h hin)]
    by_cases hle : e ≤ b
    · simp only [hle, decide_true, cond_true, if_true]
    · have hb1 : bounds (some b) (some e) (some e) l.length = true := by simp [bounds]; omega
      simp only [hle, decide_false, cond_false, hb1, cond_true, if_false]
      rw [mean_eq hn ((hg.ok.take _).drop _) (by simp; omega)]
      rfl
  · have hA : (decide ((if e < b then e else b) < 0) || decide ((if e > b then e else b) > (l.length : Int))) = true := by
      rw [Bool.or_eq_true]
      by_cases c : (if e < b then e else b) < 0
      · exact .inl (by simpa using c)
      · refine .inr ?_
        simp only [gt_iff_lt, decide_eq_true_eq]
        split at c <;> split <;> omega
    rw [hA, cond_true, if_pos hin]

theorem high_none {n : Nat × Nat} (hn : 100 ≤ n.1) {l : List Src} (hg : Good l) : D26 n l (l.length : Int) = some ((0, 0), 2) := by
  unfold D26 D73
  rw [chk_eq hn, good_chk hg]
  simp only [Option.bind_some, orB, bne_self_eq_false, cond_false]
  rw [show (decide ((l.length : Int) < 0) || decide ((l.length : Int) ≥ (l.length : Int))) = true by simp]
  rfl
theorem low_none {n : Nat × Nat} (hn : 100 ≤ n.1) {l : List Src} (hg : Good l) : D28 n l (-1) = some ((0, 0), 2) := by
  unfold D28 D73
  rw [chk_eq hn, good_chk hg]
  simp only [Option.bind_some, orB, bne_self_eq_false, cond_false]
  rw [show (decide ((-1 : Int) < 0) || decide ((-1 : Int) ≥ (l.length : Int))) = true from rfl]
  rfl

/-! ### The law -/
theorem frac_refl (x : Frc) : ((x.1 == x.1) && ((x.2 == x.2) && true)) = true := by simp

theorem tail_val {l : List Src} (hg : Good l) {one two : Int} (h1 : 0 ≤ one ∧ one ≤ 255) (h2 : 0 ≤ two ∧ two ≤ 255) {near den : Nat} (hd : den ≤ 722204136308736) (hE : (near : Int) = den * Yk l l.length) (v : List Frc) (m : Nat) :
    DL7_1 N1 (m + 1) one two (Yk l l.length) (near : Int) (den : Int) (l.length : Int) (l.length : Int) l v = some true := by
  have hp := hg.pos
  have h8 := hg.le
  have hs := Ok.sums hg.all
  have hY : Yk l l.length = ((ysum l : Nat) : Int) := by unfold Yk; rw [List.take_length]
  have hnear : near = ysum l * den := by
    rw [hY] at hE
    have : near = den * ysum l := by exact_mod_cast hE
    rw [this, Nat.mul_comm]
  have hnb : ysum l * den ≤ 7200 * 722204136308736 := Nat.mul_le_mul (by omega) hd
  rw [DL7_1_succ]
  unfold DF7_1
  rw [show decide ((l.length : Int) < (l.length : Int)) = false by simp, cond_false, wr_ok (x := (l.length : Int) + 2) (by omega) (by omega), show (((l.length : Int) + 2) == 0) = false by rw [beq_eq_false_iff_ne]; omega, cond_false, cond_false, wr_ok (x := one) (by omega) (by omega), wr_ok (x := two) (by omega) (by omega)]
  have t1 := tmod_rng h1.1 (show 0 < (l.length : Int) + 2 by omega)
  have t2 := tmod_rng h2.1 (show 0 < (l.length : Int) + 2 by omega)
  generalize Int.tmod one ((l.length : Int) + 2) = b at t1 ⊢
  generalize Int.tmod two ((l.length : Int) + 2) = z at t2 ⊢
  rw [wr_ok (x := b - 1) (by omega) (by omega), meanf_spec (n := N1) (by decide) hg, high_none (n := N1) (by decide) hg, low_none (n := N1) (by decide) hg]
  simp only [Option.bind_some, orB]
  unfold DL7_2
  rw [hY, hnear, ← Int.natCast_mul, wr_nat (by omega)]
  by_cases hin : (0 ≤ b - 1 ∧ b - 1 ≤ (l.length : Int)) ∧ (0 ≤ z ∧ z ≤ (l.length : Int))
  · rw [if_neg (fun h => h hin), show (decide (b - 1 < 0) || decide (z > (l.length : Int))) = false by simp; omega, cond_false]
    by_cases hle : z ≤ b - 1
    · rw [if_pos hle, decide_eq_true hle, cond_true]
      simp only [bne_self_eq_false, orB, Option.bind_some, Bool.or_self, cond_false, works_val1]
      rfl
    · rw [if_neg hle, decide_eq_false hle, cond_false]
      have hb1 : bounds (some (b - 1)) (some z) none l.length = true := by simp [bounds]; omega
      have hlist : (l.drop (0 + (Int.toNat (b - 1)))).take ((Int.toNat z) - (Int.toNat (b - 1))) = (l.take (Int.toNat z)).drop (Int.toNat (b - 1)) := by
        rw [Nat.zero_add, List.drop_take]
      have hok : Ok ((l.take (Int.toNat z)).drop (Int.toNat (b - 1))) := (hg.ok.take _).drop _
      rw [hlist, meanl_eq (n := N1) (by decide) hok (by simp; omega)]
      simp only [bne_self_eq_false, orB, Option.bind_some, Bool.or_self, cond_false, hb1, cond_true, frac_refl, works_val1, show (false == false) = true from rfl, show (true == true) = true from rfl]
  · rw [if_pos hin, show (decide (b - 1 < 0) || decide (z > (l.length : Int))) = true by simp; omega, cond_true]
    simp only [bne_self_eq_false, orB, Option.bind_some, Bool.or_self, cond_false, works_val1]
    rfl

theorem sums_loop {l : List Src} (hg : Good l) {K : List (Nat × Nat)} (hK : Blk l K l.length) {v : List Frc} (hv : v.length = l.length) (hb : ∀ i f, v[i]? = some f → ∃ x ∈ K, x.1 ≤ i ∧ i < x.2 ∧ f = Mx l x.1 x.2) {one two : Int} (h1 : 0 ≤ one ∧ one ≤ 255) (h2 : 0 ≤ two ∧ two ≤ 255) :
    ∀ (m k near den : Nat), k ≤ l.length → l.length - k < m → 0 < den → den ≤ 72 ^ k → near ≤ 900 * k * den → At l K k near den → DL7_1 N1 m one two (Yk l k) (near : Int) (den : Int) (l.length : Int) (k : Int) l v = some true
  | 0, k, _, _, _, h, _, _, _, _ => by omega
  | m + 1, k, near, den, hk, h, hden, hdb, hnb, hA => by
    have hp := hg.pos
    have h8 := hg.le
    by_cases hlt : k < l.length
    · have hlv : k < v.length := by omega
      obtain ⟨x, hx, x1, x2, x3⟩ := hb k _ (List.getElem?_eq_getElem hlv)
      have hr := hK.ch.rng x hx
      have V := Mx_Val hg.ok hr.1 hr.2
      have hs := hg.all l[k] (List.getElem_mem hlt)
      obtain ⟨p, hpp⟩ := Int.eq_ofNat_of_zero_le V.fr.np
      obtain ⟨q, hqq⟩ := Int.eq_ofNat_of_zero_le (Int.le_of_lt V.fr.dp)
      have hq0 := V.fr.dp
      have hq72 := V.fr.dl
      have hp100 := V.le
      rw [hqq] at hq0 hq72
      rw [hpp, hqq] at hp100
      obtain ⟨T, hT⟩ := Int.eq_ofNat_of_zero_le (show 0 ≤ l[k].2 by omega)
      have hTt : l[k].2.toNat = T := by rw [hT]; rfl
      have hT9 : T ≤ 9 := by omega
      have hTp : T * p ≤ 900 * q := by
        have := Nat.mul_le_mul hT9 (show p ≤ 100 * q by omega)
        omega
      have hTp2 : T * p ≤ 900 * 72 := by omega
      obtain ⟨d, near1, den1, g, near', den', c1, c2, c3, c4, c5, c6, c7, c8, c9, c10, c11, c12, c13, c14, c15, c16, c17⟩ := sum_step (near := near) (den := den) (T := T) (p := p) (q := q) (K := k) hden (by omega) (by omega) (by omega) hdb hnb hTp
      have hdd : den ≤ 722204136308736 := by
        have : den / d ≤ den := Nat.div_le_self _ _
        have h72 : 72 ^ k ≤ 72 ^ 8 := Nat.pow_le_pow_right (by omega) (by omega)
        omega
      have hYs := Y_succ (l := l) hlt
      have hYb := Ok.sums (l := l.take k) (fun s hs => hg.all s (List.mem_of_mem_take hs))
      have hYk : Yk l k = ((ysum (l.take k) : Nat) : Int) := rfl
      have hlk : (l.take k).length ≤ 8 := by simp; omega
      have hTY : l[k].2 * l[k].1 = ((l[k].1.toNat * l[k].2.toNat : Nat) : Int) := by rw [Int.mul_comm]; exact prod_cast hs
      have hTYb : l[k].1.toNat * l[k].2.toNat ≤ 900 := by
        have := Nat.mul_le_mul (show l[k].1.toNat ≤ 100 by omega) (show l[k].2.toNat ≤ 9 by omega)
        omega
      obtain ⟨Py, hPy⟩ : ∃ y, y = l[k].1.toNat * l[k].2.toNat := ⟨_, rfl⟩
      rw [← hPy] at hTY hTYb hYs
      have hqd : q / d ≤ q := Nat.div_le_self _ _
      have hed : den / d ≤ den := Nat.div_le_self _ _
      rw [DL7_1_succ]
      unfold DF7_1
      have hin1 : inB (k : Int) l.length = true := by simp [inB]; omega
      have hin2 : inB (k : Int) v.length = true := by simp [inB]; omega
      rw [show decide ((k : Int) < (l.length : Int)) = true by simpa using hlt, cond_true, hin1, cond_true, idx_nat hlt]
      simp only [Option.bind_some, hin2, cond_true, idx_nat hlv, x3, hpp, hqq, hTY]
      rw [hT, common_eq (n := N1) (by show _ < 100000000000000000000; omega) (by omega) (by omega), ← c1]
      have d0 : (((d : Nat) : Int) == 0) = false := by rw [beq_eq_false_iff_ne]; omega
      simp only [Option.bind_some, d0, cond_false]
      rw [show Int.tdiv (q : Int) (d : Int) = ((q / d : Nat) : Int) from rfl, show Int.tdiv (den : Int) (d : Int) = ((den / d : Nat) : Int) from rfl, wr_nat (x := q / d) (by omega), wr_nat (x := den / d) (by omega), ← Int.natCast_mul, ← Int.natCast_mul, ← Int.natCast_mul]
      rw [wr_nat (x := near * (q / d)) (by omega), wr_nat (x := T * p) (by omega), ← Int.natCast_mul, wr_nat (x := T * p * (den / d)) (by omega), ← c6, wr_nat (x := den1) (by omega), ← Int.natCast_add, ← c5, wr_nat (x := near1) (by omega),
        common_eq (n := N1) (by show _ < 100000000000000000000; omega) (by omega) (by omega), ← c7]
      have g0 : (((g : Nat) : Int) == 0) = false := by rw [beq_eq_false_iff_ne]; omega
      simp only [Option.bind_some, g0, cond_false]
      rw [show Int.tdiv (near1 : Int) (g : Int) = ((near1 / g : Nat) : Int) from rfl, show Int.tdiv (den1 : Int) (g : Int) = ((den1 / g : Nat) : Int) from rfl, ← c9, ← c10, wr_nat (x := near') (by rw [c9]; have := Nat.div_le_self near1 g; omega), wr_nat (x := den') (by rw [c10]; have := Nat.div_le_self den1 g; omega),
        wr_nat (x := Py) (by omega), hYk, wr_ok (x := ((ysum (l.take k) : Nat) : Int) + _) (by omega) (by omega), wr_ok (x := (k : Int) + 1) (by omega) (by omega)]
      have ih := sums_loop hg hK hv hb h1 h2 m (k + 1) near' den' (by omega) (by omega) c11 c15 c16 (hA.step hg.ok hK.ch hlt hden hx x1 x2 (by
        rw [hpp, hqq, hTt]
        exact_mod_cast c17))
      rw [hYs.1, hYk, show ((k + 1 : Nat) : Int) = (k : Int) + 1 by omega] at ih
      exact ih
    · have : k = l.length := by omega
      subst this
      refine tail_val hg h1 h2 ?_ (hA.1 rfl) v m
      have h72 : 72 ^ l.length ≤ 72 ^ 8 := Nat.pow_le_pow_right (by omega) (by omega)
      omega

theorem sums_val (a : ShA.den) (ha : Wf ShA a) {one two : Int} (h1 : 0 ≤ one ∧ one ≤ 255) (h2 : 0 ≤ two ∧ two ≤ 255) : D7 N1 a one two = some true := by
  obtain ⟨l, hg, _, _, e1⟩ := made_eq (n := N1) (by decide) a ha (many := 8) (y := 100) (by omega) (by omega)
  have hp := hg.pos
  have h8 := hg.le
  obtain ⟨K, b1, b2, b3, b4, b5⟩ := nearest_eq (n := N1) (by decide) hg
  unfold D7
  rw [e1]
  simp only [Option.bind_some]
  rw [b2]
  simp only [Option.bind_some, bne_self_eq_false]
  rw [many_eq (n := N1) (by decide) b5 (by omega) (by omega)]
  simp only [Option.bind_some, Bool.not_true, orB, Bool.or_self, cond_false]
  have := sums_loop hg b1 b3 b4 h1 h2 N1.1 0 0 1 (by omega) (by show _ < 100000000000000000000; omega) (by omega) (by simp) (by simp) ⟨fun h => by omega, fun x hx x1 x2 => by
    have : x.1 = 0 := by omega
    rw [this]
    simp [Yk, Tk, ysum]⟩
  exact this

theorem sums_ok (xs : pksDen (pks [ShA, .int .u8, .int .u8])) (h : WfL [ShA, .int .u8, .int .u8] xs) : ∃ n, S7 n xs.1 xs.2.1 xs.2.2.1 = some true :=
  ⟨N1, by rw [S7_D N1 rfl]; exact sums_val xs.1 h.1 (u8_rng h.2.1) (u8_rng h.2.2.1)⟩

end Go.Proofs.Ytombednapelokaa
