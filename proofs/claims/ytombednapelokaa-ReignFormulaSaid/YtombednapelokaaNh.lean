/- Reign: plain laws: the nearest values are proved; ReignFormula. -/
import Derived.Test.YtombednapelokaaLG13
import Derived.Test.YtombednapelokaaNf
import Derived.Test.YtombednapelokaaNb
import Derived.Test.YtombednapelokaaMo
import Derived.Test.YtombednapelokaaMd
import Derived.Test.YtombednapelokaaViX
set_option linter.unusedVariables false
set_option linter.unusedSimpArgs false
namespace Go.Proofs.Ytombednapelokaa
open Go.Vi

/-- The value of a block is the smallest of the greatest means. -/
theorem Blk.lo {l : List Src} (ho : Ok l) {K : List (Nat × Nat)} (h : Blk l K l.length) {x : Nat × Nat} (hx : x ∈ K) {i : Nat} (h1 : x.1 ≤ i) (h2 : i < x.2) {hv : Frc} (hh : LoS l i hv) : hv = Mx l x.1 x.2 := by
  obtain ⟨b, e⟩ := x
  simp only at h1 h2
  have hr := h.ch.rng (b, e) hx
  simp only at hr
  have F := Mx_Fr ho hr.1 hr.2
  have hg := h.glob ho (Nat.le_refl _) (b, e) hx
  simp only at hg
  obtain ⟨O, o1, o2, o3⟩ := hh
  have hmem : ∀ y ∈ O, Fr y := by
    intro y hy
    obtain ⟨j, hj, rfl⟩ := List.getElem_of_mem hy
    exact Col_Fr ho (by omega) (by omega) (o2 j hj).1
  have hF := hmem hv o3.1
  refine fle_anti hF F ?_ ?_
  · have hj : e - 1 - i < O.length := by omega
    have h6 : fle hv O[e - 1 - i] := o3.2 _ (List.getElem_mem hj)
    obtain ⟨a, a1, a2⟩ := (o2 _ hj).1
    have e1 : M l a (i + (e - 1 - i)) = Mx l a e := by unfold M Mx; rw [show i + (e - 1 - i) + 1 = e by omega]
    rw [e1] at a2
    have h5 := hg a (by omega)
    have h8 := dv_add l (Mx l b e) b a e
    rw [dv_mean ho hr.1 hr.2] at h8
    have h7 : fle (Mx l a e) (Mx l b e) := (mean_fle ho (by omega) hr.2 _).2 (by omega)
    rw [a2] at h6
    exact fle_trans hF.dp (Mx_Fr ho (a := a) (c := e) (by omega) hr.2).dp F.dp h6 h7
  · obtain ⟨j, hj, rfl⟩ := List.getElem_of_mem o3.1
    have h6 : fle (M l b (i + j)) O[j] := (o2 j hj).2 _ ⟨b, by omega, rfl⟩
    have e1 : M l b (i + j) = Mx l b (i + j + 1) := rfl
    have h5 : fle (Mx l b e) (Mx l b (i + j + 1)) := by
      rw [fle_mean ho (by omega) (by omega)]
      exact hg (i + j + 1) (by omega)
    rw [e1] at h6
    exact fle_trans F.dp (Mx_Fr ho (a := b) (c := i + j + 1) (by omega) (by omega)).dp hF.dp h5 h6

theorem K_rise {l : List Src} : ∀ {K : List (Nat × Nat)} {t : Nat}, ChT K t → IncT l K → ∀ x ∈ K, ∀ y ∈ K, x.2 ≤ y.1 → ltM (Mx l x.1 x.2) (Mx l y.1 y.2)
  | [], _, _, _, x, hx, _, _, _ => by cases hx
  | (b, e) :: r, t, ⟨h1, h2, h3⟩, ⟨i1, i2⟩, x, hx, y, hy, hxy => by
    rcases List.mem_cons.1 hx with rfl | hx
    · rcases List.mem_cons.1 hy with rfl | hy
      · simp only at hxy
        omega
      · have := h3.rng y hy
        simp only at hxy
        omega
    · rcases List.mem_cons.1 hy with rfl | hy
      · exact i1 x hx
      · exact K_rise h3 i2 x hx y hy hxy

/-- Two neighbours are in one block, or in two that are next to one another. -/
theorem K_next {l : List Src} {K : List (Nat × Nat)} {t : Nat} (h : ChT K t) {x y : Nat × Nat} (hx : x ∈ K) (hy : y ∈ K) {k : Nat} (x1 : x.1 ≤ k) (x2 : k < x.2) (y1 : y.1 ≤ k + 1) (y2 : k + 1 < y.2) : y = x ∨ (x.2 = k + 1 ∧ y.1 = k + 1) := by
  by_cases hb : k + 1 < x.2
  · exact .inl (h.uniq3 x hx y hy (k + 1) (by omega) hb y1 y2).symm
  · refine .inr ⟨by omega, ?_⟩
    by_cases hc : y.1 ≤ k
    · have := h.uniq3 x hx y hy k x1 x2 hc (by omega)
      subst this
      omega
    · omega

theorem Val_bad {f : Frc} (h : Val f) : badB f = false := by
  have h1 := h.fr.dp
  have h2 := h.fr.dl
  have h3 := h.fr.np
  have h4 := h.le
  unfold badB
  rw [decide_eq_true (show 1 ≤ f.2 by omega), decide_eq_true h2, decide_eq_true h3, decide_eq_true h4]
  rfl

section
variable {l : List Src} (hg : Good l) {K : List (Nat × Nat)} (hK : Blk l K l.length) {V Rs : List Frc} (hV : V.length = l.length) (hb : ∀ x ∈ K, ∀ i (h : i < V.length), x.1 ≤ i → i < x.2 → V[i] = Mx l x.1 x.2) (hv : ∀ f ∈ V, Val f)
  (hR : Rs.length = l.length) (hr : ∀ i (hi : i < Rs.length), ∀ x ∈ K, x.1 ≤ i → i < x.2 → Rst l (Mx l x.1 x.2) x.1 (i + 1) Rs[i])
include hg hK hV hb

omit hg in
theorem V_up : Up V := by
  intro j hj
  obtain ⟨x, hx, x1, x2⟩ := hK.ch.cover j (by omega)
  obtain ⟨y, hy, y1, y2⟩ := hK.ch.cover (j + 1) (by omega)
  rw [hb x hx j (by omega) x1 x2, hb y hy (j + 1) hj y1 y2]
  unfold ltB
  rcases K_next (l := l) hK.ch hx hy x1 x2 y1 y2 with rfl | ⟨e1, e2⟩
  · simp
  · have := K_rise hK.ch hK.inc x hx y hy (by omega)
    unfold ltM at this
    simp only [decide_eq_false_iff_not]
    omega

include hv hR hr

theorem last_near : ∀ (m k : Nat), k ≤ l.length → l.length - k < m → DL39_1 N5 m l V (l.length : Int) (k : Int) Rs = some 0
  | 0, k, _, h => by omega
  | m + 1, k, hk, h => by
    have h8 := hg.le
    rw [DL39_1_succ]
    unfold DF39_1
    by_cases hlt : k < l.length
    · have hltR : k < Rs.length := by omega
      have hltv : k < V.length := by omega
      have hin : inB (k : Int) Rs.length = true := by simp [inB]; omega
      have hw : wr .i64 ((k : Int) + 1) = ((k + 1 : Nat) : Int) := by rw [wr_ok (by omega) (by omega)]; omega
      have ih := last_near m (k + 1) (by omega) (by omega)
      obtain ⟨x, hx, x1, x2⟩ := hK.ch.cover k hlt
      have hrg := hK.ch.rng x hx
      have F := Mx_Val hg.ok hrg.1 hrg.2
      have rst := hr k hltR x hx x1 x2
      obtain ⟨_, p1, _, _⟩ := rst_proper hg hK hx x1 x2 rst
      have hz : k + 1 = x.2 → Rs[k].1 = 0 := by
        intro he
        have h1 := rst.eq
        rw [he, dv_mean hg.ok hrg.1 hrg.2, Int.mul_zero] at h1
        rcases Int.mul_eq_zero.1 h1 with h2 | h2
        · exact h2
        · have := F.fr.dp
          omega
      rw [show decide ((k : Int) < (l.length : Int)) = true by simpa using hlt]
      simp only [cond_true, hin, idx_nat hltR, idx_nat hltv, Option.bind_some, hw]
      generalize Rs[k] = z at *
      by_cases hend : k + 1 = l.length
      · have hx2 : k + 1 = x.2 := by omega
        have := hz hx2
        rw [show (((k + 1 : Nat) : Int) == (l.length : Int)) = true by simp; omega]
        simp only [show (true == false) = false from rfl, cond_false, Option.bind_some, show (true == true) = true from rfl, cond_true, orB, this, gt_iff_lt, Int.lt_irrefl, decide_false, Bool.or_false]
        exact ih
      · have hlt2 : k + 1 < V.length := by omega
        obtain ⟨y, hy, y1, y2⟩ := hK.ch.cover (k + 1) (by omega)
        have hb1 := badB_Bd (Val_bad (hv V[k] (List.getElem_mem hltv)))
        have hb2 := badB_Bd (Val_bad (hv V[k + 1] (List.getElem_mem hlt2)))
        rw [show (((k + 1 : Nat) : Int) == (l.length : Int)) = false by simp; omega]
        simp only [show (false == false) = true from rfl, cond_true, Option.bind_some, idx_nat hlt2, cmpB_eq N5 hb1 hb2, lt_neg, andB, orB]
        rw [show decide (z.1 < 0) = false by simp; omega, Bool.false_or]
        have : (ltB V[k] V[k + 1] && decide (z.1 > 0)) = false := by
          rcases K_next (l := l) hK.ch hx hy x1 x2 y1 y2 with e | ⟨e1, e2⟩
          · subst e
            rw [hb y hy k hltv x1 x2, hb y hy (k + 1) hlt2 y1 y2]
            simp [ltB]
          · rw [hz e1.symm]
            simp
        rw [this]
        exact ih
    · rw [show decide ((k : Int) < (l.length : Int)) = false by simpa using hlt, cond_false]

theorem proves_near (h83 : D83 N5 l V = some Rs) : D39 N5 l V = some 0 := by
  have h8 := hg.le
  have h1 := hg.pos
  have hbd : ∀ f ∈ V, Bd f := fun f hf => badB_Bd (Val_bad (hv f hf))
  have hany : V.any badB = false := by
    rw [List.any_eq_false]
    intro f hf
    rw [Val_bad (hv f hf)]
    simp
  obtain ⟨b, s1, s2⟩ := sorted_eq (n := N5) (by decide) hbd (by omega) (by omega)
  have hbt := s2.2 (V_up hK hV hb)
  subst hbt
  unfold D39
  rw [chk_eq (n := N5) (by decide), good_chk hg]
  simp only [Option.bind_some, bne_self_eq_false, cond_false]
  rw [show (((V.length : Int)) != (l.length : Int)) = false by simp; omega, cond_false, anybad_eq (n := N5) (by decide) (by omega), hany]
  simp only [Option.bind_some, cond_false, s1, Bool.not_true, h83, hR]
  exact last_near hg hK hV hb hv hR hr N5.1 0 (by omega) (by show _ < 100000000000000000000; omega)

omit hv in
theorem form_loop : ∀ (m k : Nat) (rest : Int), k ≤ l.length → l.length - k < m → (∀ x ∈ K, x.1 ≤ k → k < x.2 → rest = dv l (Mx l x.1 x.2) x.1 k) → DL13_1 N5 m rest (l.length : Int) (k : Int) l V Rs = some true
  | 0, k, _, _, h, _ => by omega
  | m + 1, k, rest, hk, h, hrest => by
    have h8 := hg.le
    have ho := hg.ok
    rw [DL13_1_succ]
    unfold DF13_1 DL13_2
    by_cases hlt : k < l.length
    · have hltR : k < Rs.length := by omega
      have hltv : k < V.length := by omega
      have hiR : inB (k : Int) Rs.length = true := by simp [inB]; omega
      have hiV : inB (k : Int) V.length = true := by simp [inB]; omega
      have hil : inB (k : Int) l.length = true := by simp [inB]; omega
      have hw : wr .i64 ((k : Int) + 1) = ((k + 1 : Nat) : Int) := by rw [wr_ok (by omega) (by omega)]; omega
      obtain ⟨x, hx, x1, x2⟩ := hK.ch.cover k hlt
      have hrg := hK.ch.rng x hx
      have F := Mx_Val ho hrg.1 hrg.2
      have hVk := hb x hx k hltv x1 x2
      have rst := hr k hltR x hx x1 x2
      obtain ⟨p0, p1, p2, p3⟩ := rst_proper hg hK hx x1 x2 rst
      have hs := hg.all l[k] (List.getElem_mem hlt)
      have hst := rest_step (Mx l x.1 x.2) (b := x.1) hlt hs
      have hre := hrest x hx x1 x2
      obtain ⟨w1, w2⟩ := rest_bound hs (badB_Bd (Val_bad F))
      have q1 := F.fr.dp
      have q2 := F.fr.dl
      have heq := rst.eq
      have hdp := rst.dp
      have hgl := hK.glob ho (Nat.le_refl _) x hx (k + 1) (by omega)
      obtain ⟨r, hi1, _, hi3⟩ := high_eq (n := N5) (by decide) l (k : Int)
      obtain ⟨r', lo1, _, lo3⟩ := low_eq (n := N5) (by decide) l (k : Int)
      obtain ⟨hi4, hi5⟩ := hi3 (good_chk hg) (by omega) (by omega)
      obtain ⟨lo4, lo5⟩ := lo3 (good_chk hg) (by omega) (by omega)
      rw [Int.toNat_natCast] at hi5 lo5
      have hi6 := hK.hi ho hx x1 x2 hi5
      have lo6 := hK.lo ho hx x1 x2 lo5
      have hnew : rest + l[k].2 * (l[k].1 * (Mx l x.1 x.2).2 - (Mx l x.1 x.2).1) = dv l (Mx l x.1 x.2) x.1 (k + 1) := by rw [hre]; exact hst.symm
      have hdle : dv l (Mx l x.1 x.2) x.1 (k + 1) ≤ 518400 := by
        have h5 : Rs[k].2 * dv l (Mx l x.1 x.2) x.1 (k + 1) ≤ Rs[k].2 * 518400 := by
          rw [← heq]
          have a1 : Rs[k].1 * (Mx l x.1 x.2).2 ≤ (7200 * Rs[k].2) * (Mx l x.1 x.2).2 := Int.mul_le_mul_of_nonneg_right p2 (by omega)
          have a2 : (7200 * Rs[k].2) * (Mx l x.1 x.2).2 ≤ (7200 * Rs[k].2) * 72 := Int.mul_le_mul_of_nonneg_left q2 (by omega)
          omega
        exact Int.le_of_mul_le_mul_left h5 hdp
      have hzero : k + 1 = x.2 → dv l (Mx l x.1 x.2) x.1 (k + 1) = 0 := fun he => by rw [he, dv_mean ho hrg.1 hrg.2]
      have next : DL13_1 N5 m (dv l (Mx l x.1 x.2) x.1 (k + 1)) (l.length : Int) ((k + 1 : Nat) : Int) l V Rs = some true := by
        refine form_loop m (k + 1) _ (by omega) (by omega) fun y hy y1 y2 => ?_
        rcases K_next (l := l) hK.ch hx hy x1 x2 y1 y2 with e | ⟨e1, e2⟩
        · rw [e]
        · rw [hzero e1.symm, e2, dv_self]
      rw [show decide ((k : Int) < (l.length : Int)) = true by simpa using hlt, cond_true, hi1, lo1]
      simp only [Option.bind_some, hi4, lo4, hi6, lo6, bne_self_eq_false, show (false == false) = true from rfl, cond_true, hiV, hiR, hil, idx_nat hltv, idx_nat hltR, idx_nat hlt, hVk, beq_self_eq_true, Bool.and_self, Bool.not_true, Bool.and_true, cond_false, p0, hw]
      rw [w1, wr_ok (x := rest + _) (by omega) (by omega), hnew]
      have m1 : 0 ≤ Rs[k].1 * (Mx l x.1 x.2).2 ∧ Rs[k].1 * (Mx l x.1 x.2).2 ≤ 518400 * 72 := ⟨Int.mul_nonneg p1 (by omega), Int.mul_le_mul (by omega) q2 (by omega) (by omega)⟩
      rw [heq] at m1
      rw [heq, Int.mul_comm (dv l (Mx l x.1 x.2) x.1 (k + 1)) Rs[k].2, bne_self_eq_false]
      simp only [Option.bind_some, cond_false]
      by_cases hend : k + 1 = l.length
      · have hx2 : k + 1 = x.2 := by omega
        have hz := hzero hx2
        rw [show (((k + 1 : Nat) : Int) == (l.length : Int)) = true by simp; omega]
        simp only [show (true == false) = false from rfl, cond_false, Option.bind_some, cond_true]
        rw [hz] at next ⊢
        simp only [bne_self_eq_false, cond_false]
        exact next
      · have hlt2 : k + 1 < V.length := by omega
        obtain ⟨y, hy, y1, y2⟩ := hK.ch.cover (k + 1) (by omega)
        have hiV2 : inB ((k + 1 : Nat) : Int) V.length = true := by simp [inB]; omega
        rw [show (((k + 1 : Nat) : Int) == (l.length : Int)) = false by simp; omega]
        simp only [show (false == false) = true from rfl, cond_true, Option.bind_some, hiV2, idx_nat hlt2, hb y hy (k + 1) hlt2 y1 y2]
        rcases K_next (l := l) hK.ch hx hy x1 x2 y1 y2 with e | ⟨e1, e2⟩
        · subst e
          simp only [beq_self_eq_true, Bool.and_self, Bool.not_true, cond_false]
          exact next
        · have hz := hzero e1.symm
          rw [hz] at next ⊢
          simp only [bne_self_eq_false, cond_false, next]
          cases (!((Mx l y.1 y.2).1 == (Mx l x.1 x.2).1 && (Mx l y.1 y.2).2 == (Mx l x.1 x.2).2)) <;> rfl
    · rw [show decide ((k : Int) < (l.length : Int)) = false by simpa using hlt, cond_false, works_val5]
      rfl
end

theorem formula_val (a : ShA.den) (ha : Wf ShA a) : D13 N5 a = some true := by
  obtain ⟨l, hg, _, _, e1⟩ := made_eq (n := N5) (by decide) a ha (many := 8) (y := 100) (by omega) (by omega)
  have h8 := hg.le
  have ho := hg.ok
  obtain ⟨K, hK, e2⟩ := joined_eq (n := N5) (by decide) hg.ok hg.pos
  obtain ⟨v1, v2, v3, v4, _, Rs, r1, r2, r3⟩ := all_of18 hg hK
  have c1 := chk_eq (n := N5) (by decide) l
  rw [good_chk hg] at c1
  have h83 : D83 N5 l (vals l K.reverse) = some Rs := by
    obtain ⟨K', k1, k2, k3⟩ := near_eq (n := N5) (by decide) ho
    have := Blk.uniq ho k1 hK
    subst this
    have h := r1
    unfold D37 at h
    rw [c1] at h
    simp only [Option.bind_some, bne_self_eq_false, cond_false, k3] at h
    obtain ⟨R, h1, h2⟩ := Option.bind_eq_some_iff.1 h
    cases h2
    exact h1
  unfold D13
  rw [e1]
  simp only [Option.bind_some, e2, v1, c1, bne_self_eq_false, show (false == false) = true from rfl, cond_true, fracs_eq (n := N5) (v := vals l K.reverse) (by decide) (by omega), Bool.not_true, proves_near hg hK v2 v4 v3 r2 r3 h83, cond_false, r1]
  rw [show ((Rs.length : Int) != (l.length : Int)) = false by rw [r2]; simp, cond_false]
  refine form_loop hg hK v2 v4 r2 r3 N5.1 0 0 (by omega) (by show _ < 100000000000000000000; omega) fun x hx x1 x2 => ?_
  have : x.1 = 0 := by omega
  rw [this, dv_self]

theorem formula_ok (xs : pksDen (pks [ShA])) (h : WfL [ShA] xs) : ∃ n, S13 n xs.1 = some true :=
  ⟨N5, by rw [S13_D N5 rfl]; exact formula_val xs.1 h.1⟩

end Go.Proofs.Ytombednapelokaa
