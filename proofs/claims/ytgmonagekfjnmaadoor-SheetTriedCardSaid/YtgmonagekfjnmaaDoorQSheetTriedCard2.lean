/- Texts of this claim, joined: Sq to Sr. -/
import Derived.Test.YtgmonagekfjnmaaDoorQSheetTriedCard1
set_option linter.unusedVariables false
set_option linter.unusedSimpArgs false
namespace Go.Proofs.YtgmonagekfjnmaaDoor
open Go.Vi
abbrev Stp := Int × Int × Int × Int × Int × Int × Int × Int × Int × Int × Int
abbrev ShS : Sh := .pair (.int .u8) (.pair (.int .u8) (.pair (.int .u8) (.pair (.int .u8) (.pair (.int .u8) (.pair (.int .u8) (.pair (.int .u8) (.pair (.int .u8) (.pair (.int .u8) (.pair (.int .u8) (.int .u8))))))))))
def By (x : Int) : Prop := 0 ≤ x ∧ x ≤ 255
structure StpOk (s : Stp) : Prop where
  size : By s.1
  many : By s.2.1
  chain : By s.2.2.1
  cuts : ∀ x ∈ [s.2.2.2.1, s.2.2.2.2.1, s.2.2.2.2.2.1, s.2.2.2.2.2.2.1, s.2.2.2.2.2.2.2.1, s.2.2.2.2.2.2.2.2.1, s.2.2.2.2.2.2.2.2.2.1, s.2.2.2.2.2.2.2.2.2.2], By x
theorem u8_rng {x : Int} (h : (Lit.int .u8 x).wf = true) : 0 ≤ x ∧ x ≤ 255 := by
  simpa [Lit.wf, IntKind.min, IntKind.max, IntKind.signed, IntKind.bits] using h
theorem by_wf {x : Int} (h : Wf (.int .u8) x) : By x := u8_rng h
theorem stp_ok {s : Stp} (h : Wf ShS s) : StpOk s := by
  obtain ⟨ha, hb, hc, h1, h2, h3, h4, h5, h6, h7, h8⟩ := h
  refine ⟨by_wf ha, by_wf hb, by_wf hc, fun x hx => ?_⟩
  simp only [List.mem_cons, List.not_mem_nil, or_false] at hx
  rcases hx with e | e | e | e | e | e | e | e <;> subst e
  · exact by_wf h1
  · exact by_wf h2
  · exact by_wf h3
  · exact by_wf h4
  · exact by_wf h5
  · exact by_wf h6
  · exact by_wf h7
  · exact by_wf h8
theorem pick_loop (n : Nat × Nat) (sz : Int) {cs lens : List Int} (hc : ∀ x ∈ cs, By x) (hl : lens ≠ []) (hll : lens.length ≤ 100) (h8 : cs.length ≤ 8) : ∀ (m k : Nat) (out : List Int), k ≤ cs.length → cs.length - k < m → out.length = k → (∀ x ∈ out, x ∈ lens) →
    ∃ ps, DL48_1 n m sz cs (cs.length : Int) (k : Int) lens out = some (sz, ps) ∧ ps.length = cs.length ∧ ∀ x ∈ ps, x ∈ lens
  | 0, k, out, _, h, _, _ => by omega
  | m + 1, k, out, hk, h, ho, hm => by
    rw [DL48_1_succ]
    unfold DF48_1
    have hpos : 0 < lens.length := List.length_pos_iff.2 hl
    by_cases hlt : k < cs.length
    · have hx := hc _ (List.getElem_mem hlt)
      unfold By at hx
      have hmod := Int.emod_nonneg cs[k] (show (lens.length : Int) ≠ 0 by omega)
      have hmod2 := Int.emod_lt_of_pos cs[k] (show (0 : Int) < lens.length by omega)
      have hi : (cs[k] % (lens.length : Int)).toNat < lens.length := by omega
      have hi2 : cs[k] % (lens.length : Int) = (((cs[k] % (lens.length : Int)).toNat : Nat) : Int) := by omega
      rw [dlt_t hlt, cond_true, idx_nat hlt, Option.bind_some, beq_false_of_ne (show (lens.length : Int) ≠ 0 by omega), cond_false, wr_ok (by omega) (by omega), tmod_mod hx.1, hi2, inB_nat hi, cond_true, idx_nat hi, Option.bind_some, lim_dec (by omega), cond_true, wr_succ (by omega)]
      exact pick_loop n sz hc hl hll h8 m (k + 1) _ (by omega) (by omega) (by simp [ho]) (fun x hx => by
        rcases List.mem_append.1 hx with hx | hx
        · exact hm x hx
        · rw [List.mem_singleton.1 hx]; exact List.getElem_mem _)
    · rw [dlt_f hlt, cond_false]
      exact ⟨out, rfl, by omega, hm⟩
theorem cuts_take {s : Stp} (h : StpOk s) {k : Nat} : ∀ x ∈ [s.2.2.2.1, s.2.2.2.2.1, s.2.2.2.2.2.1, s.2.2.2.2.2.2.1, s.2.2.2.2.2.2.2.1, s.2.2.2.2.2.2.2.2.1, s.2.2.2.2.2.2.2.2.2.1, s.2.2.2.2.2.2.2.2.2.2].take k, By x := fun x hx => h.cuts x (List.mem_of_mem_take hx)
theorem many_ok {s : Stp} (h : StpOk s) {most : Nat} (hm : most ≤ 8) : wr .i64 ((most : Int) + 1) = ((most + 1 : Nat) : Int) ∧ (((most + 1 : Nat) : Int) == 0) = false ∧ Int.tmod (wr .i64 s.2.1) ((most + 1 : Nat) : Int) = (((s.2.1 % ((most + 1 : Nat) : Int)).toNat : Nat) : Int) ∧ (s.2.1 % ((most + 1 : Nat) : Int)).toNat ≤ most := by
  have h1 := h.many
  unfold By at h1
  have hmod := Int.emod_nonneg s.2.1 (show ((most + 1 : Nat) : Int) ≠ 0 by omega)
  have hmod2 := Int.emod_lt_of_pos s.2.1 (show (0 : Int) < ((most + 1 : Nat) : Int) by omega)
  refine ⟨wr_succ (by omega), beq_false_of_ne (by omega), ?_, by omega⟩
  rw [wr_ok (by omega) (by omega), tmod_mod h1.1]
  omega
theorem fill_loop (n : Nat × Nat) (hn : 1000 ≤ n.1) {s : Stp} (h : StpOk s) {most : Nat} (hm : most ≤ 8) {sz : Int} (hs : 1 ≤ sz ∧ sz ≤ 24) : ∀ (m k : Nat) (lens : List Int), (k : Int) ≤ sz → sz - k < m → lens.length = k → (∀ x ∈ lens, 1 ≤ x ∧ x ≤ sz) →
    ∃ ps, DL48_2 n m most sz sz (k : Int) s.1 s.2.1 s.2.2.1 s.2.2.2.1 s.2.2.2.2.1 s.2.2.2.2.2.1 s.2.2.2.2.2.2.1 s.2.2.2.2.2.2.2.1 s.2.2.2.2.2.2.2.2.1 s.2.2.2.2.2.2.2.2.2.1 s.2.2.2.2.2.2.2.2.2.2 lens = some (sz, ps) ∧ ps.length ≤ most ∧ ∀ x ∈ ps, 1 ≤ x ∧ x ≤ sz
  | 0, k, lens, _, hh, _, _ => by omega
  | m + 1, k, lens, hk, hh, hl, hb => by
    rw [DL48_2_succ]
    unfold DF48_2
    by_cases hlt : (k : Int) < sz
    · rw [decide_eq_true hlt, cond_true, lim_dec (by omega), cond_true, wr_succ (by omega)]
      exact fill_loop n hn h hm hs m (k + 1) _ (by omega) (by omega) (by simp [hl]) (fun x hx => by
        rcases List.mem_append.1 hx with hx | hx
        · exact hb x hx
        · rw [List.mem_singleton.1 hx]; omega)
    · obtain ⟨e1, e2, e3, e4⟩ := many_ok h hm
      rw [decide_eq_false hlt, cond_false, e1, e2, cond_false, e3, bounds_hi (by omega), cond_true, Int.toNat_natCast]
      obtain ⟨ps, hp, hpl, hpm⟩ := pick_loop n sz (cs := [s.2.2.2.1, s.2.2.2.2.1, s.2.2.2.2.2.1, s.2.2.2.2.2.2.1, s.2.2.2.2.2.2.2.1, s.2.2.2.2.2.2.2.2.1, s.2.2.2.2.2.2.2.2.2.1, s.2.2.2.2.2.2.2.2.2.2].take (s.2.1 % ((most + 1 : Nat) : Int)).toNat) (lens := lens) (cuts_take h) (by intro e; rw [e] at hl; simp at hl; omega) (by omega) (by rw [List.length_take]; exact Nat.min_le_right _ _) n.1 0 [] (by omega) (by simp; omega) rfl (by simp)
      exact ⟨ps, hp, by rw [hpl, List.length_take]; omega, fun x hx => hb x (hpm x hx)⟩
/-- What a job by numbers is. -/
theorem made_ok {s : Stp} (h : StpOk s) {most : Nat} (hm : most ≤ 8) : ∃ sz ps, D48 N s most = some (sz, ps) ∧ Job sz ps ∧ ps.length ≤ most ∧ (s.2.2.1 % 2 = 1 → IsC sz ps) := by
  have h1 := h.size
  have h3 := h.chain
  unfold By at h1 h3
  obtain ⟨e1, e2, e3, e4⟩ := many_ok h hm
  have hsz : wr .i64 (1 + Int.tmod (wr .i64 s.1) 24) = 1 + s.1 % 24 := by
    rw [wr_ok (x := s.1) (by omega) (by omega), tmod_mod h1.1, wr_ok (by omega) (by omega)]
  have hb : wr .i64 (Int.tdiv (wr .i64 s.2.2.1) 2) = s.2.2.1 / 2 := by
    rw [wr_ok (x := s.2.2.1) (by omega) (by omega), Int.tdiv_eq_ediv_of_nonneg h3.1, wr_ok (by omega) (by omega)]
  unfold D48
  rw [show ((24 : Nat) == 0) = false from rfl, show ((2 : Nat) == 0) = false from rfl, cond_false, cond_false, hsz, tmod_mod h3.1]
  by_cases e : s.2.2.1 % 2 = 1
  · rw [show (s.2.2.1 % 2 == 1) = true by simpa using e, cond_true, cond_false, hb]
    have hg := chain_all ⟨(1 + s.1 % 24).toNat, by omega⟩ ⟨(s.2.2.1 / 2).toNat, by omega⟩ (by simp only []; omega)
    simp only [] at hg
    rw [show (((1 + s.1 % 24).toNat : Nat) : Int) = 1 + s.1 % 24 by omega, show (((s.2.2.1 / 2).toNat : Nat) : Int) = s.2.2.1 / 2 by omega] at hg
    cases hD : D89 N (1 + s.1 % 24) (s.2.2.1 / 2) with
    | none => rw [hD] at hg; cases hg
    | some lens =>
      rw [hD] at hg
      simp only [goodC, Bool.and_eq_true, decide_eq_true_eq, List.all_eq_true, Bool.or_eq_true, Bool.not_eq_true', List.isEmpty_eq_false_iff] at hg
      obtain ⟨⟨hg1, hg2⟩, hg3⟩ := hg
      rw [Option.bind_some, e1, e2, cond_false, e3, bounds_hi (by omega), cond_true, Int.toNat_natCast]
      obtain ⟨ps, hp, hpl, hpm⟩ := pick_loop N (1 + s.1 % 24) (cs := [s.2.2.2.1, s.2.2.2.2.1, s.2.2.2.2.2.1, s.2.2.2.2.2.2.1, s.2.2.2.2.2.2.2.1, s.2.2.2.2.2.2.2.2.1, s.2.2.2.2.2.2.2.2.2.1, s.2.2.2.2.2.2.2.2.2.2].take (s.2.1 % ((most + 1 : Nat) : Int)).toNat) (lens := lens) (cuts_take h) hg2 (by omega) (by rw [List.length_take]; exact Nat.min_le_right _ _) N.1 0 [] (by omega) (by have : N.1 = 1000000 := rfl; simp; omega) rfl (by simp)
      have hdiv : ∀ p ∈ lens, 1 ≤ p ∧ p ≤ 1 + s.1 % 24 ∧ (1 + s.1 % 24) % p = 0 := fun p hp => by
        have := (hg3 p hp).1
        exact ⟨this.1, Int.le_of_dvd (by omega) (Int.dvd_of_emod_eq_zero this.2), this.2⟩
      have hlen : ps.length ≤ most := by rw [hpl, List.length_take]; omega
      refine ⟨1 + s.1 % 24, ps, hp, ⟨by omega, by omega, by omega, fun p hp => ?_⟩, hlen, fun _ => ⟨fun p hp => (hdiv p (hpm p hp)).2.2, ?_⟩⟩
      · have := hdiv p (hpm p hp)
        exact ⟨this.1, this.2.1⟩
      · rw [List.pairwise_iff_forall_sublist]
        intro a b hab
        have ha := hpm a (hab.subset (by simp))
        have hb := hpm b (hab.subset (by simp))
        exact (hg3 a ha).2 b hb
  · rw [show (s.2.2.1 % 2 == 1) = false from beq_false_of_ne e, cond_false]
    obtain ⟨ps, hp, hpl, hpm⟩ := fill_loop N hN1 h hm (sz := 1 + s.1 % 24) ⟨by omega, by omega⟩ N.1 0 [] (by omega) (by have : N.1 = 1000000 := rfl; omega) rfl (by simp)
    exact ⟨1 + s.1 % 24, ps, hp, ⟨by omega, by omega, by omega, hpm⟩, hpl, fun h => absurd h e⟩
theorem pair_all : ∀ {l : List Int}, l.Pairwise Cmp → ∀ p ∈ l, ∀ q ∈ l, Cmp p q
  | [], _, p, hp, _, _ => by cases hp
  | x :: l, h, p, hp, q, hq => by
    rw [List.pairwise_cons] at h
    rcases List.mem_cons.1 hp with e1 | h1 <;> rcases List.mem_cons.1 hq with e2 | h2
    · rw [e1, e2]; exact .inl Int.emod_self
    · rw [e1]; exact h.1 q h2
    · rw [e2]; exact cmp_symm (h.1 p h1)
    · exact pair_all h.2 p h1 q h2
theorem isC_iff {sz : Int} {ps : List Int} (hj : Job sz ps) : (∀ p ∈ ps, ∀ q ∈ ps ++ [sz], Cmp p q) ↔ IsC sz ps := by
  constructor
  · intro h
    refine ⟨fun p hp => ?_, ?_⟩
    · have h1 := hj.ok p hp
      rcases h p hp sz (by simp) with e | e
      · have := Int.le_of_dvd (by omega) (Int.dvd_of_emod_eq_zero e)
        have e2 : p = sz := by omega
        rw [e2, Int.emod_self]
      · exact e
    · rw [List.pairwise_iff_forall_sublist]
      intro a b hab
      exact h a (hab.subset (by simp)) b (List.mem_append_left _ (hab.subset (by simp)))
  · rintro ⟨h1, h2⟩ p hp q hq
    rcases List.mem_append.1 hq with hq | hq
    · exact pair_all h2 p hp q hq
    · rw [List.mem_singleton.1 hq]
      exact .inr (h1 p hp)
theorem cn_in (n : Nat × Nat) (f1 : Int → List Int → List Int → Int → Int → Option R53) (sz : Int) (ps v9 : List Int) (v10 v11 : Int) {x : Int} (hx : 1 ≤ x ∧ x ≤ 24) {A : List Int} (hA : ∀ q ∈ A, 1 ≤ q ∧ q ≤ 24) (hl : A.length ≤ 100) : ∀ (m k : Nat), k ≤ A.length → A.length - k < m →
    DL53_2 n f1 m sz ps x v9 v10 v11 (A.length : Int) (k : Int) A = if ∀ q ∈ A.drop k, Cmp x q then f1 sz ps v9 v10 (wr .i64 (v11 + 1)) else some false
  | 0, k, _, h => by omega
  | m + 1, k, hk, h => by
    rw [DL53_2_succ]
    unfold DF53_2
    by_cases hlt : k < A.length
    · have h2 := hA _ (List.getElem_mem hlt)
      have ih := cn_in n f1 sz ps v9 v10 v11 hx hA hl m (k + 1) (by omega) (by omega)
      rw [dlt_t hlt, cond_true, inB_nat hlt, cond_true, idx_nat hlt, Option.bind_some, beq_false_of_ne (show A[k] ≠ 0 by omega), cond_false, tmod_mod (by omega), wr_succ (by omega), ih, drop_cons hlt]
      generalize A.drop (k + 1) = t at *
      generalize A[k] = y at *
      by_cases e1 : x % y = 0
      · rw [e1]
        simp only [bne_self_eq_false, show (false == true) = false from rfl, cond_false, Option.bind_some]
        have : Cmp x y := .inl e1
        simp [this]
      · rw [show (x % y != 0) = true by simpa using e1]
        simp only [beq_self_eq_true, cond_true, Option.bind_some, beq_false_of_ne (show x ≠ 0 by omega), cond_false, tmod_mod (show 0 ≤ y by omega)]
        by_cases e2 : y % x = 0
        · rw [e2]
          have : Cmp x y := .inr e2
          simp [this]
        · rw [show (y % x != 0) = true by simpa using e2, cond_true, if_neg]
          intro hh
          rcases hh y (by simp) with h | h
          · exact e1 h
          · exact e2 h
    · rw [dlt_f hlt, cond_false, List.drop_of_length_le (by omega), if_pos (by simp)]
theorem cn_loop {n : Nat × Nat} (hn : 1000 ≤ n.1) {sz : Int} {ps : List Int} (hj : Job sz ps) : ∀ (m k : Nat), k ≤ ps.length → ps.length - k < m →
    DL53_1 n m sz ps ps (ps.length : Int) (k : Int) = some (decide (∀ p ∈ ps.drop k, ∀ q ∈ ps ++ [sz], Cmp p q))
  | 0, k, _, h => by omega
  | m + 1, k, hk, h => by
    have h8 := hj.len
    have hhi := hj.hi
    rw [DL53_1_succ]
    unfold DF53_1
    by_cases hlt : k < ps.length
    · have hp := hj.ok _ (List.getElem_mem hlt)
      have hA : ∀ q ∈ ps ++ [sz], 1 ≤ q ∧ q ≤ 24 := fun q hq => by
        rcases List.mem_append.1 hq with hq | hq
        · have := hj.ok q hq; omega
        · rw [List.mem_singleton.1 hq]; have := hj.lo; omega
      rw [dlt_t hlt, cond_true, idx_nat hlt, Option.bind_some, clone_eq n ps (by omega), Option.bind_some, lim_dec (by omega), cond_true]
      have := cn_in n (DL53_1 n m) sz ps ps (ps.length : Int) (k : Int) (x := ps[k]) ⟨hp.1, by omega⟩ hA (by simp; omega) n.1 0 (by omega) (by simp; omega)
      rw [show ((0 : Nat) : Int) = 0 from rfl, List.drop_zero] at this
      rw [this, wr_succ (by omega), cn_loop hn hj m (k + 1) (by omega) (by omega), drop_cons hlt]
      generalize ps.drop (k + 1) = t at *
      generalize ps[k] = x at *
      by_cases e : ∀ q ∈ ps ++ [sz], Cmp x q
      · rw [if_pos e]
        congr 1
        apply decide_eq_decide.2
        constructor
        · intro h p hp
          rcases List.mem_cons.1 hp with rfl | hp
          · exact e
          · exact h p hp
        · exact fun h p hp => h p (List.mem_cons_of_mem _ hp)
      · rw [if_neg e, decide_eq_false]
        exact fun h => e (h x List.mem_cons_self)
    · rw [dlt_f hlt, cond_false, List.drop_of_length_le (by omega), decide_eq_true (by simp)]
theorem chained_eq {n : Nat × Nat} (hn : 1000 ≤ n.1) {sz : Int} {ps : List Int} (hj : Job sz ps) : D53 n sz ps = some (decide (IsC sz ps)) := by
  unfold D53
  have := cn_loop hn hj n.1 0 (by omega) (by have := hj.len; omega)
  rw [show ((0 : Nat) : Int) = 0 from rfl, List.drop_zero] at this
  rw [this]
  congr 1
  exact decide_eq_decide.2 (isC_iff hj)
theorem tried_ok {s : Stp} (h : StpOk s) : S8 N s = some true := by
  rw [S8_D N rfl]
  unfold D8
  obtain ⟨sz, ps, h1, hj, _, _⟩ := made_ok h (most := 7) (by omega)
  have hc := chk_job.2 hj
  have e1 : D48 N s 7 = some (sz, ps) := h1
  have hl := fsS_len sz ps
  have e2 : (fsS sz ps).1 = (apl sz ps (fw sz ps)).headD [] := by unfold fsS; rw [if_neg (by simpa using hc)]
  have e3 : (fwS sz ps) = ((fw sz ps : Int), 0) := by unfold fwS; rw [if_neg (by simpa using hc)]
  have e4 : (fsS sz ps).2 = 0 := by unfold fsS; rw [if_neg (by simpa using hc)]
  have e5 : (cnS sz ps) = (((apl sz ps (fw sz ps)).length : Int), 0) := by unfold cnS; rw [if_neg (by simpa using hc)]
  have e6 : (chS sz ps) = (decide (IsC sz ps), 0) := by unfold chS; rw [if_neg (by simpa using hc)]
  rw [e1, Option.bind_some]
  simp only []
  rw [best_eq hj, Option.bind_some, Fewest_eq, Option.bind_some, First_eq, Option.bind_some, Count_eq, Option.bind_some, Chain_eq hN1, Option.bind_some, Check_eq hN1, hc, e3, e4, e5, e6]
  rw [← e2]
  simp only [beq_self_eq_true, cond_true, Option.bind_some, same_eq hN1 (show (fsS sz ps).1.length < 900 by omega), decide_true, chained_eq hN1 hj, works_eq]
end Go.Proofs.YtgmonagekfjnmaaDoor
