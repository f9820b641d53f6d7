/- Texts of this claim, joined: Sq to Ta. -/
import Derived.Test.YtgmonagekfjnmaaDoorQSheetNamedCard1
set_option linter.unusedVariables false
set_option linter.unusedSimpArgs false
namespace Go.Proofs.YtgmonagekfjnmaaDoor
open Go.Vi
abbrev Stp := Int × Int × Int × Int × Int × Int × Int × Int × Int × Int × Int
abbrev ShS : Sh := .pair (.int .u8) (.pair (.int .u8) (.pair (.int .u8) (.pair (.int .u8) (.pair (.int .u8) (.pair (.int .u8) (.pair (.int .u8) (.pair (.int .u8) (.pair (.int .u8) (.pair (.int .u8) (.int .u8))))))))))
def By (x : Int) : Prop := 0 ≤ x ∧ x ≤ 255
structure StpOk (s : Stp) : Prop where
  size : By s.1
  many : By s.2.1
  chain : By s.2.2.1
  cuts : ∀ x ∈ [s.2.2.2.1, s.2.2.2.2.1, s.2.2.2.2.2.1, s.2.2.2.2.2.2.1, s.2.2.2.2.2.2.2.1, s.2.2.2.2.2.2.2.2.1, s.2.2.2.2.2.2.2.2.2.1, s.2.2.2.2.2.2.2.2.2.2], By x
theorem u8_rng {x : Int} (h : (Lit.int .u8 x).wf = true) : 0 ≤ x ∧ x ≤ 255 := by
  simpa [Lit.wf, IntKind.min, IntKind.max, IntKind.signed, IntKind.bits] using h
theorem by_wf {x : Int} (h : Wf (.int .u8) x) : By x := u8_rng h
theorem stp_ok {s : Stp} (h : Wf ShS s) : StpOk s := by
  obtain ⟨ha, hb, hc, h1, h2, h3, h4, h5, h6, h7, h8⟩ := h
  refine ⟨by_wf ha, by_wf hb, by_wf hc, fun x hx => ?_⟩
  simp only [List.mem_cons, List.not_mem_nil, or_false] at hx
  rcases hx with e | e | e | e | e | e | e | e <;> subst e
  · exact by_wf h1
  · exact by_wf h2
  · exact by_wf h3
  · exact by_wf h4
  · exact by_wf h5
  · exact by_wf h6
  · exact by_wf h7
  · exact by_wf h8
theorem pick_loop (n : Nat × Nat) (sz : Int) {cs lens : List Int} (hc : ∀ x ∈ cs, By x) (hl : lens ≠ []) (hll : lens.length ≤ 100) (h8 : cs.length ≤ 8) : ∀ (m k : Nat) (out : List Int), k ≤ cs.length → cs.length - k < m → out.length = k → (∀ x ∈ out, x ∈ lens) →
    ∃ ps, DL48_1 n m sz cs (cs.length : Int) (k : Int) lens out = some (sz, ps) ∧ ps.length = cs.length ∧ ∀ x ∈ ps, x ∈ lens
  | 0, k, out, _, h, _, _ => by omega
  | m + 1, k, out, hk, h, ho, hm => by
    rw [DL48_1_succ]
    unfold DF48_1
    have hpos : 0 < lens.length := List.length_pos_iff.2 hl
    by_cases hlt : k < cs.length
    · have hx := hc _ (List.getElem_mem hlt)
      unfold By at hx
      have hmod := Int.emod_nonneg cs[k] (show (lens.length : Int) ≠ 0 by omega)
      have hmod2 := Int.emod_lt_of_pos cs[k] (show (0 : Int) < lens.length by omega)
      have hi : (cs[k] % (lens.length : Int)).toNat < lens.length := by omega
      have hi2 : cs[k] % (lens.length : Int) = (((cs[k] % (lens.length : Int)).toNat : Nat) : Int) := by omega
      rw [dlt_t hlt, cond_true, idx_nat hlt, Option.bind_some, beq_false_of_ne (show (lens.length : Int) ≠ 0 by omega), cond_false, wr_ok (by omega) (by omega), tmod_mod hx.1, hi2, inB_nat hi, cond_true, idx_nat hi, Option.bind_some, lim_dec (by omega), cond_true, wr_succ (by omega)]
      exact pick_loop n sz hc hl hll h8 m (k + 1) _ (by omega) (by omega) (by simp [ho]) (fun x hx => by
        rcases List.mem_append.1 hx with hx | hx
        · exact hm x hx
        · rw [List.mem_singleton.1 hx]; exact List.getElem_mem _)
    · rw [dlt_f hlt, cond_false]
      exact ⟨out, rfl, by omega, hm⟩
theorem cuts_take {s : Stp} (h : StpOk s) {k : Nat} : ∀ x ∈ [s.2.2.2.1, s.2.2.2.2.1, s.2.2.2.2.2.1, s.2.2.2.2.2.2.1, s.2.2.2.2.2.2.2.1, s.2.2.2.2.2.2.2.2.1, s.2.2.2.2.2.2.2.2.2.1, s.2.2.2.2.2.2.2.2.2.2].take k, By x := fun x hx => h.cuts x (List.mem_of_mem_take hx)
theorem many_ok {s : Stp} (h : StpOk s) {most : Nat} (hm : most ≤ 8) : wr .i64 ((most : Int) + 1) = ((most + 1 : Nat) : Int) ∧ (((most + 1 : Nat) : Int) == 0) = false ∧ Int.tmod (wr .i64 s.2.1) ((most + 1 : Nat) : Int) = (((s.2.1 % ((most + 1 : Nat) : Int)).toNat : Nat) : Int) ∧ (s.2.1 % ((most + 1 : Nat) : Int)).toNat ≤ most := by
  have h1 := h.many
  unfold By at h1
  have hmod := Int.emod_nonneg s.2.1 (show ((most + 1 : Nat) : Int) ≠ 0 by omega)
  have hmod2 := Int.emod_lt_of_pos s.2.1 (show (0 : Int) < ((most + 1 : Nat) : Int) by omega)
  refine ⟨wr_succ (by omega), beq_false_of_ne (by omega), ?_, by omega⟩
  rw [wr_ok (by omega) (by omega), tmod_mod h1.1]
  omega
theorem fill_loop (n : Nat × Nat) (hn : 1000 ≤ n.1) {s : Stp} (h : StpOk s) {most : Nat} (hm : most ≤ 8) {sz : Int} (hs : 1 ≤ sz ∧ sz ≤ 24) : ∀ (m k : Nat) (lens : List Int), (k : Int) ≤ sz → sz - k < m → lens.length = k → (∀ x ∈ lens, 1 ≤ x ∧ x ≤ sz) →
    ∃ ps, DL48_2 n m most sz sz (k : Int) s.1 s.2.1 s.2.2.1 s.2.2.2.1 s.2.2.2.2.1 s.2.2.2.2.2.1 s.2.2.2.2.2.2.1 s.2.2.2.2.2.2.2.1 s.2.2.2.2.2.2.2.2.1 s.2.2.2.2.2.2.2.2.2.1 s.2.2.2.2.2.2.2.2.2.2 lens = some (sz, ps) ∧ ps.length ≤ most ∧ ∀ x ∈ ps, 1 ≤ x ∧ x ≤ sz
  | 0, k, lens, _, hh, _, _ => by omega
  | m + 1, k, lens, hk, hh, hl, hb => by
    rw [DL48_2_succ]
    unfold DF48_2
    by_cases hlt : (k : Int) < sz
    · rw [decide_eq_true hlt, cond_true, lim_dec (by omega), cond_true, wr_succ (by omega)]
      exact fill_loop n hn h hm hs m (k + 1) _ (by omega) (by omega) (by simp [hl]) (fun x hx => by
        rcases List.mem_append.1 hx with hx | hx
        · exact hb x hx
        · rw [List.mem_singleton.1 hx]; omega)
    · obtain ⟨e1, e2, e3, e4⟩ := many_ok h hm
      rw [decide_eq_false hlt, cond_false, e1, e2, cond_false, e3, bounds_hi (by omega), cond_true, Int.toNat_natCast]
      obtain ⟨ps, hp, hpl, hpm⟩ := pick_loop n sz (cs := [s.2.2.2.1, s.2.2.2.2.1, s.2.2.2.2.2.1, s.2.2.2.2.2.2.1, s.2.2.2.2.2.2.2.1, s.2.2.2.2.2.2.2.2.1, s.2.2.2.2.2.2.2.2.2.1, s.2.2.2.2.2.2.2.2.2.2].take (s.2.1 % ((most + 1 : Nat) : Int)).toNat) (lens := lens) (cuts_take h) (by intro e; rw [e] at hl; simp at hl; omega) (by omega) (by rw [List.length_take]; exact Nat.min_le_right _ _) n.1 0 [] (by omega) (by simp; omega) rfl (by simp)
      exact ⟨ps, hp, by rw [hpl, List.length_take]; omega, fun x hx => hb x (hpm x hx)⟩
/-- What a job by numbers is. -/
theorem made_ok {s : Stp} (h : StpOk s) {most : Nat} (hm : most ≤ 8) : ∃ sz ps, D48 N s most = some (sz, ps) ∧ Job sz ps ∧ ps.length ≤ most ∧ (s.2.2.1 % 2 = 1 → IsC sz ps) := by
  have h1 := h.size
  have h3 := h.chain
  unfold By at h1 h3
  obtain ⟨e1, e2, e3, e4⟩ := many_ok h hm
  have hsz : wr .i64 (1 + Int.tmod (wr .i64 s.1) 24) = 1 + s.1 % 24 := by
    rw [wr_ok (x := s.1) (by omega) (by omega), tmod_mod h1.1, wr_ok (by omega) (by omega)]
  have hb : wr .i64 (Int.tdiv (wr .i64 s.2.2.1) 2) = s.2.2.1 / 2 := by
    rw [wr_ok (x := s.2.2.1) (by omega) (by omega), Int.tdiv_eq_ediv_of_nonneg h3.1, wr_ok (by omega) (by omega)]
  unfold D48
  rw [show ((24 : Nat) == 0) = false from rfl, show ((2 : Nat) == 0) = false from rfl, cond_false, cond_false, hsz, tmod_mod h3.1]
  by_cases e : s.2.2.1 % 2 = 1
  · rw [show (s.2.2.1 % 2 == 1) = true by simpa using e, cond_true, cond_false, hb]
    have hg := chain_all ⟨(1 + s.1 % 24).toNat, by omega⟩ ⟨(s.2.2.1 / 2).toNat, by omega⟩ (by simp only []; omega)
    simp only [] at hg
    rw [show (((1 + s.1 % 24).toNat : Nat) : Int) = 1 + s.1 % 24 by omega, show (((s.2.2.1 / 2).toNat : Nat) : Int) = s.2.2.1 / 2 by omega] at hg
    cases hD : D89 N (1 + s.1 % 24) (s.2.2.1 / 2) with
    | none => rw [hD] at hg; cases hg
    | some lens =>
      rw [hD] at hg
      simp only [goodC, Bool.and_eq_true, decide_eq_true_eq, List.all_eq_true, Bool.or_eq_true, Bool.not_eq_true', List.isEmpty_eq_false_iff] at hg
      obtain ⟨⟨hg1, hg2⟩, hg3⟩ := hg
      rw [Option.bind_some, e1, e2, cond_false, e3, bounds_hi (by omega), cond_true, Int.toNat_natCast]
      obtain ⟨ps, hp, hpl, hpm⟩ := pick_loop N (1 + s.1 % 24) (cs := [s.2.2.2.1, s.2.2.2.2.1, s.2.2.2.2.2.1, s.2.2.2.2.2.2.1, s.2.2.2.2.2.2.2.1, s.2.2.2.2.2.2.2.2.1, s.2.2.2.2.2.2.2.2.2.1, s.2.2.2.2.2.2.2.2.2.2].take (s.2.1 % ((most + 1 : Nat) : Int)).toNat) (lens := lens) (cuts_take h) hg2 (by omega) (by rw [List.length_take]; exact Nat.min_le_right _ _) N.1 0 [] (by omega) (by have : N.1 = 1000000 := rfl; simp; omega) rfl (by simp)
      have hdiv : ∀ p ∈ lens, 1 ≤ p ∧ p ≤ 1 + s.1 % 24 ∧ (1 + s.1 % 24) % p = 0 := fun p hp => by
        have := (hg3 p hp).1
        exact ⟨this.1, Int.le_of_dvd (by omega) (Int.dvd_of_emod_eq_zero this.2), this.2⟩
      have hlen : ps.length ≤ most := by rw [hpl, List.length_take]; omega
      refine ⟨1 + s.1 % 24, ps, hp, ⟨by omega, by omega, by omega, fun p hp => ?_⟩, hlen, fun _ => ⟨fun p hp => (hdiv p (hpm p hp)).2.2, ?_⟩⟩
      · have := hdiv p (hpm p hp)
        exact ⟨this.1, this.2.1⟩
      · rw [List.pairwise_iff_forall_sublist]
        intro a b hab
        have ha := hpm a (hab.subset (by simp))
        have hb := hpm b (hab.subset (by simp))
        exact (hg3 a ha).2 b hb
  · rw [show (s.2.2.1 % 2 == 1) = false from beq_false_of_ne e, cond_false]
    obtain ⟨ps, hp, hpl, hpm⟩ := fill_loop N hN1 h hm (sz := 1 + s.1 % 24) ⟨by omega, by omega⟩ N.1 0 [] (by omega) (by have : N.1 = 1000000 := rfl; omega) rfl (by simp)
    exact ⟨1 + s.1 % 24, ps, hp, ⟨by omega, by omega, by omega, hpm⟩, hpl, fun h => absurd h e⟩
theorem bdS_in {sz k : Int} {ps : List Int} (hj : Job sz ps) (hk : 0 ≤ k ∧ k ≤ sz / 2) : bdS sz ps k = (bnd sz ps k, 0) := by unfold bdS; rw [if_neg (by simpa using chk_job.2 hj), if_neg (by omega)]

abbrev B8 := Int × Int × Int × Int × Int × Int × Int × Int
abbrev ShB : Sh := .pair (.int .u8) (.pair (.int .u8) (.pair (.int .u8) (.pair (.int .u8) (.pair (.int .u8) (.pair (.int .u8) (.pair (.int .u8) (.int .u8)))))))
def bl (v : B8) : List Int := [v.1, v.2.1, v.2.2.1, v.2.2.2.1, v.2.2.2.2.1, v.2.2.2.2.2.1, v.2.2.2.2.2.2.1, v.2.2.2.2.2.2.2]
theorem b8_ok {v : B8} (h : Wf ShB v) : ∀ x ∈ bl v, By x := by
  obtain ⟨h1, h2, h3, h4, h5, h6, h7, h8⟩ := h
  intro x hx
  unfold bl at hx
  simp only [List.mem_cons, List.not_mem_nil, or_false] at hx
  rcases hx with e | e | e | e | e | e | e | e <;> subst e
  · exact by_wf h1
  · exact by_wf h2
  · exact by_wf h3
  · exact by_wf h4
  · exact by_wf h5
  · exact by_wf h6
  · exact by_wf h7
  · exact by_wf h8
theorem bl_len (v : B8) : (bl v).length = 8 := rfl
/-- The place that a number names. -/
def pick (v : B8) (i : Nat) : Nat := ((bl v).getD i 0 % ((i + 1 : Nat) : Int)).toNat
theorem pick_ok {v : B8} (h : ∀ x ∈ bl v, By x) {i : Nat} (hi : i < 8) : idx (bl v) (i : Int) = some ((bl v).getD i 0) ∧ Int.tmod (wr .i64 ((bl v).getD i 0)) ((i + 1 : Nat) : Int) = (pick v i : Int) ∧ pick v i ≤ i := by
  have hl := bl_len v
  have hb := h _ (List.getElem_mem (show i < (bl v).length by omega))
  rw [← getD_at (by omega)] at hb
  unfold By at hb
  have hmod := Int.emod_nonneg ((bl v).getD i 0) (show ((i + 1 : Nat) : Int) ≠ 0 by omega)
  have hmod2 := Int.emod_lt_of_pos ((bl v).getD i 0) (show (0 : Int) < ((i + 1 : Nat) : Int) by omega)
  refine ⟨by rw [idx_nat (by omega), getD_at (by omega)], ?_, by unfold pick; omega⟩
  rw [wr_ok (by omega) (by omega), tmod_mod hb.1]
  unfold pick
  omega
theorem add_perm {f : List Int → Int} (hf : Add f) {l l' : List Int} (h : l.Perm l') : f l = f l' := by
  induction h with
  | nil => rfl
  | @cons x a b _ ih => rw [hf.cons x a, hf.cons x b, ih]
  | swap x y l => rw [hf.cons y, hf.cons x l, hf.cons x (y :: l), hf.cons y l]; omega
  | trans _ _ ih1 ih2 => exact ih1.trans ih2
theorem bnd_perm {sz k : Int} {l l' : List Int} (h : l.Perm l') : bnd sz l k = bnd sz l' k := by
  unfold bnd
  rw [add_perm (bal_add sz k) h, add_perm (blf_add sz k) h, add_perm (bsm_add sz k) h]
/-- Pieces with other numbers. -/
structure Mvd (sz : Int) (ps mv : List Int) : Prop where
  job : Job sz mv
  perm : mv.Perm ps
  cnt : ∀ mo, (apl sz mv mo).length = (apl sz ps mo).length
theorem Mvd.swap {sz : Int} {ps mv : List Int} (h : Mvd sz ps mv) {i k : Nat} (hi : i < mv.length) (hk : k < mv.length) : Mvd sz ps (swp mv i k) :=
  ⟨swp_job hi hk h.job, (swp_perm hi hk).trans h.perm, fun mo => (swp_count hi hk h.job mo).trans (h.cnt mo)⟩
theorem nm_bounds {sz : Int} {ps mv : List Int} (hj : Job sz ps) (h : Mvd sz ps mv) (x : Bool) : ∀ (m d k : Nat), (k : Int) + d = sz / 2 + 1 → d < m → DL11_2 N m sz ps 0 0 x x (sz / 2 + 1) (k : Int) mv = some true
  | 0, d, k, _, hh => by omega
  | m + 1, 0, k, hk, hh => by
    rw [DL11_2_succ]
    unfold DF11_2
    rw [decide_eq_false (show ¬ (k : Int) < sz / 2 + 1 by omega), cond_false]
    simp only [beq_self_eq_true, cond_true, Option.bind_some, works_eq]
  | m + 1, d + 1, k, hk, hh => by
    have hk2 : 0 ≤ (k : Int) ∧ (k : Int) ≤ sz / 2 := by omega
    have hhi := hj.hi
    rw [DL11_2_succ]
    unfold DF11_2
    rw [decide_eq_true (show (k : Int) < sz / 2 + 1 by omega), cond_true, Bound_eq hN1, Option.bind_some, Bound_eq hN1, Option.bind_some, bdS_in hj hk2, bdS_in h.job hk2, bnd_perm (k := (k : Int)) (sz := sz) h.perm]
    simp only [bne_self_eq_false, beq_self_eq_true, cond_true, Option.bind_some, cond_false]
    rw [wr_succ (by omega)]
    exact nm_bounds hj h x m d (k + 1) (by omega) (by omega)
theorem nm_loop {sz : Int} {ps : List Int} (hj : Job sz ps) {v : B8} (hv : ∀ x ∈ bl v, By x) : ∀ (m i : Nat) (mv : List Int), i ≤ ps.length → ps.length - i < m → Mvd sz ps mv →
    DL11_1 N m sz ps (ps.length : Int) (i : Int) v.1 v.2.1 v.2.2.1 v.2.2.2.1 v.2.2.2.2.1 v.2.2.2.2.2.1 v.2.2.2.2.2.2.1 v.2.2.2.2.2.2.2 mv = some true
  | 0, i, mv, _, h, _ => by omega
  | m + 1, i, mv, hi, hm, h => by
    have h8 := hj.len
    have hlen : mv.length = ps.length := h.perm.length_eq
    rw [DL11_1_succ]
    unfold DF11_1
    by_cases hlt : i < ps.length
    · obtain ⟨p1, p2, p3⟩ := pick_ok hv (show i < 8 by omega)
      have hs := h.swap (i := i) (k := pick v i) (by omega) (by omega)
      have e1 : (mv.set i (mv.getD (pick v i) 0)).set (pick v i) (mv.getD i 0) = swp mv i (pick v i) := rfl
      rw [dlt_t hlt, cond_true, inB_nat (show i < 8 by omega), cond_true]
      rw [show idx [v.1, v.2.1, v.2.2.1, v.2.2.2.1, v.2.2.2.2.1, v.2.2.2.2.2.1, v.2.2.2.2.2.2.1, v.2.2.2.2.2.2.2] (i : Int) = some ((bl v).getD i 0) from p1, Option.bind_some, wr_succ (by omega), beq_false_of_ne (show ((i + 1 : Nat) : Int) ≠ 0 by omega), cond_false, p2]
      have hk : pick v i < mv.length := by omega
      have hi2 : i < mv.length := by omega
      have hk3 : pick v i < (mv.set i (mv.getD (pick v i) 0)).length := by simpa using hk
      have e3 : ∃ y, idx (mv.set i (mv.getD (pick v i) 0)) (pick v i : Int) = some y := ⟨_, idx_nat hk3⟩
      obtain ⟨y, hy⟩ := e3
      rw [inB_nat hk, cond_true, idx_nat hk, Option.bind_some, inB_nat hi2, cond_true, idx_nat hi2, Option.bind_some, cond_true, Option.bind_some, Int.toNat_natCast, ← getD_at hk, ← getD_at hi2, inB_nat hk3, cond_true, hy, Option.bind_some, Int.toNat_natCast, e1]
      exact nm_loop hj hv m (i + 1) _ (by omega) (by omega) hs
    · obtain ⟨e, h0, h12⟩ := half_ok ⟨hj.lo, hj.hi⟩
      have hfw : fw sz mv = fw sz ps := fw_count hj h.job h.cnt
      have hcn := h.cnt (fw sz ps)
      have hch : chS sz mv = chS sz ps := by
        unfold chS
        rw [if_neg (by simpa using chk_job.2 h.job), if_neg (by simpa using chk_job.2 hj)]
        congr 1
        exact decide_eq_decide.2 (isC_perm h.perm)
      have hch2 : (chS sz ps).2 = 0 := by unfold chS; rw [if_neg (by simpa using chk_job.2 hj)]
      rw [dlt_f hlt, cond_false, Fewest_eq, Option.bind_some, Fewest_eq, Option.bind_some, Count_eq, Option.bind_some, Count_eq, Option.bind_some, fwS_eq hj, fwS_eq h.job, cnS_eq hj, cnS_eq h.job, hfw, hcn]
      simp only [bne_self_eq_false, beq_self_eq_true, cond_true, Option.bind_some, cond_false]
      rw [Chain_eq hN1, Option.bind_some, Chain_eq hN1, Option.bind_some, hch, hch2, show ((2 : Nat) == 0) = false from rfl, cond_false, e, wr_ok (x := sz / 2 + 1) (by omega) (by omega)]
      exact nm_bounds hj h _ N.1 (sz / 2 + 1).toNat 0 (by omega) (by have : N.1 = 1000000 := rfl; omega)
theorem named_ok {s : Stp} (h : StpOk s) {v : B8} (hv : ∀ x ∈ bl v, By x) : S11 N s v = some true := by
  rw [S11_D N rfl]
  unfold D11
  obtain ⟨sz, ps, h1, hj, _, _⟩ := made_ok h (most := 7) (by omega)
  have e1 : D48 N s 7 = some (sz, ps) := h1
  have h8 := hj.len
  rw [e1, Option.bind_some]
  simp only []
  rw [clone_eq N ps (by omega), Option.bind_some]
  exact nm_loop hj hv N.1 0 ps (by omega) (by have : N.1 = 1000000 := rfl; omega) ⟨hj, List.Perm.refl _, fun _ => rfl⟩
end Go.Proofs.YtgmonagekfjnmaaDoor
