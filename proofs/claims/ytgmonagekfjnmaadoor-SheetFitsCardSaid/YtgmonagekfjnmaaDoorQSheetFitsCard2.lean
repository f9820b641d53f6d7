/- Texts of this claim, joined: Sg to Th. -/
import Derived.Test.YtgmonagekfjnmaaDoorQSheetFitsCard1
set_option linter.unusedVariables false
set_option linter.unusedSimpArgs false
namespace Go.Proofs.YtgmonagekfjnmaaDoor
open Go.Vi
theorem sub_len : ∀ {a b : List Int}, a.Nodup → (∀ x ∈ a, x ∈ b) → a.length ≤ b.length
  | [], _, _, _ => by simp
  | x :: a, b, hn, h => by
    rw [List.nodup_cons] at hn
    have hp := List.perm_cons_erase (h x (by simp))
    have := sub_len (b := b.erase x) hn.2 (fun y hy => (List.mem_erase_of_ne (fun e => hn.1 (by rw [← e]; exact hy))).2 (h y (by simp [hy])))
    have e := hp.length_eq
    simp only [List.length_cons] at e ⊢
    omega
/-- What has been read of groups: where each piece is, and which have been met. -/
structure Rd (P : Nat) (pre : List (List Int)) (out met : List Int) : Prop where
  len : out.length = P
  rng : ∀ x ∈ met, 0 ≤ x ∧ x < P
  nodup : met.Nodup
  pos : ∀ i (h : i < out.length), 0 ≤ out[i] ↔ (i : Int) ∈ met
  no : ∀ i (h : i < out.length), ¬ 0 ≤ out[i] → out[i] = -1
  lt : ∀ i (h : i < out.length), out[i] < pre.length
  grp : ∀ i (h : i < out.length) j (hj : j < pre.length), (i : Int) ∈ pre[j] ↔ out[i] = j
theorem Rd.start (P : Nat) : Rd P [] (List.replicate P (-1)) [] := ⟨by simp, by simp, by simp, by simp, by simp, by simp, by simp⟩
theorem Rd.open {P : Nat} {pre : List (List Int)} {out met : List Int} (h : Rd P pre out met) : Rd P (pre ++ [[]]) out met := by
  refine ⟨h.len, h.rng, h.nodup, h.pos, h.no, fun i hi => ?_, fun i hi j hj => ?_⟩
  · have := h.lt i hi; simp; omega
  · simp only [List.length_append, List.length_cons, List.length_nil] at hj
    by_cases e : j < pre.length
    · rw [List.getElem_append_left e]; exact h.grp i hi j e
    · have e : j = pre.length := by omega
      subst e
      have := h.lt i hi
      simp
      omega
theorem Rd.step {P : Nat} {pre : List (List Int)} {q out met : List Int} (h : Rd P (pre ++ [q]) out met) {x : Int} (h0 : 0 ≤ x) (h1 : x < P) (hn : x ∉ met) : Rd P (pre ++ [q ++ [x]]) (out.set x.toNat (pre.length : Int)) (met ++ [x]) := by
  have hl := h.len
  have hx : ∀ i : Nat, x.toNat = i ↔ x = (i : Int) := fun i => by omega
  refine ⟨by simp [hl], fun y hy => ?_, ?_, fun i hi => ?_, fun i hi => ?_, fun i hi => ?_, fun i hi j hj => ?_⟩
  · rcases List.mem_append.1 hy with hy | hy
    · exact h.rng y hy
    · simp at hy; omega
  · rw [List.nodup_append]
    refine ⟨h.nodup, by simp, fun a ha b hb e => ?_⟩
    simp at hb
    subst hb
    subst e
    exact hn ha
  · rw [List.length_set] at hi
    rw [List.getElem_set]
    by_cases e : x.toNat = i
    · rw [if_pos e]
      have := (hx i).1 e
      simp [this]
    · rw [if_neg e, h.pos i hi]
      have : ¬ (i : Int) = x := fun e2 => e ((hx i).2 e2.symm)
      simp [this]
  · rw [List.length_set] at hi
    rw [List.getElem_set]
    by_cases e : x.toNat = i
    · rw [if_pos e]; intro hh; omega
    · rw [if_neg e]; exact h.no i hi
  · rw [List.length_set] at hi
    rw [List.getElem_set]
    have := h.lt i hi
    simp only [List.length_append, List.length_cons, List.length_nil] at this ⊢
    split <;> omega
  · rw [List.length_set] at hi
    rw [List.getElem_set]
    simp only [List.length_append, List.length_cons, List.length_nil] at hj
    have hg := h.grp i hi j (by simp; omega)
    have hold : x.toNat = i → out[i] = -1 := fun e => h.no i hi (fun hh => hn (by rw [(hx i).1 e]; exact (h.pos i hi).1 hh))
    by_cases ej : j < pre.length
    · rw [List.getElem_append_left ej] at hg ⊢
      rw [hg]
      by_cases e : x.toNat = i
      · rw [if_pos e, hold e]; omega
      · rw [if_neg e]
    · have ej : j = pre.length := by omega
      subst ej
      simp only [List.getElem_concat_length] at hg ⊢
      rw [List.mem_append, hg]
      by_cases e : x.toNat = i
      · rw [if_pos e]
        simp [(hx i).1 e]
      · rw [if_neg e]
        have : ¬ (i : Int) = x := fun e2 => e ((hx i).2 e2.symm)
        simp [this]
theorem Rd.full {P : Nat} {pre : List (List Int)} {out met : List Int} (h : Rd P pre out met) : -1 ∈ out ↔ met.length ≠ P := by
  have hl := h.len
  have hle : met.length ≤ P := by
    have := sub_len (b := (List.range P).map fun i : Nat => (i : Int)) h.nodup (fun x hx => by
      have := h.rng x hx
      exact List.mem_map.2 ⟨x.toNat, by simp; omega, by omega⟩)
    simpa using this
  constructor
  · intro hm he
    obtain ⟨i, hi, e⟩ := List.getElem_of_mem hm
    have hni : (i : Int) ∉ met := fun hh => by have := (h.pos i hi).2 hh; omega
    have := sub_len (a := (i : Int) :: met) (b := (List.range P).map fun i : Nat => (i : Int)) (List.nodup_cons.2 ⟨hni, h.nodup⟩) (fun x hx => by
      rcases List.mem_cons.1 hx with rfl | hx
      · exact List.mem_map.2 ⟨i, by simp; omega, rfl⟩
      · have := h.rng x hx
        exact List.mem_map.2 ⟨x.toNat, by simp; omega, by omega⟩)
    simp at this
    omega
  · intro hne
    apply Classical.byContradiction
    intro hm
    have hall : ∀ i (hi : i < out.length), (i : Int) ∈ met := fun i hi => Classical.byContradiction fun hh => hm (by
      have := h.no i hi (fun h0 => hh ((h.pos i hi).1 h0))
      rw [← this]
      exact List.getElem_mem hi)
    have := sub_len (a := (List.range P).map fun i : Nat => (i : Int)) (b := met) (List.Pairwise.map _ (fun a b hab e => hab (by omega)) (List.nodup_range)) (fun x hx => by
      obtain ⟨i, hi, e⟩ := List.mem_map.1 hx
      rw [← e]
      exact hall i (by simp at hi; omega))
    simp at this
    omega
/-! The reference puts pieces of one group together. -/
theorem tg_inner (n : Nat × Nat) (hn : 1000 ≤ n.1) (f1 : List Int → List (List Int) → Int → List Int → Option R74) (f2 : List Int → List (List Int) → Int → Int → Int → List Int → Option R74) (ps : List Int) {gs : List (List Int)} (hs : gs.length ≤ 40) (hb : ∀ l ∈ gs, l.length ≤ 40) (i k : Nat) (o : List Int) (hk : k < o.length) :
    ∀ (m g : Nat) (sh : Int), g ≤ gs.length → gs.length - g < m → DL74_3 n f1 f2 m ps gs (i : Int) sh (k : Int) (g : Int) o = f2 ps gs (i : Int) (if ∃ l ∈ gs.drop g, (i : Int) ∈ l ∧ (k : Int) ∈ l then o[k] else sh) (wr .i64 ((k : Int) + 1)) o
  | 0, g, _, _, h => by omega
  | m + 1, g, sh, hg, h => by
    rw [DL74_3_succ]
    unfold DF74_3
    by_cases hlt : g < gs.length
    · have hl := hb _ (List.getElem_mem hlt)
      have ih := fun sh => tg_inner n hn f1 f2 ps hs hb i k o hk m (g + 1) sh (by omega) (by omega)
      rw [dlt_t hlt, cond_true, idx_nat hlt, Option.bind_some, has_eq hn _ _ (by omega), Option.bind_some, Option.bind_some, has_eq hn _ _ (by omega), Option.bind_some, drop_cons hlt, inB_nat hk, cond_true, idx_nat hk, Option.bind_some]
      unfold DL74_4
      rw [wr_succ (k := g) (by omega), ih, ih]
      generalize gs.drop (g + 1) = t at *
      generalize gs[g] = l at *
      by_cases e1 : (i : Int) ∈ l
      · rw [decide_eq_true e1]
        simp only [beq_self_eq_true, cond_true, Option.bind_some]
        by_cases e2 : (k : Int) ∈ l
        · rw [decide_eq_true e2, cond_true, if_pos (c := ∃ l' ∈ l :: t, (i : Int) ∈ l' ∧ (k : Int) ∈ l') ⟨l, by simp, e1, e2⟩]
          congr 1
          split <;> rfl
        · rw [decide_eq_false e2, cond_false]
          congr 1
          simp [e2]
      · rw [decide_eq_false e1]
        simp only [show (false == true) = false from rfl, cond_false, Option.bind_some]
        congr 1
        simp [e1]
    · rw [dlt_f hlt, cond_false, List.drop_of_length_le (by omega)]
      congr 1
theorem tg_mid (n : Nat × Nat) (hn : 1000 ≤ n.1) (f1 : List Int → List (List Int) → Int → List Int → Option R74) (ps : List Int) {gs : List (List Int)} (hs : gs.length ≤ 40) (hb : ∀ l ∈ gs, l.length ≤ 40) {out met : List Int} {P : Nat} (hr : Rd P gs out met) (hP : P ≤ 8) (hfull : ∀ i (h : i < out.length), 0 ≤ out[i]) (i : Nat) (hi : i < out.length) (o : List Int) (ho : o.length = i) (v : Int) (hv : ∀ j (hj : j < i), out[j]'(by omega) = out[i] → o[j]'(by omega) = v) :
    ∀ (m k : Nat) (sh : Int), k ≤ i → i - k < m → DL74_2 n f1 m ps gs (i : Int) sh (k : Int) o = f1 ps gs (wr .i64 ((i : Int) + 1)) (o ++ [if ∃ j, ∃ hj : j < i, k ≤ j ∧ out[j]'(by omega) = out[i] then v else sh])
  | 0, k, _, _, h => by omega
  | m + 1, k, sh, hk, h => by
    have hl := hr.len
    rw [DL74_2_succ]
    unfold DF74_2
    by_cases hlt : k < i
    · have ih := fun sh => tg_mid n hn f1 ps hs hb hr hP hfull i hi o ho v hv m (k + 1) sh (by omega) (by omega)
      rw [dlt_t hlt, cond_true]
      have := tg_inner n hn f1 (DL74_2 n f1 m) ps hs hb i k o (by omega) n.1 0 sh (by omega) (by omega)
      rw [List.drop_zero] at this
      refine (show DL74_3 n f1 (DL74_2 n f1 m) n.1 ps gs (i : Int) sh (k : Int) 0 o = _ from this).trans ?_
      rw [wr_succ (by omega), ih]
      have hiff : (∃ l ∈ gs, (i : Int) ∈ l ∧ (k : Int) ∈ l) ↔ out[k]'(by omega) = out[i] := by
        constructor
        · rintro ⟨l, hlm, h1, h2⟩
          obtain ⟨j, hj, e⟩ := List.getElem_of_mem hlm
          rw [← e] at h1 h2
          rw [(hr.grp i hi j hj).1 h1, (hr.grp k (by omega) j hj).1 h2]
        · intro e
          have h0 := hfull i hi
          have h1 := hr.lt i hi
          have hj : out[i].toNat < gs.length := by omega
          refine ⟨gs[out[i].toNat], List.getElem_mem hj, (hr.grp i hi _ hj).2 (by omega), (hr.grp k (by omega) _ hj).2 (by rw [e]; omega)⟩
      congr 3
      by_cases e : out[k]'(by omega) = out[i]
      · rw [if_pos (hiff.2 e), hv k hlt e, if_pos (c := ∃ j, ∃ hj : j < i, k ≤ j ∧ out[j]'(by omega) = out[i]) ⟨k, hlt, by omega, e⟩]
        split <;> rfl
      · rw [if_neg (fun h => e (hiff.1 h))]
        by_cases c : ∃ j, ∃ hj : j < i, k + 1 ≤ j ∧ out[j]'(by omega) = out[i]
        · obtain ⟨j, hj, h1, h2⟩ := c
          rw [if_pos ⟨j, hj, h1, h2⟩, if_pos ⟨j, hj, by omega, h2⟩]
        · rw [if_neg c, if_neg]
          rintro ⟨j, hj, h1, h2⟩
          by_cases e3 : j = k
          · subst e3; exact e h2
          · exact c ⟨j, hj, by omega, h2⟩
    · rw [dlt_f hlt, cond_false, lim_dec (by omega), cond_true]
      congr 3
      rw [if_neg]
      rintro ⟨j, hj, h1, _⟩
      omega
theorem tg_loop (n : Nat × Nat) (hn : 1000 ≤ n.1) (ps : List Int) {gs : List (List Int)} (hs : gs.length ≤ 40) (hb : ∀ l ∈ gs, l.length ≤ 40) {out met : List Int} (hr : Rd ps.length gs out met) (hP : ps.length ≤ 8) (hfull : ∀ i (h : i < out.length), 0 ≤ out[i]) : ∀ (m i : Nat), i ≤ out.length → out.length - i < m →
    DL74_1 n m ps gs (i : Int) ((tid [] out).take i) = some (tid [] out)
  | 0, i, _, h => by omega
  | m + 1, i, hi, h => by
    have hl := hr.len
    have htl := tid_len out []
    rw [DL74_1_succ]
    unfold DF74_1
    by_cases hlt : i < out.length
    · have hrng : ∀ x ∈ (tid [] out).take i, 0 ≤ x ∧ x ≤ 100000 := fun x hx => by
        have hx := List.mem_of_mem_take hx
        rw [tid_map] at hx
        obtain ⟨y, hy, e⟩ := List.mem_map.1 hx
        have h1 := fnd_lt ((dd_mem y out []).2 (.inr hy))
        have h2 := tid_mny out out.length (by omega)
        rw [List.take_of_length_le (by omega), List.take_length] at h2
        have h3 : mny (tid [] out) ≤ 8 := by
          have : ∀ (l : List Int), ((dd [] l).length : Int) ≤ l.length := by
            intro l
            have : ∀ (l met : List Int), (dd met l).length ≤ met.length + l.length := by
              intro l
              induction l with
              | nil => intro met; simp [dd]
              | cons y l ih =>
                intro met
                unfold dd
                have := ih (if y ∈ met then met else met ++ [y])
                split at this
                · rename_i hh; rw [if_pos hh]; simp only [List.length_cons]; omega
                · rename_i hh; rw [if_neg hh]; simp only [List.length_append, List.length_cons, List.length_nil] at this ⊢; omega
            have := this l []
            simp at this
            omega
          have := this out
          omega
        omega
      rw [← hl, dlt_t hlt, cond_true, many_eq hn (by simp; omega) hrng, Option.bind_some]
      have hlt2 : i < (tid [] out).length := by omega
      have := tg_mid n hn (DL74_1 n m) ps hs hb hr hP hfull i hlt ((tid [] out).take i) (by simp; omega) ((tid [] out)[i]) (fun j hj e => by
        rw [List.getElem_take]
        exact tid_old hlt (by omega) e) n.1 0 (mny ((tid [] out).take i)) (by omega) (by omega)
      refine (show DL74_2 n (DL74_1 n m) n.1 ps gs (i : Int) _ 0 _ = _ from this).trans ?_
      rw [wr_succ (by omega)]
      have hv : (if ∃ j, ∃ hj : j < i, 0 ≤ j ∧ out[j]'(by omega) = out[i] then (tid [] out)[i] else mny ((tid [] out).take i)) = (tid [] out)[i] := by
        by_cases c : ∃ j, ∃ hj : j < i, 0 ≤ j ∧ out[j]'(by omega) = out[i]
        · rw [if_pos c]
        · rw [if_neg c]
          exact (tid_first hlt (fun j hj e => c ⟨j, hj, by omega, e⟩)).symm
      rw [hv, ← take_snoc hlt2]
      exact tg_loop n hn ps hs hb hr hP hfull m (i + 1) (by omega) (by omega)
    · rw [← hl, dlt_f hlt, cond_false, List.take_of_length_le (by omega)]
theorem Rd.le {P : Nat} {pre : List (List Int)} {out met : List Int} (h : Rd P pre out met) : met.length ≤ P := by
  have := sub_len (b := (List.range P).map fun i : Nat => (i : Int)) h.nodup (fun x hx => by
    have := h.rng x hx
    exact List.mem_map.2 ⟨x.toNat, by simp; omega, by omega⟩)
  simpa using this
/-! The falling order, by places. -/
instance (ps : List Int) (i j : Int) : Decidable (Fbf ps i j) := inferInstanceAs (Decidable (_ ∨ _))
theorem count_before {R : Int → Int → Prop} [∀ a b, Decidable (R a b)] (asym : ∀ a b, R a b → ¬ R b a) : ∀ {l : List Int}, l.Pairwise R → ∀ j (h : j < l.length), l.countP (fun k => decide (R k l[j])) = j
  | [], _, _, h => by simp at h
  | x :: l, hp, 0, _ => by
    obtain ⟨h1, h2⟩ := List.pairwise_cons.1 hp
    rw [List.getElem_cons_zero, List.countP_eq_zero]
    intro y hy
    rcases List.mem_cons.1 hy with e | hy
    · rw [e]; simpa using fun h => asym x x h h
    · simpa using asym _ _ (h1 y hy)
  | x :: l, hp, j + 1, h => by
    obtain ⟨h1, h2⟩ := List.pairwise_cons.1 hp
    have hj : j < l.length := by simpa using h
    rw [List.getElem_cons_succ, List.countP_cons, count_before asym h2 j hj, if_pos (by simpa using h1 _ (List.getElem_mem hj))]
def cbf (ps : List Int) (i : Nat) : Nat → List Int → Nat
  | _, [] => 0
  | k, x :: l => (if x > ps.getD i 0 ∨ x = ps.getD i 0 ∧ k < i then 1 else 0) + cbf ps i (k + 1) l
theorem cbf_cons (ps : List Int) (i k : Nat) (x : Int) (l : List Int) : cbf ps i k (x :: l) = (if x > ps.getD i 0 ∨ x = ps.getD i 0 ∧ k < i then 1 else 0) + cbf ps i (k + 1) l := rfl
theorem nodup_inj {l : List Int} (h : l.Nodup) {i j : Nat} (hi : i < l.length) (hj : j < l.length) (e : l[i] = l[j]) : i = j := by
  have hp := List.pairwise_iff_getElem.1 h
  rcases Nat.lt_trichotomy i j with c | c | c
  · exact absurd e (hp i j hi hj c)
  · exact c
  · exact absurd e.symm (hp j i hj hi c)
theorem cbf_count (ps : List Int) (i : Nat) : ∀ (l : List Int) (k : Nat), (∀ j : Nat, l[j]? = ps[k + j]?) → cbf ps i k l = ((List.range' k l.length).map fun j : Nat => (j : Int)).countP (fun j => decide (Fbf ps j (i : Int)))
  | [], k, _ => rfl
  | x :: l, k, h => by
    have ih := cbf_count ps i l (k + 1) (fun j => by have := h (j + 1); rw [show k + 1 + j = k + (j + 1) by omega]; simpa using this)
    have hx : ps.getD k 0 = x := by have := h 0; rw [List.getD_eq_getElem?_getD]; simp at this; rw [← this]; rfl
    rw [List.length_cons, List.range'_succ, List.map_cons, List.countP_cons, ← ih, cbf_cons]
    have hF : Fbf ps (k : Int) (i : Int) ↔ (x > ps.getD i 0 ∨ x = ps.getD i 0 ∧ k < i) := by
      unfold Fbf pc
      rw [Int.toNat_natCast, Int.toNat_natCast, hx]
      constructor
      · rintro (h | ⟨h1, h2⟩)
        · exact .inl h
        · exact .inr ⟨h1, by omega⟩
      · rintro (h | ⟨h1, h2⟩)
        · exact .inl h
        · exact .inr ⟨h1, by omega⟩
    by_cases e : x > ps.getD i 0 ∨ x = ps.getD i 0 ∧ k < i
    · rw [if_pos e, if_pos (by simpa using hF.2 e)]; omega
    · rw [if_neg e, if_neg (by simpa using fun h => e (hF.1 h))]; omega
theorem cbf_le (ps : List Int) (i : Nat) : ∀ (l : List Int) (k : Nat), cbf ps i k l ≤ l.length
  | [], _ => Nat.le_refl _
  | x :: l, k => by
    have := cbf_le ps i l (k + 1)
    rw [List.length_cons, cbf_cons]
    split <;> omega
theorem fbf_asym (ps : List Int) (a b : Int) (h : Fbf ps a b) : ¬ Fbf ps b a := by
  unfold Fbf at *
  omega
/-- Where a piece stands in the falling order. -/
theorem fal_place {ps : List Int} {i : Nat} (h : i < ps.length) : ∃ hp : cbf ps i 0 ps < (fal ps).length, (fal ps)[cbf ps i 0 ps] = (i : Int) := by
  have hm : (i : Int) ∈ fal ps := (fal_perm ps).mem_iff.2 (List.mem_map.2 ⟨i, List.mem_range.2 h, rfl⟩)
  obtain ⟨j, hj, e⟩ := List.getElem_of_mem hm
  have h1 := count_before (fbf_asym ps) (fal_sort ps) j hj
  rw [e, (fal_perm ps).countP_eq, List.range_eq_range', ← cbf_count ps i ps 0 (fun j => by rw [Nat.zero_add])] at h1
  refine ⟨by rw [h1]; exact hj, ?_⟩
  simp only [h1]
  exact e
theorem fal_nd (ps : List Int) : (fal ps).Nodup := (fal_perm ps).nodup_iff.2 (by
  rw [List.Nodup, List.pairwise_map]
  exact (List.pairwise_lt_range).imp (fun h => by omega))
def fup (ps : List Int) (i : Nat) : List Int := (fal ps).map fun x => if x < (i : Int) then x else 0
theorem fup_step {ps : List Int} {i : Nat} (h : i < ps.length) : (fup ps i).set (cbf ps i 0 ps) (i : Int) = fup ps (i + 1) := by
  obtain ⟨hp, e⟩ := fal_place h
  unfold fup
  refine List.ext_getElem (by simp) (fun j h1 h2 => ?_)
  have hj : j < (fal ps).length := by simpa using h2
  rw [List.getElem_set, List.getElem_map, List.getElem_map]
  by_cases c : cbf ps i 0 ps = j
  · subst c
    rw [if_pos rfl, e, if_pos (by omega)]
  · rw [if_neg c]
    have hne : (fal ps)[j] ≠ (i : Int) := fun e2 => by
      exact c (nodup_inj (fal_nd ps) hp hj (by rw [e, e2]))
    by_cases c2 : (fal ps)[j] < (i : Int)
    · rw [if_pos c2, if_pos (by omega)]
    · rw [if_neg c2, if_neg (by omega)]
theorem rf_in (n : Nat × Nat) (f1 : List Int → Int → List Int → Option R78) {ps : List Int} (h8 : ps.length ≤ 8) {i : Nat} (hi : i < ps.length) {out : List Int} (ho : out.length = ps.length) (hc : cbf ps i 0 ps < ps.length) : ∀ (m k a : Nat), k ≤ ps.length → ps.length - k < m → a + cbf ps i k (ps.drop k) = cbf ps i 0 ps →
    DL78_2 n f1 m ps (i : Int) (a : Int) (k : Int) out = f1 ps (wr .i64 ((i : Int) + 1)) (out.set (cbf ps i 0 ps) (i : Int))
  | 0, k, a, _, h, _ => by omega
  | m + 1, k, a, hk, h, ha => by
    rw [DL78_2_succ]
    unfold DF78_2
    by_cases hlt : k < ps.length
    · rw [drop_cons hlt] at ha
      rw [cbf_cons] at ha
      have hpi : ps.getD i 0 = ps[i] := by rw [List.getD_eq_getElem?_getD, List.getElem?_eq_getElem hi, Option.getD_some]
      rw [hpi] at ha
      have hcl := cbf_le ps i ps 0
      rw [dlt_t hlt, cond_true, idx_nat hlt, Option.bind_some, idx_nat hi, Option.bind_some]
      simp only [Option.bind_some]
      unfold DL78_3
      rw [wr_succ (k := k) (by omega)]
      by_cases e1 : ps[k] > ps[i]
      · rw [if_pos (.inl e1)] at ha
        rw [decide_eq_true e1]
        simp only [show (true == false) = false from rfl, cond_false, Option.bind_some, cond_true]
        rw [wr_succ (by omega)]
        exact rf_in n f1 h8 hi ho hc m (k + 1) (a + 1) (by omega) (by omega) (by omega)
      · rw [decide_eq_false e1]
        simp only [beq_self_eq_true, cond_true, Option.bind_some]
        by_cases e2 : ps[k] = ps[i]
        · rw [show (ps[k] == ps[i]) = true by simpa using e2]
          simp only [beq_self_eq_true, cond_true, Option.bind_some]
          by_cases e3 : k < i
          · rw [if_pos (.inr ⟨e2, e3⟩)] at ha
            rw [dlt_t e3, cond_true, wr_succ (by omega)]
            exact rf_in n f1 h8 hi ho hc m (k + 1) (a + 1) (by omega) (by omega) (by omega)
          · rw [if_neg (by omega)] at ha
            rw [dlt_f e3, cond_false]
            exact rf_in n f1 h8 hi ho hc m (k + 1) a (by omega) (by omega) (by omega)
        · rw [if_neg (by omega)] at ha
          rw [beq_false_of_ne e2]
          simp only [show (false == true) = false from rfl, cond_false, Option.bind_some]
          exact rf_in n f1 h8 hi ho hc m (k + 1) a (by omega) (by omega) (by omega)
    · rw [List.drop_of_length_le (by omega)] at ha
      have ha : a = cbf ps i 0 ps := by simpa [cbf] using ha
      subst ha
      have hco : cbf ps i 0 ps < out.length := by omega
      have e3 : ∃ y, idx out (cbf ps i 0 ps : Int) = some y := ⟨_, idx_nat hco⟩
      obtain ⟨y, hy⟩ := e3
      rw [dlt_f hlt, cond_false, inB_nat hco, cond_true, hy, Option.bind_some, Int.toNat_natCast]
theorem rf_loop {ps : List Int} (h8 : ps.length ≤ 8) : ∀ (m i : Nat), i ≤ ps.length → ps.length - i < m → DL78_1 N m ps (i : Int) (fup ps i) = some (fal ps)
  | 0, i, _, h => by omega
  | m + 1, i, hi, h => by
    have hfl := fal_len ps
    rw [DL78_1_succ]
    unfold DF78_1
    by_cases hlt : i < ps.length
    · obtain ⟨hp, e⟩ := fal_place hlt
      have := rf_in N (DL78_1 N m) h8 hlt (out := fup ps i) (by unfold fup; rw [List.length_map, hfl]) (by omega) N.1 0 0 (by omega) (by have : N.1 = 1000000 := rfl; omega) (by rw [List.drop_zero, Nat.zero_add])
      rw [dlt_t hlt, cond_true]
      refine Eq.trans this ?_
      rw [wr_succ (by omega), fup_step hlt]
      exact rf_loop h8 m (i + 1) (by omega) (by omega)
    · rw [dlt_f hlt, cond_false]
      congr 1
      unfold fup
      conv => rhs; rw [← List.map_id (fal ps)]
      refine List.map_congr_left (fun x hx => ?_)
      have := fal_rng ps x hx
      rw [if_pos (by omega)]
      rfl
theorem rfall_eq {ps : List Int} (h8 : ps.length ≤ 8) : D78 N ps = some (fal ps) := by
  unfold D78
  rw [decide_eq_true (show (0 : Int) ≤ (ps.length : Int) by omega), decide_eq_true (show (ps.length : Int) ≤ (ps.length : Int) by omega), decide_eq_true (show (ps.length : Int) ≤ lim by unfold lim; omega), Int.toNat_natCast]
  simp only [Bool.and_self, cond_true]
  have e : List.replicate ps.length (0 : Int) = fup ps 0 := by
    unfold fup
    refine List.ext_getElem (by simp [fal_len]) (fun j h1 h2 => ?_)
    rw [List.getElem_replicate, List.getElem_map]
    have := fal_rng ps ((fal ps)[j]'(by simpa using h2)) (List.getElem_mem _)
    rw [if_neg (by omega)]
  rw [e]
  exact rf_loop h8 N.1 0 (by omega) (by have : N.1 = 1000000 := rfl; omega)
theorem rFall_eq (sz : Int) (ps : List Int) : D31 N sz ps = some (if chk sz ps ≠ 0 then ([], chk sz ps) else (fal ps, 0)) := by
  unfold D31
  rw [rCheck_eq hN1, Option.bind_some]
  by_cases h : chk sz ps = 0
  · rw [h, bne_self_eq_false, cond_false, rfall_eq (chk_job.1 h).len, Option.bind_some, if_neg (by simp)]
  · rw [show (chk sz ps != 0) = true by simpa using h, cond_true, if_pos h]
/-! Orders: the first error. -/
def oe (P : Nat) : List Int → List Int → Int
  | _, [] => 0
  | met, x :: r => if ¬ (0 ≤ x ∧ x < P) then 2 else if x ∈ met then 6 else oe P (met ++ [x]) r
theorem fit_step (n : Nat × Nat) (hn : 1000 ≤ n.1) {sz : Int} {ps o : List Int} (hj : Job sz ps) {k : Nat} (hlt : k < o.length) (hk : k < 1000) (hi : 0 ≤ o[k] ∧ o[k] < ps.length) {A L : List Int} (hA : A.length = ps.length) (hgn : A.getD o[k].toNat 0 = -1) (hL : L.length ≤ 8) (hr : ∀ x ∈ L, 0 ≤ x ∧ x < sz) (m : Nat) :
    DL32_1 n (m + 1) sz o (o.length : Int) (k : Int) ps A L = DL32_1 n m sz o (o.length : Int) ((k + 1 : Nat) : Int) ps (fst1 sz ps (A, L) o[k]).1 (fst1 sz ps (A, L) o[k]).2 := by
  have h8 := hj.len
  have hlo := hj.lo
  have hhi := hj.hi
  rw [DL32_1_succ]
  unfold DF32_1
  have hp := hj.ok _ (pc_mem hi.1 hi.2)
  have hul := up_len (sz := sz) (pc ps o[k]) (ffp_le (pc ps o[k]) L)
  have hfl := ffp_le (pc ps o[k]) L
  have hrr := rm_rng hr (by omega : 0 ≤ sz) (ffp (pc ps o[k]) L)
  have hfr := ffp_rm (L := L) hp.2
  have hix := idx_pc hi.1 hi.2
  have hin : inB o[k] A.length = true := by rw [show o[k] = (o[k].toNat : Int) by omega]; exact inB_nat (by omega)
  have hgA : idx A o[k] = some (-1) := by
    rw [idx_int (k := o[k].toNat) (by omega) (by omega), ← hgn, List.getD_eq_getElem?_getD, List.getElem?_eq_getElem (by omega), Option.getD_some]
  rw [dlt_t hlt, cond_true, idx_nat hlt, Option.bind_some, decide_eq_false (show ¬ o[k] < 0 by omega), decide_eq_false (show ¬ o[k] ≥ (ps.length : Int) by omega)]
  simp only [beq_self_eq_true, cond_true, Option.bind_some, cond_false]
  rw [hin, cond_true, hgA, Option.bind_some, decide_eq_false (by omega), cond_false, idxr_eq hn hi L (by omega), Option.bind_some]
  simp only [fst1]
  have hup : ∀ q : List Int, q = (if ffp (pc ps o[k]) L = L.length then L ++ [sz] else L) → q.set (ffp (pc ps o[k]) L) (rm sz L (ffp (pc ps o[k]) L) - pc ps o[k]) = up sz L (ffp (pc ps o[k]) L) (pc ps o[k]) := fun q hq => by rw [hq]; rfl
  generalize hs : ffp (pc ps o[k]) L = s at *
  by_cases e2 : s < L.length
  · have hroom : rm sz L s = L[s] := rm_get e2
    rw [if_pos e2, decide_eq_false (show ¬ (s : Int) < 0 by omega), cond_false, inB_nat e2, cond_true, idx_nat e2, Option.bind_some, hix, Option.bind_some, cond_true, Option.bind_some, Option.bind_some, ← hroom, wr_ok (x := rm sz L s - pc ps o[k]) (by omega) (by omega), Int.toNat_natCast, hup L (by rw [if_neg (by omega)]), wr_succ (by omega), cond_true]
  · have e3 : s = L.length := by omega
    have hroom : rm sz L s = sz := by unfold rm; rw [List.getD_eq_getElem?_getD, List.getElem?_eq_none (by omega), Option.getD_none]
    have hsl : L.length < (L ++ [sz]).length := by simp
    have hg : (L ++ [sz])[L.length] = sz := by simp
    have hu := hup (L ++ [sz]) (by rw [if_pos e3])
    rw [hroom, e3] at hu
    rw [if_neg e2, decide_eq_true (show (-1 : Int) < 0 by omega), cond_true, lim_dec (by omega), cond_true, inB_nat hsl, cond_true, idx_nat hsl, Option.bind_some, hix, Option.bind_some, cond_true, Option.bind_some, Option.bind_some, hg, wr_ok (x := sz - pc ps o[k]) (by omega) (by omega), Int.toNat_natCast, hu, wr_succ (by omega), e3, cond_true]
/-! Groups beside sheets. -/
theorem Rd.put {P : Nat} {gs : List (List Int)} {out met : List Int} (h : Rd P gs out met) {s : Nat} (hs : s < gs.length) {x : Int} (h0 : 0 ≤ x) (h1 : x < P) (hn : x ∉ met) : Rd P (gs.set s (gs[s] ++ [x])) (out.set x.toNat (s : Int)) (met ++ [x]) := by
  have hl := h.len
  have hx : ∀ i : Nat, x.toNat = i ↔ x = (i : Int) := fun i => by omega
  refine ⟨by simp [hl], fun y hy => ?_, ?_, fun i hi => ?_, fun i hi => ?_, fun i hi => ?_, fun i hi j hj => ?_⟩
  · rcases List.mem_append.1 hy with hy | hy
    · exact h.rng y hy
    · simp at hy; omega
  · rw [List.nodup_append]
    refine ⟨h.nodup, by simp, fun a ha b hb e => ?_⟩
    simp at hb
    subst hb
    subst e
    exact hn ha
  · rw [List.length_set] at hi
    rw [List.getElem_set]
    by_cases e : x.toNat = i
    · rw [if_pos e]
      have := (hx i).1 e
      simp [this]
    · rw [if_neg e, h.pos i hi]
      have : ¬ (i : Int) = x := fun h => e ((hx i).2 h.symm)
      simp [this]
  · rw [List.length_set] at hi
    rw [List.getElem_set]
    by_cases e : x.toNat = i
    · rw [if_pos e]; intro h; omega
    · rw [if_neg e]; exact h.no i hi
  · rw [List.length_set] at hi
    rw [List.getElem_set, show (gs.set s (gs[s] ++ [x])).length = gs.length from List.length_set ..]
    by_cases e : x.toNat = i
    · rw [if_pos e]; omega
    · rw [if_neg e]; exact h.lt i hi
  · rw [List.length_set] at hi hj
    rw [List.getElem_set (l := out), List.getElem_set (l := gs)]
    have hnew : ∀ (hi : i < out.length), x.toNat = i → out[i] = -1 := fun hi e => by
      refine h.no i hi (fun h2 => ?_)
      have := (h.pos i hi).1 h2
      rw [← (hx i).1 e] at this
      exact hn this
    by_cases e : x.toNat = i
    · rw [if_pos e]
      have hxi := (hx i).1 e
      have := hnew hi e
      by_cases e2 : s = j
      · rw [if_pos e2, ← e2]
        simp [hxi]
      · rw [if_neg e2, h.grp i hi j hj]
        constructor
        · intro h; omega
        · intro h; omega
    · rw [if_neg e]
      have hxi : ¬ (i : Int) = x := fun h => e ((hx i).2 h.symm)
      by_cases e2 : s = j
      · subst e2
        rw [if_pos rfl, List.mem_append, h.grp i hi s hj]
        simp [hxi]
      · rw [if_neg e2, h.grp i hi j hj]
structure FG (sz : Int) (ps dn : List Int) (gs : List (List Int)) (A L : List Int) : Prop where
  rd : Rd ps.length gs A dn
  len : gs.length = L.length
  lr : ∀ x ∈ L, 0 ≤ x ∧ x < sz
  room : ∀ (s : Nat) (h : s < gs.length), gtot ps gs[s] = sz - rm sz L s
theorem FG.start (sz : Int) (ps : List Int) : FG sz ps [] [] (List.replicate ps.length (-1)) [] := ⟨Rd.start _, rfl, by simp, fun s h => by simp at h⟩
theorem gat_ffp {sz : Int} {ps : List Int} {x : Int} : ∀ (gs : List (List Int)) (L : List Int), gs.length = L.length → (∀ (s : Nat) (h : s < gs.length) (h2 : s < L.length), gtot ps gs[s] = sz - L[s]) → gat sz ps x gs = ffp (pc ps x) L
  | [], [], _, _ => rfl
  | g :: gs, y :: L, hl, h => by
    have h0 := h 0 (by simp) (by simp)
    simp only [List.getElem_cons_zero] at h0
    have ih := gat_ffp (x := x) gs L (by simpa using hl) (fun s h1 h2 => by have := h (s + 1) (by simpa using h1) (by simpa using h2); simpa using this)
    unfold gat ffp
    rw [ih, h0]
    have hpc : pc ps x = ps.getD x.toNat 0 := rfl
    rw [hpc]
    by_cases e : ps.getD x.toNat 0 ≤ y
    · rw [if_pos e, if_pos (by omega)]
    · rw [if_neg e, if_neg (by omega)]
  | [], _ :: _, hl, _ => by simp at hl
  | _ :: _, [], hl, _ => by simp at hl
theorem FG.step {sz : Int} {ps dn : List Int} {gs : List (List Int)} {A L : List Int} (hj : Job sz ps) (h : FG sz ps dn gs A L) {x : Int} (hi : 0 ≤ x ∧ x < ps.length) (hn : x ∉ dn) : FG sz ps (dn ++ [x]) (gput (gat sz ps x gs) x gs) (fst1 sz ps (A, L) x).1 (fst1 sz ps (A, L) x).2 := by
  have hl := h.len
  have e := gat_ffp (x := x) gs L h.len (fun s h1 h2 => by rw [h.room s h1, rm_get h2])
  have hfl := ffp_le (pc ps x) L
  have hur := up_rng2 hj hi h.lr
  simp only [fst1]
  rw [e]
  clear e
  generalize ffp (pc ps x) L = s at *
  have hpc : pc ps x = ps.getD x.toNat 0 := rfl
  have hup : ∀ (t : Nat), t < max L.length (s + 1) → rm sz (up sz L s (pc ps x)) t = if s = t then rm sz L s - pc ps x else rm sz L t := fun t ht => by
    have hul := up_len (sz := sz) (pc ps x) hfl
    rw [rm_get (by omega), up_get]
  have hul := up_len (sz := sz) (pc ps x) hfl
  have hrd : Rd ps.length (gnew s gs) A dn ∧ s < (gnew s gs).length ∧ (gnew s gs).length = max L.length (s + 1) ∧ ∀ (t : Nat) (ht : t < (gnew s gs).length), gtot ps (gnew s gs)[t] = sz - rm sz L t := by
    unfold gnew
    by_cases c : s < gs.length
    · simp only [c, if_true]
      exact ⟨h.rd, trivial, by omega, h.room⟩
    · simp only [c, if_false]
      refine ⟨h.rd.open, by simp; omega, by simp; omega, fun t ht => ?_⟩
      by_cases c2 : t < gs.length
      · rw [List.getElem_append_left c2]; exact h.room t c2
      · have : t = gs.length := by simp at ht; omega
        subst this
        simp only [List.getElem_append_right (Nat.le_refl _), Nat.sub_self, List.getElem_cons_zero]
        rw [hl, rm_end]
        simp [gtot]
  obtain ⟨r1, r2, r3, r4⟩ := hrd
  unfold gput
  have eg : (gnew s gs).getD s [] = (gnew s gs)[s] := by rw [List.getD_eq_getElem?_getD, List.getElem?_eq_getElem r2, Option.getD_some]
  rw [eg]
  refine ⟨r1.put r2 hi.1 hi.2 hn, by rw [List.length_set, r3, hul], hur, fun t ht => ?_⟩
  · rw [List.length_set] at ht
    rw [List.getElem_set, hup t (by omega)]
    by_cases c : s = t
    · subst c
      rw [if_pos rfl, if_pos rfl, gtot_snoc, r4 s ht, hpc]
      omega
    · rw [if_neg c, if_neg c]
      exact r4 t ht
theorem oe_step {P : Nat} {o : List Int} {k : Nat} (hlt : k < o.length) : oe P (o.take k) (o.drop k) = if ¬ (0 ≤ o[k] ∧ o[k] < P) then 2 else if o[k] ∈ o.take k then 6 else oe P (o.take (k + 1)) (o.drop (k + 1)) := by
  rw [drop_cons hlt]
  conv => lhs; unfold oe
  rw [take_snoc hlt]
theorem pfit_loop {sz : Int} {ps o : List Int} (hj : Job sz ps) (hol : o.length ≤ 8) : ∀ (m k : Nat) (gs : List (List Int)) (A L : List Int), k ≤ o.length → o.length - k < m → L.length ≤ k → FG sz ps (o.take k) gs A L →
    (oe ps.length (o.take k) (o.drop k) ≠ 0 → DL32_1 N m sz o (o.length : Int) (k : Int) ps A L = some ([], oe ps.length (o.take k) (o.drop k))) ∧
    (oe ps.length (o.take k) (o.drop k) = 0 → ∃ A' L', FG sz ps o (gfit sz ps (o.drop k) gs) A' L' ∧ DL32_1 N m sz o (o.length : Int) (k : Int) ps A L = some (tid [] A', 0))
  | 0, k, gs, A, L, _, h, _, _ => by omega
  | m + 1, k, gs, A, L, hk, h, hL, hF => by
    have h8 := hj.len
    have hA := hF.rd.len
    by_cases hlt : k < o.length
    · rw [oe_step hlt]
      by_cases e1 : 0 ≤ o[k] ∧ o[k] < ps.length
      · rw [if_neg (by simpa using e1)]
        have hin : inB o[k] A.length = true := by rw [show o[k] = (o[k].toNat : Int) by omega]; exact inB_nat (by omega)
        have hAk : o[k].toNat < A.length := by omega
        have hix : idx A o[k] = some A[o[k].toNat] := idx_int (by omega) hAk
        have hpos := hF.rd.pos o[k].toNat hAk
        rw [show ((o[k].toNat : Nat) : Int) = o[k] by omega] at hpos
        by_cases e2 : o[k] ∈ o.take k
        · rw [if_pos e2]
          refine ⟨fun _ => ?_, fun h => by omega⟩
          rw [DL32_1_succ]
          unfold DF32_1
          rw [dlt_t hlt, cond_true, idx_nat hlt, Option.bind_some, decide_eq_false (show ¬ o[k] < 0 by omega), decide_eq_false (show ¬ o[k] ≥ (ps.length : Int) by omega)]
          simp only [beq_self_eq_true, cond_true, Option.bind_some, cond_false]
          rw [hin, cond_true, hix, Option.bind_some, decide_eq_true (show A[o[k].toNat] ≥ 0 from hpos.2 e2), cond_true]
        · rw [if_neg e2]
          have hgn : A.getD o[k].toNat 0 = -1 := by
            rw [List.getD_eq_getElem?_getD, List.getElem?_eq_getElem hAk, Option.getD_some]
            exact hF.rd.no _ hAk (fun h => e2 (hpos.1 h))
          rw [fit_step N hN1 hj hlt (by omega) e1 hA hgn (by omega) hF.lr m]
          have hF2 := hF.step hj e1 e2
          have hl2 : (fst1 sz ps (A, L) o[k]).2.length ≤ k + 1 := by
            have hul := up_len (sz := sz) (pc ps o[k]) (ffp_le (pc ps o[k]) L)
            have hfl := ffp_le (pc ps o[k]) L
            simp only [fst1]
            omega
          rw [← take_snoc hlt] at hF2
          have ih := pfit_loop hj hol m (k + 1) _ _ _ (by omega) (by omega) hl2 hF2
          rw [drop_cons hlt]
          exact ih
      · rw [if_pos e1]
        refine ⟨fun _ => ?_, fun h => by omega⟩
        rw [DL32_1_succ]
        unfold DF32_1
        rw [dlt_t hlt, cond_true, idx_nat hlt, Option.bind_some]
        by_cases e3 : o[k] < 0
        · rw [decide_eq_true e3]
          simp only [show (true == false) = false from rfl, cond_false, Option.bind_some, cond_true]
        · rw [decide_eq_false e3, decide_eq_true (show o[k] ≥ (ps.length : Int) by omega)]
          simp only [beq_self_eq_true, cond_true, Option.bind_some]
    · have hk2 : k = o.length := by omega
      subst hk2
      rw [List.drop_length]
      refine ⟨fun h => absurd rfl h, fun _ => ?_⟩
      rw [List.take_length] at hF
      refine ⟨A, L, hF, ?_⟩
      rw [DL32_1_succ]
      unfold DF32_1
      rw [dlt_f hlt, cond_false, tid_eq hN1 A (by omega), Option.bind_some]
theorem oe_all {P : Nat} : ∀ (r met : List Int), oe P met r = 0 → ∀ x ∈ r, 0 ≤ x ∧ x < P
  | [], _, _, x, hx => by cases hx
  | y :: r, met, h, x, hx => by
    unfold oe at h
    split at h
    · omega
    · rename_i h1
      split at h
      · omega
      · rcases List.mem_cons.1 hx with e | hx
        · rw [e]; simpa using h1
        · exact oe_all r _ h x hx
theorem rfit_err (m : Nat) (sz : Int) (ps o : List Int) {e : Int} (he : e ≠ 0) (k : Int) : DL33_1 N (m + 1) sz ps o e k = some ([], e) := by
  rw [DL33_1_succ]
  unfold DF33_1
  rw [show (e == 0) = false from beq_false_of_ne he, show (e != 0) = true by simpa using he]
  cases decide (k < (o.length : Int)) <;> simp
theorem rfit_loop {sz : Int} {ps o : List Int} (h8 : ps.length ≤ 8) (hol : o.length ≤ 8) : ∀ (m k : Nat), k ≤ o.length → o.length - k + 1 < m →
    DL33_1 N m sz ps o 0 (k : Int) = if oe ps.length (o.take k) (o.drop k) ≠ 0 then some ([], oe ps.length (o.take k) (o.drop k)) else (D81 N sz ps o).bind fun r8' => some (r8', 0)
  | 0, k, _, h => by omega
  | 1, k, _, h => by omega
  | m + 2, k, hk, h => by
    rw [DL33_1_succ]
    unfold DF33_1
    by_cases hlt : k < o.length
    · rw [oe_step hlt, dlt_t hlt]
      simp only [beq_self_eq_true, cond_true, Option.bind_some]
      rw [idx_nat hlt, Option.bind_some, in_eq, Option.bind_some, wr_ok (x := (ps.length : Int) - 1) (by omega) (by omega)]
      unfold DL33_2
      rw [wr_succ (by omega)]
      by_cases e1 : 0 ≤ o[k] ∧ o[k] < ps.length
      · rw [decide_eq_true (show 0 ≤ o[k] ∧ o[k] ≤ (ps.length : Int) - 1 by omega)]
        simp only [Bool.not_true, cond_false]
        rw [bounds_hi (by omega), cond_true, Option.bind_some, Int.toNat_natCast, has_eq hN1 _ _ (by simp; omega), Option.bind_some]
        rw [if_neg (c := ¬ (0 ≤ o[k] ∧ o[k] < (ps.length : Int))) (by simpa using e1)]
        by_cases e2 : o[k] ∈ o.take k
        · rw [decide_eq_true e2, cond_true, rfit_err m sz ps o (by omega), if_pos e2, if_pos (by omega)]
        · rw [decide_eq_false e2, cond_false, if_neg e2]
          exact rfit_loop h8 hol (m + 1) (k + 1) (by omega) (by omega)
      · rw [decide_eq_false (show ¬ (0 ≤ o[k] ∧ o[k] ≤ (ps.length : Int) - 1) by omega)]
        simp only [Bool.not_false, cond_true]
        rw [rfit_err m sz ps o (by omega), if_pos (c := ¬ (0 ≤ o[k] ∧ o[k] < (ps.length : Int))) e1, if_pos (by omega)]
    · have hk2 : k = o.length := by omega
      subst hk2
      rw [dlt_f hlt, List.drop_length, if_neg (c := oe ps.length (o.take o.length) [] ≠ 0) (fun h => h rfl)]
      simp only [show (false == true) = false from rfl, cond_false, Option.bind_some, bne_self_eq_false]
theorem fits_same (sz : Int) (ps o : List Int) : ∃ r : List Int × Int, D32 N sz ps o = some r ∧ D33 N sz ps o = some r ∧ r.1.length ≤ 8 := by
  unfold D32 D33
  rw [Check_eq hN1, rCheck_eq hN1, Option.bind_some, Option.bind_some]
  by_cases h : chk sz ps = 0
  · have hj := chk_job.1 h
    have h8 := hj.len
    rw [h]
    simp only [bne_self_eq_false, cond_false, beq_self_eq_true, cond_true, Option.bind_some]
    by_cases hl : o.length = ps.length
    · rw [show ((o.length : Int) != (ps.length : Int)) = false by simp [hl], cond_false, cond_false, rep_eq _ hj.len, Option.bind_some]
      have h1 := pfit_loop hj (o := o) (by omega) N.1 0 [] (List.replicate ps.length (-1)) [] (by omega) (by have : N.1 = 1000000 := rfl; omega) (by simp) (by rw [List.take_zero]; exact FG.start sz ps)
      have h2 := rfit_loop (sz := sz) h8 (o := o) (by omega) N.1 0 (by omega) (by have : N.1 = 1000000 := rfl; omega)
      rw [show ((0 : Nat) : Int) = 0 from rfl] at h1 h2
      rw [List.take_zero, List.drop_zero] at h1 h2
      by_cases c : oe ps.length [] o = 0
      · obtain ⟨A', L', hF, e⟩ := h1.2 c
        refine ⟨_, e, ?_, by rw [tid_len, hF.rd.len]; exact h8⟩
        rw [h2, if_neg (fun h => h c)]
        obtain ⟨g1, g2⟩ := gfit_all sz ps o []
        have hfull : ∀ i (h : i < A'.length), 0 ≤ A'[i] := fun i hi => by
          have h9 := hF.rd.full
          have hno : -1 ∉ A' := fun hm => (h9.1 hm) hl
          by_cases hh : 0 ≤ A'[i]
          · exact hh
          · exact absurd (by rw [← hF.rd.no i hi hh]; exact List.getElem_mem hi) hno
        have hz : gall [] = 0 := rfl
        have htg := tg_loop N hN1 ps (gs := gfit sz ps o []) (by simp at g2; omega) (fun l hl2 => by
          obtain ⟨s, hs, e⟩ := List.getElem_of_mem hl2
          have := gall_row hs
          rw [e] at this
          omega) hF.rd h8 hfull N.1 0 (by omega) (by have : N.1 = 1000000 := rfl; have := hF.rd.len; omega)
        rw [List.take_zero] at htg
        have hD : D74 N ps (gfit sz ps o []) = some (tid [] A') := htg
        unfold D81 HF81
        have hok := oe_all o [] c
        rw [decide_eq_true (show ps.length ≤ 1000000 by omega), decide_eq_true (show o.length ≤ 1000 by omega)]
        rw [show (ps.all fun p => decide (0 ≤ p) && decide (p ≤ 1000000)) = true from List.all_eq_true.2 fun p hp => by have := hj.ok p hp; have := hj.hi; simp; omega]
        rw [show (o.all fun i => decide (0 ≤ i) && decide (i < (ps.length : Int))) = true from List.all_eq_true.2 fun i hi => by have := hok i hi; simp; omega]
        simp only [Bool.and_self, cond_true]
        rw [hD, Option.bind_some]
      · exact ⟨_, h1.1 c, by rw [h2, if_pos c], by simp⟩
    · rw [show ((o.length : Int) != (ps.length : Int)) = true by simpa using fun h => hl (by omega), cond_true, cond_true]
      exact ⟨_, rfl, rfit_err _ sz ps o (by omega) 0, by simp⟩
  · rw [show (chk sz ps != 0) = true by simpa using h, cond_true, show (chk sz ps == 0) = false from beq_false_of_ne h]
    simp only [show (false == true) = false from rfl, cond_false, Option.bind_some]
    exact ⟨_, rfl, rfit_err _ sz ps o h 0, by simp⟩
theorem fits_ok (sz : Int) (ps o : List Int) : S4 N sz ps o = some true := by
  rw [S4_D N rfl]
  unfold D4
  by_cases h1 : 40 < ps.length
  · rw [decide_eq_true (show (ps.length : Int) > 40 by omega)]
    simp only [show (true == false) = false from rfl, cond_false, Option.bind_some, cond_true, works_eq]
  · rw [decide_eq_false (show ¬ (ps.length : Int) > 40 by omega)]
    simp only [beq_self_eq_true, cond_true, Option.bind_some]
    by_cases h2 : 40 < o.length
    · rw [decide_eq_true (show (o.length : Int) > 40 by omega)]
      simp only [cond_true, works_eq, Option.bind_some]
    · obtain ⟨r, e1, e2, e3⟩ := fits_same sz ps o
      rw [decide_eq_false (show ¬ (o.length : Int) > 40 by omega), cond_false, Fall_eq hN1, Option.bind_some, rFall_eq, Option.bind_some, e1, Option.bind_some, e2, Option.bind_some]
      have hfl : (if chk sz ps ≠ 0 then (([] : List Int), chk sz ps) else (fal ps, 0)).1.length < 900 := by
        split
        · simp
        · rw [fal_len]; omega
      rw [same_eq hN1 hfl, Option.bind_some, decide_eq_true rfl]
      simp only [beq_self_eq_true, cond_true, Option.bind_some]
      rw [same_eq hN1 (by omega), Option.bind_some, decide_eq_true rfl]
      simp only [beq_self_eq_true, cond_true, Option.bind_some, works_eq]
end Go.Proofs.YtgmonagekfjnmaaDoor
