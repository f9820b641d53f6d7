/-
  Vi: regions: what the interpreter says of a region comes true.
-/
import Derived.Test.YtombednapelokaaViI
set_option linter.unusedVariables false
set_option linter.unusedSimpArgs false
namespace Go.Vi
open Op

/-- One state knows no more than the other. -/
structure Sub (st st' : St) : Prop where
  len : st.tm.length = st'.tm.length
  tm : ∀ (t : Nat) (v : V), st.tm[t]? = some v → v = .undef ∨ st'.tm[t]? = some v
  hp : ∀ (t : Nat) (v : V), st.tm[t]? = some v → ∀ k, refs k v = true → st'.hp k = st.hp k
  pin : ∀ k, pinLo ≤ k → st'.hp k = st.hp k

theorem Sub.refl (st : St) : Sub st st := ⟨rfl, fun _ _ h => .inr h, fun _ _ _ _ _ => rfl, fun _ _ => rfl⟩

section
variable {P : Program} {E : Env} {all : List Oper} {o p q : Oper} {x : Cx} {γ γ' : Gam} {w : World} {a : Act} {st st' s1 s2 : St} {v vp vq : V} {obs obsp obsq : List (Nat × O)}
variable {ops : Array Oper} {Q : Exit → Act → World → Prop} {H H' : Heap}

theorem VR1.keyr {A : Nat → Prop} : ∀ (y : V) (u : Value), (∀ k, refs1 k y = true → γ' k = γ k ∧ H' k = H k) → VR1 γ w A H y u → VR1 γ' w A H' y u := by
  intro y u hk h
  cases y with
  | ptr k off =>
    obtain ⟨b, c, h1, h2⟩ := h
    exact ⟨b, c, (hk k (Nat.beq_refl k)).1.trans h1, h2⟩
  | own k win t =>
    obtain ⟨i, e, xs, nilE, h1, h2, h3⟩ := h
    exact ⟨i, e, xs, nilE, (hk k (Nat.beq_refl k)).1.trans h1, (hk k (Nat.beq_refl k)).2.trans h2, h3⟩
  | eptr k win i off =>
    obtain ⟨b, c, e, xs, nilE, h1, h2, h3⟩ := h
    exact ⟨b, c, e, xs, nilE, (hk k (Nat.beq_refl k)).1.trans h1, (hk k (Nat.beq_refl k)).2.trans h2, h3⟩
  | aptr k off n e i =>
    obtain ⟨b, c, h1, h2⟩ := h
    exact ⟨b, c, (hk k (Nat.beq_refl k)).1.trans h1, h2⟩
  | map k =>
    obtain ⟨b, c, h1, h2⟩ := h
    exact ⟨b, c, (hk k (Nat.beq_refl k)).1.trans h1, h2⟩
  | undef => trivial
  | c y => exact h
  | agg cs => exact h
  | iptr cs => exact h
  | tup vs => exact h
  | fn f vs => exact h

theorem All2.keyr {A : Nat → Prop} : ∀ {xs : List V} {vs : List Value}, (∀ k, refsAny k xs = true → γ' k = γ k ∧ H' k = H k) → All2 (VR1 γ w A H) xs vs → All2 (VR1 γ' w A H') xs vs
  | [], [], _, _ => trivial
  | y :: xs, v :: vs, hr, h => ⟨VR1.keyr y v (fun k hk => hr k (by simp [refsAny, hk])) h.1, All2.keyr (fun k hk => hr k (by simp [refsAny, hk])) h.2⟩
  | [], _ :: _, _, h => h.elim
  | _ :: _, [], _, h => h.elim

theorem VR.keyr {A : Nat → Prop} (y : V) (u : Value) (hk : ∀ k, refs k y = true → γ' k = γ k ∧ H' k = H k) (h : VR γ w A H y u) : VR γ' w A H' y u := by
  cases y with
  | tup vs => obtain ⟨us, h1, h2⟩ := h; exact ⟨us, h1, h2.keyr hk⟩
  | fn f vs => obtain ⟨us, h1, h2⟩ := h; exact ⟨us, h1, h2.keyr hk⟩
  | undef => trivial
  | c y => exact h
  | agg cs => exact h
  | iptr cs => exact h
  | ptr k off => exact VR1.keyr (w := w) (A := A) (.ptr k off) u hk h
  | own k win t => exact VR1.keyr (w := w) (A := A) (.own k win t) u hk h
  | eptr k win i off => exact VR1.keyr (w := w) (A := A) (.eptr k win i off) u hk h
  | aptr k off n e i => exact VR1.keyr (w := w) (A := A) (.aptr k off n e i) u hk h
  | map k => exact VR1.keyr (w := w) (A := A) (.map k) u hk h

/-- What knows less is true as well. -/
theorem RS.sub (hr : RS x γ st' a w) (h : Sub st st') : ∃ γ', RS x γ' st a w := by
  refine Classical.byCases (p := True) (fun _ => ?_) (fun h => absurd trivial h)
  let γ' : Gam := fun k => open Classical in if (∃ (t : Nat) (v : V), st.tm[t]? = some v ∧ refs k v = true) ∨ pinLo ≤ k then γ k else none
  have hsub : ∀ k i, γ' k = some i → γ k = some i ∧ st'.hp k = st.hp k := by
    intro k i hk
    simp only [γ'] at hk
    split at hk
    · rename_i hex
      rcases hex with ⟨t, v, hv, hr⟩ | hlo
      · exact ⟨hk, h.hp t v hv k hr⟩
      · exact ⟨hk, h.pin k hlo⟩
    · cases hk
  have hav : ∀ b, Av x γ w b → Av x γ' w b ∧ w.heap[b]? = w.heap[b]? := fun b hb => Av.del (fun k i hk => ⟨k, (hsub k i hk).1⟩) b hb
  refine ⟨γ', ⟨⟨hr.inv.size, hr.inv.os, hr.inv.tape, hr.inv.output, hr.inv.blk, ?_, ?_, ?_, ?pin⟩, ?_, ?_, hr.nod⟩⟩
  case pin =>
    intro k i hp hH
    have hlo := x.pinlo k i hp
    simp only [γ']
    rw [if_pos (.inr hlo)]
    exact hr.inv.pin k i hp (by rw [h.pin k hlo]; exact hH)
  · intro k i hk
    obtain ⟨h1, h2⟩ := hsub k i hk
    obtain ⟨ob, h3, h4⟩ := hr.inv.own k i h1
    exact ⟨ob, by rw [← h2]; exact h3, objR.mono hav ob i (fun _ _ _ => rfl) h4⟩
  · intro k b c hk
    exact hr.inv.rng k b c (hsub k _ hk).1
  · intro k k' b c c' hk hk'
    exact hr.inv.inj k k' b c c' (hsub k _ hk).1 (hsub k' _ hk').1
  · rw [h.len]; exact hr.len
  · intro t v hv
    rcases h.tm t v hv with rfl | hv'
    · trivial
    · refine VR.keyr v _ (fun k hk => ⟨?_, (h.hp t v hv k hk).symm⟩) (VR.mono hav v _ (hr.tm t v hv'))
      simp only [γ']
      rw [if_pos (.inl ⟨t, v, hv, hk⟩)]

theorem Sub.opV (h : Sub st st') {y : Operand} {v : V} (hv : opV st y = some v) (hu : v ≠ .undef) : opV st' y = some v := by
  cases y with
  | tmp t => exact (h.tm t v hv).resolve_left hu
  | _ => exact hv

theorem updAll_eq {H H' : Heap} {obs : List (Nat × O)} {k : Nat} (h : H' k = H k ∨ ∃ p ∈ obs, p.1 = k) : updAll H' obs k = updAll H obs k := by
  rw [updAll_get H', updAll_get H]
  cases hb : updAll emp obs k with
  | some ob => rfl
  | none =>
    rcases h with h | ⟨p, hp, he⟩
    · exact h
    · exfalso
      have key : ∀ (obs : List (Nat × O)), p ∈ obs → updAll emp obs k ≠ none := by
        intro obs
        induction obs with
        | nil => intro h; cases h
        | cons a r ih =>
          intro h
          obtain ⟨k', ob⟩ := a
          simp only [updAll, upd]
          cases hkk : Nat.beq k k' with
          | true => simp
          | false =>
            simp only [cond_false]
            rcases List.mem_cons.1 h with rfl | h
            · simp only at he
              subst he
              rw [Nat.beq_refl] at hkk
              cases hkk
            · exact ih h
      exact key obs hp hb

theorem FRun.append : ∀ {l1 : List Oper} {l2 : List Oper} {st : St}, FRun E all l1 st s1 → FRun E all l2 s1 st' → FRun E all (l1 ++ l2) st st'
  | [], l2, st, h1, h2 => by
    have h1 : st = s1 := h1
    subst h1
    exact h2
  | o :: l1, l2, st, ⟨s, h, h1⟩, h2 => ⟨s, h, FRun.append h1 h2⟩

theorem noEff_mem {l : List Oper} (h : noEff E all l = true) : ∀ o ∈ l, isEff E all o = false := by
  intro o ho
  have := List.all_eq_true.1 h o ho
  simpa using this

theorem FStep.frame (h : FStep E all o st st') (he : isEff E all o = false) : st'.tm.length = st.tm.length ∧ (∀ t : Nat, o.dst ≠ some t → st'.tm[t]? = st.tm[t]?) ∧ ∀ k, (isMove o = false → o.dst ≠ none → ¬ isKey o k) → (isEff E all o = false → o.dst ≠ none) → st'.hp k = st.hp k := by
  cases h with
  | eff hw he' hf => rw [he] at he'; cases he'
  | loc hl =>
    refine ⟨put_len _ _ _, fun t ht => set_ne ht, fun k hk hd => ?_⟩
    exact updAll_no _ _ _ fun p hp e => hk (hl.maker (ne_nil_of_mem hp)) (hd he) (e ▸ hl.keys p hp)

theorem FRun.pins : ∀ {os : List Oper} {st : St}, FRun E all os st st' → (∀ o ∈ os, isEff E all o = false) → ∀ k, pinLo ≤ k → st'.hp k = st.hp k
  | [], st, h, _, k, _ => by
    have h : st = st' := h
    subst h
    rfl
  | o :: os, st, ⟨s, h, hr⟩, he, k, hk => by
    rw [FRun.pins hr (fun q hq => he q (by simp [hq])) k hk]
    cases h with
    | eff hw he' hf => rw [he o (by simp)] at he'; cases he'
    | loc hl =>
      refine updAll_no _ _ _ fun p hp e => ?_
      have := hl.lo p hp
      omega

theorem FRun.frame : ∀ {os : List Oper} {st : St}, FRun E all os st st' → (∀ o ∈ os, isEff E all o = false) → st'.tm.length = st.tm.length ∧ (∀ t : Nat, t ∉ dstsOf os → st'.tm[t]? = st.tm[t]?) ∧
    ∀ k, (∀ o ∈ os, isMove o = false → o.dst ≠ none → ¬ isKey o k) → (∀ o ∈ os, isEff E all o = false → o.dst ≠ none) → st'.hp k = st.hp k
  | [], st, h, _ => by
    have h : st = st' := h
    subst h
    exact ⟨rfl, fun _ _ => rfl, fun _ _ _ => rfl⟩
  | o :: os, st, ⟨s, h, hr⟩, he => by
    obtain ⟨a1, a2, a3⟩ := h.frame (he o (by simp))
    obtain ⟨b1, b2, b3⟩ := FRun.frame hr fun q hq => he q (by simp [hq])
    refine ⟨b1.trans a1, fun t ht => ?_, fun k hk hd => ?_⟩
    · have h1 : t ∉ dstsOf os := fun hm => by
        obtain ⟨q, hq, hqd⟩ := mem_dstsOf.1 hm
        exact ht (mem_dstsOf.2 ⟨q, by simp [hq], hqd⟩)
      have h2 : o.dst ≠ some t := fun hd => ht (mem_dstsOf.2 ⟨o, by simp, hd⟩)
      rw [b2 t h1, a2 t h2]
    · rw [b3 k (fun q hq => hk q (by simp [hq])) (fun q hq => hd q (by simp [hq])), a3 k (hk o (by simp)) (hd o (by simp))]

theorem FRun.fresh : ∀ {os : List Oper} {os2 : List Oper} {st : St}, FRun E all os st st' → Fresh st (os ++ os2) → Ssa E all (os ++ os2) → Fresh st' os2
  | [], os2, st, h, hf, _ => by
    have h : st = st' := h
    subst h
    exact hf
  | o :: os, os2, st, ⟨s, h, hr⟩, hf, hs => by
    have hs' : Ssa E all (o :: (os ++ os2)) := hs
    obtain ⟨ht, hd⟩ := hs'.tail
    exact FRun.fresh hr (h.fresh (hf.sub fun q hq => by simp only [List.cons_append, List.mem_cons]; exact .inr hq) (fun d hd' => (hd d hd').1) ht.lt fun d hd' => (hd d hd').2) ht

theorem Ssa.append {l1 l2 : List Oper} (h : Ssa E all (l1 ++ l2)) : Ssa E all l1 ∧ Ssa E all l2 ∧ ∀ d ∈ dstsOf l1, d ∉ dstsOf l2 := by
  have e : dstsOf (l1 ++ l2) = dstsOf l1 ++ dstsOf l2 := by unfold dstsOf; rw [List.filterMap_append]
  have hnd := h.nd
  rw [e, List.nodup_append] at hnd
  refine ⟨⟨hnd.1, fun d hd => h.lt d (by rw [e]; simp [hd]), fun o ho => h.has o (by simp [ho])⟩, ⟨hnd.2.1, fun d hd => h.lt d (by rw [e]; simp [hd]), fun o ho => h.has o (by simp [ho])⟩, fun d h1 h2 => hnd.2.2 d h1 d h2 rfl⟩

/-- A run behind a guard that does not want it. -/
theorem skipRun {j tj : Nat} {want c : Bool} (htj : (all[j]?).bind (·.dst) = some tj) (hc : (c == want) = false) : ∀ (grp : List Oper) (seen : List Nat) {st : St}, nest all j want seen grp = true → st.tm[tj]? = some (.c (.bool c)) →
    (∀ t ∈ seen, st.tm[t]? = some (.tup []) ∨ st.tm[t]? = none) → tj ∉ dstsOf grp → (∀ t ∈ seen, t ∉ dstsOf grp) → (dstsOf grp).Nodup → ∃ s, FRun E all grp st s ∧ (∀ t : Nat, t ∉ dstsOf grp → s.tm[t]? = st.tm[t]?) ∧ s.hp = st.hp ∧ s.tm.length = st.tm.length
  | [], seen, st, _, _, _, _, _, _ => ⟨st, rfl, fun _ _ => rfl, rfl, rfl⟩
  | o :: grp, seen, st, hn, ht, hs, htg, hsd, hnd => by
    simp only [nest, Bool.and_eq_true] at hn
    obtain ⟨hg, hn⟩ := hn
    cases hd : o.dst with
    | none => rw [hd] at hn; cases hn
    | some d =>
      rw [hd] at hn
      simp only at hn
      have e : dstsOf (o :: grp) = d :: dstsOf grp := by unfold dstsOf; rw [List.filterMap_cons, hd]
      rw [e] at htg hsd hnd
      simp only [List.mem_cons, not_or] at htg
      obtain ⟨hnd1, hnd2⟩ := List.nodup_cons.1 hnd
      have hw : wantV all o st = some false := by
        unfold wantV
        cases hgd : o.guard with
        | none => rw [hgd] at hg; cases hg
        | some g =>
          obtain ⟨j', w'⟩ := g
          rw [hgd] at hg
          simp only [Bool.or_eq_true, Bool.and_eq_true] at hg
          simp only
          rcases hg with ⟨h1, h2⟩ | h1
          · have h1 := Nat.eq_of_beq_eq_true h1
            have h2 : w' = want := by cases w' <;> cases want <;> first | rfl | cases h2
            subst h1 h2
            rw [htj]
            simp only [ht]
            exact congrArg some hc
          · cases hj' : (all[j']?).bind (·.dst) with
            | none => rw [hj'] at h1; cases h1
            | some t =>
              rw [hj'] at h1
              simp only at h1 ⊢
              rcases hs t (mem_memN.1 h1) with h2 | h2 <;> rw [h2]
      have hstep : FStep E all o st (nxt st o (.tup []) []) := .loc (.skip hw)
      have hget : ∀ t : Nat, t ≠ d → (nxt st o (.tup []) []).tm[t]? = st.tm[t]? := fun t hne => set_ne (by rw [hd]; intro e; cases e; exact hne rfl)
      obtain ⟨s, h1, h2, h3, h4⟩ := skipRun htj hc grp (d :: seen) (st := nxt st o (.tup []) []) hn (by rw [hget tj htg.1]; exact ht) (fun t hm => by
        by_cases htd : t = d
        · subst htd
          simp only [nxt, hd, put, List.getElem?_set]
          by_cases hl : t < st.tm.length <;> simp [hl]
        · rw [hget t htd]
          exact hs t ((List.mem_cons.1 hm).resolve_left htd)) htg.2 (fun t hm => by
        rcases List.mem_cons.1 hm with rfl | hm
        · exact hnd1
        · exact fun hx => hsd t hm (by simp [hx])) hnd2
      refine ⟨s, ⟨_, hstep, h1⟩, fun t hn => ?_, h3, h4.trans (put_len _ _ _)⟩
      rw [e] at hn
      simp only [List.mem_cons, not_or] at hn
      rw [h2 t hn.2, hget t hn.1]

theorem undefs_get : ∀ (l : List Oper) (tm : List V) (t : Nat), (undefs tm l)[t]? = if t ∈ dstsOf l then (tm[t]?).map fun _ => .undef else tm[t]?
  | [], tm, t => by simp [undefs, dstsOf]
  | o :: l, tm, t => by
    simp only [undefs]
    rw [undefs_get l]
    cases hd : o.dst with
    | none =>
      have e : dstsOf (o :: l) = dstsOf l := by unfold dstsOf; rw [List.filterMap_cons, hd]
      rw [e]
    | some d =>
      have e : dstsOf (o :: l) = d :: dstsOf l := by unfold dstsOf; rw [List.filterMap_cons, hd]
      rw [e]
      simp only [List.getElem?_set, List.mem_cons]
      by_cases h1 : t = d
      · subst h1
        by_cases h2 : t < tm.length
        · simp [h2]
        · simp [h2]
      · have : ¬ d = t := fun h => h1 h.symm
        simp [h1, this]

theorem undefs_len : ∀ (l : List Oper) (tm : List V), (undefs tm l).length = tm.length
  | [], _ => rfl
  | o :: l, tm => by
    simp only [undefs]
    rw [undefs_len l]
    cases o.dst <;> simp

theorem put_self {d : Nat} (h : d < st.tm.length) (v : V) : (put st (some d) v).tm[d]? = some v := by simp [put, h]

theorem getB_some {y : Operand} {b : Bool} (h : getB st y = some b) : opV st y = some (.c (.bool b)) := by
  unfold getB at h
  split at h
  · rename_i b' hb
    cases h
    exact hb
  · cases h

/-- What is known of the guard that one goes by. -/
def CtxOK (all os : List Oper) (ctx : Option (Nat × Bool)) (st : St) : Prop :=
  ∀ j want, ctx = some (j, want) → ∃ t, (all[j]?).bind (·.dst) = some t ∧ st.tm[t]? = some (.c (.bool want)) ∧ t ∉ dstsOf os

theorem CtxOK.want {os : List Oper} {ctx : Option (Nat × Bool)} (h : CtxOK all os ctx st) (hg : guardIs ctx o = true) : wantV all o st = some true := by
  have hg : o.guard = ctx := by simpa [guardIs] using hg
  unfold wantV
  rw [hg]
  cases ctx with
  | none => rfl
  | some g =>
    obtain ⟨j, want⟩ := g
    obtain ⟨t, h1, h2, h3⟩ := h j want rfl
    simp only [h1, h2]
    cases want <;> rfl

theorem mem_dsts_of {d : Nat} {l : List Oper} (ho : o ∈ l) (hd : o.dst = some d) : d ∈ dstsOf l := mem_dstsOf.2 ⟨o, ho, hd⟩

/-- The interpreter's run of a region, operation by operation. -/
theorem runOps_flat (hphi : EnvPar E) : ∀ (m : Nat) (ctx : Option (Nat × Bool)) (os : List Oper) (st st' : St) (ρ : Type) (K : St → Option ρ) (r : ρ), runOps E all ctx m os st ρ K = some r → Sub st st' → Fresh st' os → Ssa E all os →
    CtxOK all os ctx st' → (noEff E all os = true ∨ (ctx = none ∧ st = st')) → ∃ s s', K s = some r ∧ FRun E all os st' s' ∧ Sub s s' := by
  intro m
  induction m with
  | zero => intro ctx os st st' ρ K r h; cases h
  | succ m ih =>
    intro ctx os st st' ρ K r h hsub hf hs hctx hph
    cases os with
    | nil => exact ⟨st, st', h, rfl, hsub⟩
    | cons o os =>
      obtain ⟨hst, hsd⟩ := hs.tail
      rw [runOps] at h
      simp only [fTm_eq] at h
      cases hg : guardIs ctx o with
      | true =>
        rw [hg] at h
        simp only [cond_true] at h
        have hw := hctx.want (o := o) hg
        have hctx' : ∀ s : St, (∀ t : Nat, o.dst ≠ some t → s.tm[t]? = st'.tm[t]?) → CtxOK all os ctx s := by
          intro s hs' j want he
          obtain ⟨t, h1, h2, h3⟩ := hctx j want he
          refine ⟨t, h1, ?_, fun hm => h3 ?_⟩
          · rw [hs' t fun hd => h3 (mem_dsts_of (by simp) hd)]
            exact h2
          · obtain ⟨q, hq, hqd⟩ := mem_dstsOf.1 hm
            exact mem_dsts_of (by simp [hq]) hqd
        unfold evalOp at h
        simp only [fTm_eq] at h
        cases he : isEff E all o with
        | true =>
          rw [he] at h
          simp only [cond_true] at h
          rcases hph with hn | ⟨hc, rfl⟩
          · have := noEff_mem hn o (by simp)
            rw [he] at this
            cases this
          · obtain ⟨s1, h1, hf1⟩ := evalE_foot hphi h
            have hstep : FStep E all o st s1 := .eff hw he hf1
            have hfr := hstep.fresh (hf.sub fun q hq => by simp only [List.mem_cons]; exact .inr hq) (fun d hd => (hsd d hd).1) hst.lt fun d hd => (hsd d hd).2
            subst hc
            obtain ⟨s, s', a1, a2, a3⟩ := ih none os s1 s1 ρ K r h1 (Sub.refl s1) hfr hst (fun j want he => by cases he) (.inr ⟨rfl, rfl⟩)
            exact ⟨s, s', a1, ⟨s1, hstep, a2⟩, a3⟩
        | false =>
          rw [he] at h
          simp only [cond_false] at h
          obtain ⟨v, obs, hk, hfo⟩ := evalP_foot hphi.1 h
          obtain ⟨hdd, hk⟩ := cond_some hk rfl
          have hag : Agree o.op.operands.toList (opV st) (opV st') st.hp st'.hp := by
            refine ⟨fun y hy => ?_, fun y hy u hu k hr => ?_⟩
            · cases y with
              | tmp t =>
                simp only [opV]
                cases hv : st.tm[t]? with
                | none =>
                  have := List.getElem?_eq_none_iff.1 hv
                  exact List.getElem?_eq_none_iff.2 (by rw [← hsub.len]; exact this)
                | some u =>
                  exact (hsub.tm t u hv).resolve_left fun hu => hfo.dfd t hy (by rw [← hu]; exact hv)
              | _ => rfl
            · obtain ⟨t, rfl, ht⟩ := opV_tmp hu hr
              exact hsub.hp t u ht k hr
          have hev := hfo.cong _ _ hag
          obtain ⟨v', obs', hk', hfo'⟩ := evalP_foot hphi.1 hev
          cases hk'
          have hlo : ∀ p ∈ obs, p.1 < pinLo := fun p hp => (dead_spec (List.all_eq_true.1 hdd p hp)).1
          have hstep : FStep E all o st' (nxt st' o v obs) := .loc (.pure hw he hfo' hlo)
          have hsub' : Sub (nxt st o v obs) (nxt st' o v obs) := by
            refine ⟨by simp only [nxt, put_len, hsub.len], fun t u hu => ?_, fun t u hu k hr => ?_, fun k hk => updAll_eq (.inl (hsub.pin k hk))⟩
            · rcases put_get hu with ⟨hd, rfl⟩ | hu'
              · refine .inr ?_
                have hlt : t < st.tm.length := by
                  rcases Nat.lt_or_ge t st.tm.length with h1 | h1
                  · exact h1
                  · have : (nxt st o u obs).tm[t]? = none := List.getElem?_eq_none (by simp only [nxt, put_len]; exact h1)
                    rw [this] at hu
                    cases hu
                rw [nxt, hd]
                exact put_self (by rw [← hsub.len]; exact hlt) u
              · by_cases hd : o.dst = some t
                · have hlt : t < st.tm.length := (List.getElem?_eq_some_iff.1 hu').1
                  refine .inr ?_
                  have e1 : (nxt st o v obs).tm[t]? = some v := by
                    rw [nxt, hd]
                    exact put_self hlt v
                  rw [e1] at hu
                  cases hu
                  rw [nxt, hd]
                  exact put_self (by rw [← hsub.len]; exact hlt) v
                · rcases hsub.tm t u hu' with h1 | h1
                  · exact .inl h1
                  · refine .inr ?_
                    have e1 : (nxt st' o v obs).tm[t]? = st'.tm[t]? := set_ne hd
                    rw [e1]
                    exact h1
            · refine updAll_eq ?_
              rcases put_get hu with ⟨hd, rfl⟩ | hu'
              · rcases hfo.prov k hr with ⟨y, hy, u', hu', hr'⟩ | h1
                · obtain ⟨t', rfl, ht'⟩ := opV_tmp hu' hr'
                  exact .inl (hsub.hp t' u' ht' k hr')
                · exact .inr h1
              · exact .inl (hsub.hp t u hu' k hr)
          have hfr := hstep.fresh (hf.sub fun q hq => by simp only [List.mem_cons]; exact .inr hq) (fun d hd => (hsd d hd).1) hst.lt fun d hd => (hsd d hd).2
          have hph' : noEff E all os = true ∨ (ctx = none ∧ nxt st o v obs = nxt st' o v obs) := by
            rcases hph with hn | ⟨hc, rfl⟩
            · unfold noEff at hn
              simp only [List.all_cons, Bool.and_eq_true] at hn
              exact .inl hn.2
            · exact .inr ⟨hc, rfl⟩
          obtain ⟨s, s', a1, a2, a3⟩ := ih ctx os (nxt st o v obs) (nxt st' o v obs) ρ K r hk hsub' hfr hst (hctx' _ fun t ht => set_ne ht) hph'
          exact ⟨s, s', a1, ⟨_, hstep, a2⟩, a3⟩
      | false =>
        rw [hg] at h
        simp only [cond_false] at h
        cases hgd : o.guard with
        | none => rw [hgd] at h; cases h
        | some g =>
          obtain ⟨j, want⟩ := g
          rw [hgd] at h
          simp only at h
          split at h
          case h_2 => cases h
          rename_i p rest tj hdw htj
          split at h
          case h_2 => cases h
          rename_i c a b cc hop hgb
          obtain ⟨hgrp, h⟩ := cond_some h rfl
          obtain ⟨b', hb', h⟩ := Option.bind_eq_some_iff.1 h
          generalize hgr : (o :: os).takeWhile (fun p => !guardIs ctx p) = grp at hgrp hb' h
          have hos : o :: os = grp ++ p :: rest := by rw [← hgr, ← hdw, List.takeWhile_append_dropWhile]
          simp only [grpOK, Bool.and_eq_true] at hgrp
          obtain ⟨⟨⟨⟨⟨g1, g2⟩, g3⟩, g4⟩, g5⟩, g6⟩ := hgrp
          have hgp : guardIs ctx p = true := by
            have := List.head?_dropWhile_not (fun p => !guardIs ctx p) (o :: os)
            rw [hdw] at this
            simpa using this
          have hcc : c = .tmp tj := by
            cases c with
            | tmp t => rw [Nat.eq_of_beq_eq_true g1]
            | _ => cases g1
          rw [hos] at hs hf hctx
          obtain ⟨hs1, hs2, hs12⟩ := hs.append
          obtain ⟨hs3, hsp⟩ := hs2.tail
          have hcB := getB_some hgb
          have hcB' : st'.tm[tj]? = some (.c (.bool cc)) := hsub.opV hcB (by intro e; cases e)
          have htjn : tj ∉ dstsOf grp := fun hm => by rw [mem_memN.2 hm] at g3; cases g3
          have hpd : p.dst ≠ none := hs2.has p (by simp) (noEff_mem g6 p (by simp))
          have hgrE : ∀ o ∈ grp, isEff E all o = false := noEff_mem g5
          -- the run behind the guard, or what skips it
          have hrun : ∃ s2, FRun E all grp st' s2 ∧ opV s2 (bif cc then a else b) = some (.c (.bool b')) := by
            cases hw : cc == want with
            | true =>
              rw [hw] at hb'
              simp only [cond_true] at hb'
              have hwc : cc = want := by cases cc <;> cases want <;> first | rfl | cases hw
              obtain ⟨s, s', a1, a2, a3⟩ := ih (some (j, want)) grp st st' Bool _ b' hb' hsub (hf.sub fun q hq => by simp [hq]) hs1 (fun j' w' he => by
                cases he
                exact ⟨tj, htj, by rw [← hwc]; exact hcB', htjn⟩) (.inl g5)
              refine ⟨s', a2, ?_⟩
              rw [hwc]
              exact a3.opV (getB_some a1) (by intro e; cases e)
            | false =>
              rw [hw] at hb'
              simp only [cond_false] at hb'
              obtain ⟨s, h1, h2, h3, h4⟩ := skipRun (E := E) htj hw grp [] (st := st') g4 hcB' (by simp) htjn (by simp) hs1.nd
              refine ⟨s, h1, ?_⟩
              have e : (bif cc then a else b) = bif want then b else a := by cases cc <;> cases want <;> first | rfl | cases hw
              rw [e]
              have h5 := hsub.opV (getB_some hb') (by intro e; cases e)
              cases hy : (bif want then b else a) with
              | tmp t =>
                rw [hy] at h5 g2
                simp only [opV] at h5 ⊢
                rw [h2 t fun hm => by simp only [notTmps, mem_memN.2 hm] at g2; cases g2]
                exact h5
              | const v => rw [hy] at h5; exact h5
              | global g => rw [hy] at h5; exact h5
              | func f => rw [hy] at h5; exact h5
          obtain ⟨s2, hr2, hv2⟩ := hrun
          obtain ⟨f1, f2, f3⟩ := hr2.frame hgrE
          have htj2 : opV s2 c = some (.c (.bool cc)) := by
            rw [hcc]
            exact (f2 tj htjn).trans hcB'
          have hctx2 : CtxOK all (p :: rest) ctx s2 := by
            intro j' w' he
            obtain ⟨t, h1, h2, h3⟩ := hctx j' w' he
            have e : dstsOf (grp ++ p :: rest) = dstsOf grp ++ dstsOf (p :: rest) := by unfold dstsOf; rw [List.filterMap_append]
            rw [e, List.mem_append, not_or] at h3
            exact ⟨t, h1, (f2 t h3.1).trans h2, h3.2⟩
          have hstep : FStep E all p s2 (nxt s2 p (.c (.bool b')) []) := .loc (.pick (hctx2.want hgp) hop htj2 hv2 rfl)
          have hfr2 : Fresh s2 (p :: rest) := hr2.fresh hf hs
          have hfr3 := hstep.fresh (hfr2.sub fun q hq => by simp only [List.mem_cons]; exact .inr hq) (fun d hd => (hsp d hd).1) hs3.lt fun d hd => (hsp d hd).2
          cases hd : p.dst with
          | none => exact absurd hd hpd
          | some d =>
            rw [hd] at h
            simp only [dstKey] at h
            have hsub3 : Sub { st with tm := (undefs st.tm grp).set d (.c (.bool b')) } (nxt s2 p (.c (.bool b')) []) := by
              refine ⟨by simp only [nxt, put_len, List.length_set, undefs_len, f1]; exact hsub.len, fun t u hu => ?_, fun t u hu k hr => ?_, fun k hk => (hr2.pins hgrE k hk).trans (hsub.pin k hk)⟩
              · simp only [List.getElem?_set, undefs_len] at hu
                split at hu
                · rename_i htd
                  subst htd
                  split at hu
                  · rename_i hlt
                    cases hu
                    refine .inr ?_
                    rw [nxt, hd]
                    exact put_self (by rw [f1, ← hsub.len]; exact hlt) _
                  · cases hu
                · rename_i htd
                  rw [undefs_get] at hu
                  split at hu
                  · obtain ⟨_, _, rfl⟩ := Option.map_eq_some_iff.1 hu
                    exact .inl rfl
                  · rename_i htg
                    rcases hsub.tm t u hu with h1 | h1
                    · exact .inl h1
                    · refine .inr ?_
                      have e1 : (nxt s2 p (.c (.bool b')) []).tm[t]? = s2.tm[t]? := set_ne (by rw [hd]; intro e; cases e; exact htd rfl)
                      rw [e1, f2 t htg]
                      exact h1
              · have e0 : (nxt s2 p (.c (.bool b')) []).hp = s2.hp := rfl
                rw [e0]
                simp only [List.getElem?_set, undefs_len] at hu
                split at hu
                · split at hu
                  · cases hu; cases hr
                  · cases hu
                · rw [undefs_get] at hu
                  split at hu
                  · obtain ⟨_, _, rfl⟩ := Option.map_eq_some_iff.1 hu
                    cases hr
                  · rename_i htg
                    have h6 : u ≠ .undef := fun e => by rw [e] at hr; cases hr
                    have h7 := (hsub.tm t u hu).resolve_left h6
                    rw [f3 k (fun q hq hqm hqd => not_key (hf.one (by simp [hq])) hqm hqd h7 hr) (fun q hq => hs1.has q hq)]
                    exact hsub.hp t u hu k hr
            have hctx3 : CtxOK all rest ctx (nxt s2 p (.c (.bool b')) []) := by
              intro j' w' he
              obtain ⟨t, h1, h2, h3⟩ := hctx2 j' w' he
              refine ⟨t, h1, ?_, fun hm => h3 ?_⟩
              · have e1 : (nxt s2 p (.c (.bool b')) []).tm[t]? = s2.tm[t]? := set_ne fun hd' => h3 (mem_dsts_of (by simp) hd')
                rw [e1]
                exact h2
              · obtain ⟨q, hq, hqd⟩ := mem_dstsOf.1 hm
                exact mem_dsts_of (by simp [hq]) hqd
            have hn : noEff E all rest = true := by
              unfold noEff at g6
              simp only [List.all_cons, Bool.and_eq_true] at g6
              exact g6.2
            obtain ⟨s, s', a1, a2, a3⟩ := ih ctx rest _ _ ρ K r h hsub3 hfr3 hs3 hctx3 (.inl hn)
            refine ⟨s, s', a1, ?_, a3⟩
            rw [hos]
            exact hr2.append ⟨_, hstep, a2⟩

end
end Go.Vi
