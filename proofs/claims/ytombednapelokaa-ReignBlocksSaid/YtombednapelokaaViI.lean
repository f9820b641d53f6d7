/-
  Vi: regions: each step is sound; drawn orders.
-/
import Derived.Test.YtombednapelokaaViH
set_option linter.unusedVariables false
set_option linter.unusedSimpArgs false
namespace Go.Vi
open Op

section
variable {P : Program} {E : Env} {all : List Oper} {o p q : Oper} {x : Cx} {γ : Gam} {w : World} {a : Act} {st st' s1 s2 : St} {v vp vq : V} {obs obsp obsq : List (Nat × O)}
variable {ops : Array Oper} {Q : Exit → Act → World → Prop}

theorem wanted_of {b : Bool} (hr : RS x γ st a w) (h : wantV ops.toList o st = some b) : Region.wanted o (yielded ops a.tmps) = b := by
  unfold wantV at h
  unfold Region.wanted
  cases hg : o.guard with
  | none =>
    rw [hg] at h
    cases h
    rfl
  | some g =>
    obtain ⟨j, want⟩ := g
    rw [hg] at h
    simp only at h ⊢
    cases ht : (ops.toList[j]?).bind (·.dst) with
    | none => rw [ht] at h; cases h
    | some t =>
      rw [ht] at h
      simp only at h
      have hj : (ops[j]?).bind (·.dst) = some t := by rw [← ht]; simp
      cases hv : st.tm[t]? with
      | none =>
        rw [hv] at h
        cases h
        have : a.tmps[t]? = none := by
          rw [Array.getElem?_eq_none_iff, ← hr.len]
          exact List.getElem?_eq_none_iff.1 hv
        unfold yielded
        rw [hj, Option.bind_some, this]
        rfl
      | some v =>
        rw [hv] at h
        have hlt : t < a.tmps.size := by
          rw [← hr.len]
          rcases Nat.lt_or_ge t st.tm.length with h1 | h1
          · exact h1
          · rw [List.getElem?_eq_none h1] at hv
            cases hv
        have hVR := hr.tm t v hv
        have hget : a.tmps[t]? = some (a.tmps.getD t undef) := by
          simp [Array.getD, hlt]
        have hy : yielded ops a.tmps j = match a.tmps.getD t undef with | .bool b => some b | _ => none := by
          unfold yielded
          rw [hj]
          simp only [Option.bind_some, hget]
          cases a.tmps.getD t undef <;> rfl
        rw [hy]
        split at h
        · rename_i he
          cases he
        · rename_i b' he
          cases he
          have : a.tmps.getD t undef = .bool b' := hVR
          rw [this]
          cases h
          cases b' <;> cases want <;> rfl
        · rename_i he
          cases he
          obtain ⟨us, h1, h2⟩ := hVR
          have : us = [] := by
            cases us with
            | nil => rfl
            | cons u us => exact h2.elim
          subst this
          rw [h1]
          cases h
          rfl
        · cases h

theorem Fresh1.dead (hf : Fresh1 st o) (hmk : isMove o = false) (hd : o.dst ≠ none) {k : Nat} (hlo : k < pinLo) (hk : isKey o k) : dead st o.dst k = true := by
  unfold Vi.dead
  rw [show Nat.blt k pinLo = true from Nat.ble_eq_true_of_le hlo, Bool.true_and]
  cases hdd : o.dst with
  | none => exact absurd hdd hd
  | some d =>
    obtain ⟨j, rfl⟩ := isKey_dst hdd hk
    have key : ∀ (tm : List V), (∀ (t : Nat) (u : V), tm[t]? = some u → refs (d + 10000 * j) u = false) → noRef (d + 10000 * j) tm = true := by
      intro tm
      induction tm with
      | nil => intro _; rfl
      | cons y r ih =>
        intro h
        simp only [noRef, Bool.and_eq_true, Bool.not_eq_true']
        exact ⟨h 0 y (by simp), ih fun t u hu => h (t + 1) u (by simpa using hu)⟩
    refine key _ fun t u hu => ?_
    rcases put_get hu with ⟨_, rfl⟩ | hu
    · rfl
    · exact hf hmk d hdd j t u hu

/-- A step of a region, as the machine takes it. -/
theorem FStep.wp (hT : TabOK P E.T) (hE : EqsOK P E.T) (hphi : EnvOK P E) (h : FStep E ops.toList o st st') (hr : RS x γ st a w) (hf : Fresh1 st o) (hd : isEff E ops.toList o = false → o.dst ≠ none)
    {K : Act → World → Prop} (hK : ∀ γ' a' w', RS x γ' st' a' w' → K a' w') : if Region.wanted o (yielded ops a.tmps) then o.wp P a w K Q else K (a.put o.dst undef) w := by
  cases h with
  | eff hw he hfo =>
    rw [wanted_of hr hw, if_pos rfl]
    obtain ⟨s, hs, hop⟩ := evalE_eff hT hphi hfo.self hr
    cases hs
    exact OpTo.wp (hop.mono fun u w' ⟨γ', h⟩ => hK γ' _ _ h)
  | loc hl =>
    rename_i v obs
    cases hl with
    | pure hw he hfo hl =>
      rw [wanted_of hr hw, if_pos rfl]
      obtain ⟨v', obs', hk, hop⟩ := evalP_good hT hE hphi.1 hfo.self hr.inv hr.ops'
      cases hk
      refine OpTo.wp (hop.mono fun u w' hres => ?_)
      obtain ⟨γ', h⟩ := hr.step (dst := o.dst) (List.all_eq_true.2 fun p hp => hf.dead (by cases hm : isMove o with | false => rfl | true => rw [move_obs hm hfo.self] at hp; cases hp) (hd he) (hl p hp) (hfo.keys p hp)) hres
      exact hK γ' _ _ h
    | skip hw =>
      rw [wanted_of hr hw]
      have hres : Res x γ st.hp w (.tup []) [] undef w := Res.same hr.inv ⟨[], rfl, trivial⟩
      obtain ⟨γ', h⟩ := hr.step (dst := o.dst) rfl hres
      exact hK γ' _ _ h
    | pick hw ho hc hv hu =>
      rename_i c y z p
      rw [wanted_of hr hw, if_pos rfl]
      have e1 := VR_bool (hr.ops' _ _ hc)
      have hres : Res x γ st.hp w v [] (a.eval (bif p then y else z)) w := Res.same hr.inv (hr.ops' _ _ hv)
      refine OpTo.wp (.inl ⟨a.eval (bif p then y else z), w, ?_, ?_⟩)
      · simp only [execOp, ho, e1, asBool, Sem.run_bind, Sem.run_pure, Result.andThen_ok]
        cases p <;> rfl
      · obtain ⟨γ', h⟩ := hr.step (dst := o.dst) rfl hres
        exact hK γ' _ _ h

theorem FStep.wpOp (hT : TabOK P E.T) (hE : EqsOK P E.T) (hphi : EnvOK P E) {i : Nat} (hi : ops.toList[i]? = some o) (h : FStep E ops.toList o st st') (hr : RS x γ st a w) (hf : Fresh1 st o) (hd : isEff E ops.toList o = false → o.dst ≠ none)
    {K : Act → World → Prop} (hK : ∀ γ' a' w', RS x γ' st' a' w' → K a' w') : wpOp P ops Q i K a w := by
  unfold Go.wpOp
  have : ops[i]? = some o := by rw [← hi]; simp
  rw [this]
  simp only
  have h1 := FStep.wp (Q := Q) hT hE hphi h hr hf hd hK
  split
  · rename_i hw
    rw [if_pos hw] at h1
    exact .inl h1
  · rename_i hw
    rw [if_neg hw] at h1
    exact h1

/-! ### What is named and what is new stay apart -/

theorem mem_dstsOf {d : Nat} {l : List Oper} : d ∈ dstsOf l ↔ ∃ o ∈ l, o.dst = some d := by
  unfold dstsOf
  rw [List.mem_filterMap]

theorem FStep.prov (h : FStep E all o st st') : ∀ (t : Nat) (u : V), st'.tm[t]? = some u → ∀ k, refs k u = true → (∃ (t : Nat) (u : V), st.tm[t]? = some u ∧ refs k u = true) ∨ (isMove o = false ∧ o.dst ≠ none ∧ isKey o k) := by
  cases h with
  | eff hw he hf =>
    intro t u hu k hk
    rcases hf.prov.2 t u hu k hk with h | h
    · exact .inl h
    · refine .inr ⟨?_, h⟩
      cases hm : isMove o with
      | false => rfl
      | true => rw [move_eff hm] at he; cases he
  | loc hl =>
    rename_i v obs
    intro t u hu k hk
    rcases put_get hu with ⟨hd, rfl⟩ | hu
    · rcases hl.prov k hk with ⟨t, _, u, hu, hr⟩ | h
      · exact .inl ⟨t, u, hu, hr⟩
      · exact .inr ⟨h.1, by rw [hd]; simp, h.2⟩
    · exact .inl ⟨t, u, hu, hk⟩

/-- A step keeps what the others are going to make unnamed. -/
theorem FStep.fresh (h : FStep E all o st st') {os : List Oper} (hf : Fresh st os) (hlt : ∀ d, o.dst = some d → d < 10000) (hlt' : ∀ d ∈ dstsOf os, d < 10000) (hnd : ∀ d, o.dst = some d → d ∉ dstsOf os) : Fresh st' os := by
  intro q hq hmk d hd j t u hu
  cases hr : refs (d + 10000 * j) u with
  | false => rfl
  | true =>
    exfalso
    rcases h.prov t u hu _ hr with ⟨t', u', hu', hr'⟩ | ⟨_, hod, j', hj'⟩
    · rw [hf q hq hmk d hd j t' u' hu'] at hr'
      cases hr'
    · cases hdd : o.dst with
      | none => exact hod hdd
      | some e =>
        rw [hdd] at hj'
        have hm : d ∈ dstsOf os := mem_dstsOf.2 ⟨q, hq, hd⟩
        have h1 : @LT.lt Nat _ e 10000 := hlt e hdd
        have h2 : @LT.lt Nat _ d 10000 := hlt' d hm
        have : @Eq Nat d e := by
          simp only [dstKey] at hj'
          omega
        subst this
        exact hnd d hdd hm

theorem Fresh.one {os : List Oper} (h : Fresh st os) (ho : o ∈ os) : Fresh1 st o := fun hm d hd j t u hu => h o ho hm d hd j t u hu

theorem Ssa.perm {l l' : List Oper} (h : Ssa E all l) (hp : List.Perm l l') : Ssa E all l' :=
  ⟨(hp.filterMap _).nodup_iff.1 h.nd, fun d hd => h.lt d ((hp.filterMap _).mem_iff.2 hd), fun o ho => h.has o (hp.mem_iff.2 ho)⟩

theorem Ssa.tail {l : List Oper} (h : Ssa E all (o :: l)) : Ssa E all l ∧ (∀ d, o.dst = some d → d < 10000 ∧ d ∉ dstsOf l) := by
  have e : dstsOf (o :: l) = (match o.dst with | some d => d :: dstsOf l | none => dstsOf l) := by
    unfold dstsOf
    rw [List.filterMap_cons]
    cases o.dst <;> rfl
  cases hd : o.dst with
  | none =>
    rw [hd] at e
    simp only at e
    exact ⟨⟨e ▸ h.nd, fun d hd => h.lt d (e ▸ hd), fun q hq => h.has q (by simp [hq])⟩, fun d hd => by cases hd⟩
  | some d =>
    rw [hd] at e
    simp only at e
    have hnd := h.nd
    rw [e] at hnd
    have hn := List.nodup_cons.1 hnd
    refine ⟨⟨hn.2, fun d hd => h.lt d (by rw [e]; simp [hd]), fun q hq => h.has q (by simp [hq])⟩, fun d' hd' => ?_⟩
    cases hd'
    exact ⟨h.lt d (by rw [e]; simp), hn.1⟩

theorem Fresh.sub {l l' : List Oper} (h : Fresh st l) (hs : ∀ o ∈ l', o ∈ l) : Fresh st l' := fun q hq => h q (hs q hq)

/-- An operation that minds none of those ahead of it may come first. -/
theorem bubble (hphi : EnvPar E) : ∀ (L1 : List Oper) {L2 : List Oper} {st : St}, FRun E all (L1 ++ o :: L2) st st' → (∀ p ∈ L1, indep E all p o = true) → Fresh st (L1 ++ o :: L2) → Ssa E all (L1 ++ o :: L2) →
    ∃ s, FStep E all o st s ∧ FRun E all (L1 ++ L2) s st'
  | [], L2, st, h, _, _, _ => h
  | p :: L1, L2, st, h, hi, hf, hs => by
    obtain ⟨s1, hp, h⟩ := h
    have hs' : Ssa E all (p :: (L1 ++ o :: L2)) := hs
    obtain ⟨ht, hpd⟩ := hs'.tail
    have hfr : Fresh s1 (L1 ++ o :: L2) := hp.fresh (hf.sub fun q hq => by simp only [List.cons_append, List.mem_cons]; exact .inr hq) (fun d hd => (hpd d hd).1) ht.lt (fun d hd => (hpd d hd).2)
    obtain ⟨s, ho, hrest⟩ := bubble hphi L1 h (fun q hq => hi q (by simp [hq])) hfr ht
    have hom : o ∈ L1 ++ o :: L2 := by simp
    obtain ⟨s', h1, h2⟩ := swap hphi (indep_spec (hi p (by simp))) (hf.one (by simp)) (hf.one (by simp)) (hs.has p (by simp)) (hs.has o (by simp)) (fun d hd => (hpd d hd).1)
      (fun d hd => ht.lt d (mem_dstsOf.2 ⟨o, hom, hd⟩)) hp ho
    exact ⟨s', h1, s, h2, hrest⟩

/-! ### The edges -/

def rowOf (o : Oper) (acc : List Nat) : Nat :=
  o.after.toList.foldl (fun s e => bif Region.binds .any e then Nat.lor s (Nat.lor (2 ^ e.on) (acc.getD e.on 0)) else s) 0

theorem bit_lor (a b i : Nat) : Nat.testBit (Nat.lor a b) i = (Nat.testBit a i || Nat.testBit b i) := Nat.testBit_or a b i

theorem rowOf_mem {o : Oper} {acc : List Nat} {b : Nat} (h : Nat.testBit (rowOf o acc) b = true) : ∃ e ∈ o.after.toList, Region.binds .any e = true ∧ (b = e.on ∨ Nat.testBit (acc.getD e.on 0) b = true) := by
  unfold rowOf at h
  have key : ∀ (l : List Edge) (s : Nat), Nat.testBit (l.foldl (fun s e => bif Region.binds .any e then Nat.lor s (Nat.lor (2 ^ e.on) (acc.getD e.on 0)) else s) s) b = true → Nat.testBit s b = true ∨ ∃ e ∈ l, Region.binds .any e = true ∧ (b = e.on ∨ Nat.testBit (acc.getD e.on 0) b = true) := by
    intro l
    induction l with
    | nil => intro s h; exact .inl h
    | cons e l ih =>
      intro s h
      simp only [List.foldl_cons] at h
      rcases ih _ h with h | ⟨e', he', h⟩
      · cases hb : Region.binds .any e with
        | true =>
          rw [hb] at h
          simp only [cond_true, bit_lor, Bool.or_eq_true] at h
          rcases h with h | h | h
          · exact .inl h
          · refine .inr ⟨e, by simp, hb, .inl ?_⟩
            rw [Nat.testBit_two_pow] at h
            exact (of_decide_eq_true h).symm
          · exact .inr ⟨e, by simp, hb, .inr h⟩
        | false =>
          rw [hb] at h
          exact .inl h
      · exact .inr ⟨e', by simp [he'], h⟩
  rcases key _ _ h with h | h
  · simp at h
  · exact h

theorem befores_spec : ∀ (l : List Oper) (acc : List Nat), ∃ res, befores l acc = acc ++ res ∧ res.length = l.length ∧
    ∀ (j : Nat) (o : Oper), l[j]? = some o → (befores l acc)[acc.length + j]? = some (rowOf o ((befores l acc).take (acc.length + j)))
  | [], acc => ⟨[], by simp [befores], rfl, by simp⟩
  | o :: l, acc => by
    obtain ⟨res, h1, h2, h3⟩ := befores_spec l (acc ++ [rowOf o acc])
    have e : befores (o :: l) acc = befores l (acc ++ [rowOf o acc]) := rfl
    refine ⟨rowOf o acc :: res, by rw [e, h1]; simp, by simp [h2], ?_⟩
    intro j o' hj
    rw [e]
    cases j with
    | zero =>
      simp at hj
      subst hj
      rw [h1]
      simp
    | succ j =>
      have := h3 j o' (by simpa using hj)
      simp only [List.length_append, List.length_cons, List.length_nil] at this
      have e2 : acc.length + (0 + 1) + j = acc.length + (j + 1) := by omega
      rw [e2] at this
      exact this

theorem befores_row {l : List Oper} {j : Nat} {o : Oper} (hj : l[j]? = some o) {b : Nat} (hb : Nat.testBit ((befores l []).getD j 0) b = true) :
    ∃ e ∈ o.after.toList, Region.binds .any e = true ∧ (b = e.on ∨ Nat.testBit ((befores l []).getD e.on 0) b = true) := by
  obtain ⟨res, h1, h2, h3⟩ := befores_spec l []
  have h := h3 j o hj
  simp only [List.length_nil, Nat.zero_add] at h
  have hb' : Nat.testBit (rowOf o ((befores l []).take j)) b = true := by
    have : (befores l []).getD j 0 = rowOf o ((befores l []).take j) := by
      simp only [List.getD, h, Option.getD_some]
    rw [← this]
    exact hb
  obtain ⟨e, he, hbn, h⟩ := rowOf_mem hb'
  refine ⟨e, he, hbn, h.imp id fun h => ?_⟩
  simp only [List.getD, List.getElem?_take] at h ⊢
  split at h
  · exact h
  · simp at h

theorem drawRows_spec {befs : List Nat} : ∀ (l : List Oper) (j : Nat), drawRows E all befs j l = true → ∀ (i : Nat) (q : Oper), l[i]? = some q → drawRow E all q (befs.getD (j + i) 0) 0 (all.take (j + i)) = true
  | [], _, _, i, q, h => by simp at h
  | o :: l, j, h, i, q, hi => by
    simp only [drawRows, Bool.and_eq_true] at h
    cases i with
    | zero =>
      simp at hi
      subst hi
      exact h.1
    | succ i =>
      have := drawRows_spec l (j + 1) h.2 i q (by simpa using hi)
      have e : j + 1 + i = j + (i + 1) := by omega
      rw [e] at this
      exact this

theorem drawRow_spec {bef : Nat} : ∀ (l : List Oper) (i0 : Nat), drawRow E all q bef i0 l = true → ∀ (i : Nat) (p : Oper), l[i]? = some p → Nat.testBit bef (i0 + i) = true ∨ indep E all p q = true
  | [], _, _, i, p, h => by simp at h
  | o :: l, i0, h, i, p, hi => by
    simp only [drawRow, Bool.and_eq_true, Bool.or_eq_true] at h
    cases i with
    | zero =>
      simp at hi
      subst hi
      rcases h.1 with h1 | h1
      · exact .inl h1
      · exact .inr h1
    | succ i =>
      have := drawRow_spec l (i0 + 1) h.2 i p (by simpa using hi)
      have e : i0 + 1 + i = i0 + (i + 1) := by omega
      rw [e] at this
      exact this

theorem backOK_spec : ∀ (l : List Oper) (j : Nat), backOK j l = true → ∀ (i : Nat) (o : Oper), l[i]? = some o → ∀ e ∈ o.after.toList, Region.binds .any e = true → e.on < j + i
  | [], _, _, i, o, h => by simp at h
  | p :: l, j, h, i, o, hi => by
    simp only [backOK, Bool.and_eq_true] at h
    cases i with
    | zero =>
      simp at hi
      subst hi
      intro e he hb
      have := List.all_eq_true.1 h.1 e he
      simp only [hb, Bool.not_true, Bool.false_or] at this
      exact Nat.le_of_ble_eq_true this
    | succ i =>
      intro e he hb
      have := backOK_spec l (j + 1) h.2 i o (by simpa using hi) e he hb
      omega

/-- Of two operations, in the order of the text: the edges order them, or they do not mind each other. -/
theorem drawOK_spec (h : drawOK E all = true) {i j : Nat} {p q : Oper} (hij : i < j) (hp : all[i]? = some p) (hq : all[j]? = some q) : Nat.testBit ((befores all []).getD j 0) i = true ∨ indep E all p q = true := by
  simp only [drawOK, Bool.and_eq_true] at h
  have h1 := drawRows_spec all 0 h.2 j q hq
  rw [Nat.zero_add] at h1
  have h2 := drawRow_spec (all.take j) 0 h1 i p (by rw [List.getElem?_take, if_pos hij]; exact hp)
  rwa [Nat.zero_add] at h2

/-! ### Drawn orders -/

def rem (listed : Array Bool) (n : Nat) : List Nat := (List.range n).filter fun i => !listed.getD i true

theorem rem_mem {listed : Array Bool} {n i : Nat} : i ∈ rem listed n ↔ i < n ∧ listed.getD i true = false := by
  unfold rem
  rw [List.mem_filter, List.mem_range, Bool.not_eq_true']

theorem rem_sorted (listed : Array Bool) (n : Nat) : (rem listed n).Pairwise (· < ·) := List.Pairwise.filter _ List.pairwise_lt_range

theorem getD_set {listed : Array Bool} {i j : Nat} (hi : i < listed.size) : (listed.setIfInBounds i true).getD j true = if j = i then true else listed.getD j true := by
  simp only [Array.getD_eq_getD_getElem?, Array.getElem?_setIfInBounds]
  by_cases h : i = j
  · subst h
    simp [hi]
  · rw [if_neg h, if_neg fun e => h e.symm]

theorem rem_set {listed : Array Bool} {n i : Nat} {L1 L2 : List Nat} (hi : i < listed.size) (h : rem listed n = L1 ++ i :: L2) : rem (listed.setIfInBounds i true) n = L1 ++ L2 := by
  have hp := rem_sorted listed n
  rw [h] at hp
  have h1 : rem (listed.setIfInBounds i true) n = (rem listed n).filter fun j => decide (j ≠ i) := by
    unfold rem
    rw [List.filter_filter]
    congr 1
    funext j
    rw [getD_set hi]
    by_cases hj : j = i
    · simp [hj]
    · simp [hj]
  rw [h1, h, List.filter_append, List.filter_cons]
  rw [List.pairwise_append] at hp
  have e1 : L1.filter (fun j => decide (j ≠ i)) = L1 := List.filter_eq_self.2 fun j hj => by
    have := hp.2.2 j hj i (by simp)
    simp
    omega
  have e2 : L2.filter (fun j => decide (j ≠ i)) = L2 := List.filter_eq_self.2 fun j hj => by
    have := (List.pairwise_cons.1 hp.2.1).1 j hj
    simp
    omega
  rw [e1, e2]
  simp

theorem fm_append (f : Nat → Option Oper) (L1 L2 : List Nat) : (L1 ++ L2).filterMap f = L1.filterMap f ++ L2.filterMap f := List.filterMap_append

/-- A region whose order is drawn. -/
theorem FRun.wpAny (hT : TabOK P E.T) (hE : EqsOK P E.T) (hphi : EnvOK P E) (hpar : EnvPar E) (hdr : drawOK E ops.toList = true) : ∀ (fuel : Nat) (listed : Array Bool) {γ : Gam} {st : St} {a : Act} {w : World},
    listed.size = ops.size → (rem listed ops.size).length = fuel → (∀ j, j < ops.size → listed.getD j true = true → ∀ b, Nat.testBit ((befores ops.toList []).getD j 0) b = true → listed.getD b true = true) →
    FRun E ops.toList ((rem listed ops.size).filterMap fun i => ops.toList[i]?) st st' → RS x γ st a w → Fresh st ((rem listed ops.size).filterMap fun i => ops.toList[i]?) →
    Ssa E ops.toList ((rem listed ops.size).filterMap fun i => ops.toList[i]?) → (∀ γ' a' w', RS x γ' st' a' w' → Q .normal a' w') → wpAny P .any ops Q fuel listed a w := by
  intro fuel
  induction fuel with
  | zero =>
    intro listed γ st a w hsz hl hcl h hr hf hs hQ
    have he : rem listed ops.size = [] := List.length_eq_zero_iff.1 hl
    rw [he] at h
    have h : st = st' := h
    subst h
    refine ⟨?_, hQ γ a w hr⟩
    cases hr : Region.ready .any ops listed with
    | nil => rfl
    | cons i l =>
      exfalso
      have hi : i ∈ Region.ready .any ops listed := by rw [hr]; simp
      unfold Region.ready at hi
      rw [List.mem_filter, Bool.and_eq_true, Bool.not_eq_true'] at hi
      have : i ∈ rem listed ops.size := rem_mem.2 ⟨List.mem_range.1 hi.1, hi.2.1⟩
      rw [he] at this
      cases this
  | succ fuel ih =>
    intro listed γ st a w hsz hl hcl h hr hf hs hQ
    refine ⟨fun hre => ?_, fun i hi => ?_⟩
    · exfalso
      cases hrem : rem listed ops.size with
      | nil => rw [hrem] at hl; cases hl
      | cons i L =>
        have hi : i ∈ rem listed ops.size := by rw [hrem]; simp
        have hi' := rem_mem.1 hi
        have hsorted := rem_sorted listed ops.size
        rw [hrem] at hsorted
        have hlow : ∀ j, j < i → listed.getD j true = true := by
          intro j hj
          cases hb : listed.getD j true with
          | true => rfl
          | false =>
            have : j ∈ rem listed ops.size := rem_mem.2 ⟨by omega, hb⟩
            rw [hrem] at this
            rcases List.mem_cons.1 this with rfl | this
            · omega
            · have := (List.pairwise_cons.1 hsorted).1 j this
              omega
        have : i ∈ Region.ready .any ops listed := by
          unfold Region.ready
          rw [List.mem_filter, Bool.and_eq_true, Bool.not_eq_true']
          refine ⟨List.mem_range.2 hi'.1, hi'.2, ?_⟩
          have hget : ops[i]? = some ops[i] := Array.getElem?_eq_getElem hi'.1
          rw [hget]
          simp only [Option.map_some, Option.getD_some]
          rw [← Array.all_toList, List.all_eq_true]
          intro e he
          cases hb : Region.binds .any e with
          | false => rfl
          | true =>
            simp only [drawOK, Bool.and_eq_true] at hdr
            have hlt := backOK_spec ops.toList 0 hdr.1 i ops[i] (by simp [hi'.1]) e he hb
            have h1 := hlow e.on (by omega)
            have h2 : e.on < listed.size := by omega
            simp only [Bool.not_true, Bool.false_or]
            simp only [Array.getD_eq_getD_getElem?, Array.getElem?_eq_getElem h2, Option.getD_some] at h1 ⊢
            exact h1
        rw [hre] at this
        cases this
    · unfold Region.ready at hi
      rw [List.mem_filter, Bool.and_eq_true, Bool.not_eq_true'] at hi
      obtain ⟨hir, hun, hed⟩ := hi
      have hlt : i < ops.size := List.mem_range.1 hir
      have hget : ops.toList[i]? = some ops[i] := by simp [hlt]
      have hget' : ops[i]? = some ops[i] := Array.getElem?_eq_getElem hlt
      rw [hget'] at hed
      simp only [Option.map_some, Option.getD_some] at hed
      rw [← Array.all_toList, List.all_eq_true] at hed
      have hbefs : ∀ b, Nat.testBit ((befores ops.toList []).getD i 0) b = true → listed.getD b true = true := by
        intro b hb
        obtain ⟨e, he, hbn, hbe⟩ := befores_row hget hb
        have h1 := hed e he
        simp only [hbn, Bool.not_true, Bool.false_or] at h1
        have h2 : e.on < listed.size := by
          rcases Nat.lt_or_ge e.on listed.size with h2 | h2
          · exact h2
          · simp [Array.getD, Nat.not_lt.2 h2] at h1
        have h3 : listed.getD e.on true = true := by
          simp only [Array.getD_eq_getD_getElem?, Array.getElem?_eq_getElem h2, Option.getD_some] at h1 ⊢
          exact h1
        rcases hbe with rfl | hbe
        · exact h3
        · exact hcl e.on (by omega) h3 b hbe
      have hmem : i ∈ rem listed ops.size := rem_mem.2 ⟨hlt, hun⟩
      obtain ⟨L1, L2, hL⟩ := List.append_of_mem hmem
      have hsorted := rem_sorted listed ops.size
      rw [hL, List.pairwise_append] at hsorted
      have hisz : i < listed.size := by omega
      have hset := rem_set hisz hL
      have hfm : (rem listed ops.size).filterMap (fun i => ops.toList[i]?) = L1.filterMap (fun i => ops.toList[i]?) ++ ops[i] :: L2.filterMap (fun i => ops.toList[i]?) := by
        rw [hL, List.filterMap_append, List.filterMap_cons, hget]
      rw [hfm] at h hf hs
      have hind : ∀ p ∈ L1.filterMap (fun i => ops.toList[i]?), indep E ops.toList p ops[i] = true := by
        intro p hp
        obtain ⟨k, hk, hkp⟩ := List.mem_filterMap.1 hp
        have hki := hsorted.2.2 k hk i (by simp)
        rcases drawOK_spec hdr hki hkp hget with h1 | h1
        · exfalso
          have h2 := hbefs k h1
          have h3 := (rem_mem.1 (show k ∈ rem listed ops.size by rw [hL]; simp [hk])).2
          rw [h2] at h3
          cases h3
        · exact h1
      obtain ⟨s, hstep, hrun⟩ := bubble hpar _ h hind hf hs
      have hperm : List.Perm (L1.filterMap (fun i => ops.toList[i]?) ++ ops[i] :: L2.filterMap (fun i => ops.toList[i]?)) (ops[i] :: (L1.filterMap (fun i => ops.toList[i]?) ++ L2.filterMap (fun i => ops.toList[i]?))) := List.perm_middle
      have hs2 := hs.perm hperm
      obtain ⟨hs3, hd3⟩ := hs2.tail
      have hf2 : Fresh st (ops[i] :: (L1.filterMap (fun i => ops.toList[i]?) ++ L2.filterMap (fun i => ops.toList[i]?))) := hf.sub fun q hq => hperm.mem_iff.2 hq
      have hf3 := hstep.fresh (hf2.sub fun q hq => by simp only [List.mem_cons]; exact .inr hq) (fun d hd => (hd3 d hd).1) hs3.lt (fun d hd => (hd3 d hd).2)
      refine FStep.wpOp hT hE hphi hget hstep hr (hf2.one (by simp)) (hs2.has _ (by simp)) fun γ' a' w' hr' => ?_
      have hfm2 : (rem (listed.setIfInBounds i true) ops.size).filterMap (fun i => ops.toList[i]?) = L1.filterMap (fun i => ops.toList[i]?) ++ L2.filterMap (fun i => ops.toList[i]?) := by
        rw [hset, List.filterMap_append]
      refine ih (listed.setIfInBounds i true) (γ := γ') (st := s) (by simp [hsz]) ?_ ?_ (by rw [hfm2]; exact hrun) hr' (by rw [hfm2]; exact hf3) (by rw [hfm2]; exact hs3) hQ
      · rw [hset]
        rw [hL] at hl
        simp only [List.length_append, List.length_cons] at hl ⊢
        omega
      · intro j hj hlj b hb
        rw [getD_set hisz] at hlj ⊢
        split
        · rfl
        · rename_i hbi
          split at hlj
          · rename_i hji
            subst hji
            exact hbefs b hb
          · exact hcl j hj hlj b hb

/-- The operations in the order of a list. -/
theorem FRun.wpOps (hT : TabOK P E.T) (hE : EqsOK P E.T) (hphi : EnvOK P E) : ∀ (l : List Nat) {γ : Gam} {st : St} {a : Act} {w : World}, (∀ i ∈ l, i < ops.size) →
    FRun E ops.toList (l.filterMap fun i => ops.toList[i]?) st st' → RS x γ st a w → Fresh st (l.filterMap fun i => ops.toList[i]?) →
    Ssa E ops.toList (l.filterMap fun i => ops.toList[i]?) → (∀ γ' a' w', RS x γ' st' a' w' → Q .normal a' w') → wpOps P ops Q l a w
  | [], γ, st, a, w, _, h, hr, _, _, hQ => by
    have h : st = st' := h
    subst h
    exact hQ γ a w hr
  | i :: l, γ, st, a, w, hlt, h, hr, hf, hs, hQ => by
    have hi : i < ops.size := hlt i (by simp)
    have hget : ops.toList[i]? = some ops[i] := by simp [hi]
    rw [List.filterMap_cons, hget] at h hf hs
    obtain ⟨s, hstep, hrun⟩ := h
    obtain ⟨hs3, hd3⟩ := hs.tail
    have hf3 := hstep.fresh (hf.sub fun q hq => by simp only [List.mem_cons]; exact .inr hq) (fun d hd => (hd3 d hd).1) hs3.lt (fun d hd => (hd3 d hd).2)
    rw [wpOps_cons]
    exact FStep.wpOp hT hE hphi hget hstep hr (hf.one (by simp)) (hs.has _ (by simp)) fun γ' a' w' hr' =>
      FRun.wpOps hT hE hphi l (fun j hj => hlt j (by simp [hj])) hrun hr' hf3 hs3 hQ

end
end Go.Vi
