/- Texts of this claim, joined: ViI to G106c97io10001. -/
import Derived.KernelRfl
import Derived.Lib.AppendZerosOnto
import Derived.Lib.SliceRun
import Derived.Lib.Walk
import Derived.Scope
import Derived.Test.YtgmonagekfjnmaaDoorProg
import Derived.WalkKit
import Derived.Test.YtgmonagekfjnmaaDoorP3
/-
  Vi: regions: each step is sound; drawn orders.
-/
set_option linter.unusedVariables false
set_option linter.unusedSimpArgs false
namespace Go.Vi
open Op
section
variable {P : Program} {E : Env} {all : List Oper} {o p q : Oper} {x : Cx} {γ : Gam} {w : World} {a : Act} {st st' s1 s2 : St} {v vp vq : V} {obs obsp obsq : List (Nat × O)}
variable {ops : Array Oper} {Q : Exit → Act → World → Prop}
theorem wanted_of {b : Bool} (hr : RS x γ st a w) (h : wantV ops.toList o st = some b) : Region.wanted o (yielded ops a.tmps) = b := by
  unfold wantV at h
  unfold Region.wanted
  cases hg : o.guard with
  | none =>
    rw [hg] at h
    cases h
    rfl
  | some g =>
    obtain ⟨j, want⟩ := g
    rw [hg] at h
    simp only at h ⊢
    cases ht : (ops.toList[j]?).bind (·.dst) with
    | none => rw [ht] at h; cases h
    | some t =>
      rw [ht] at h
      simp only at h
      have hj : (ops[j]?).bind (·.dst) = some t := by rw [← ht]; simp
      cases hv : st.tm[t]? with
      | none =>
        rw [hv] at h
        cases h
        have : a.tmps[t]? = none := by
          rw [Array.getElem?_eq_none_iff, ← hr.len]
          exact List.getElem?_eq_none_iff.1 hv
        unfold yielded
        rw [hj, Option.bind_some, this]
        rfl
      | some v =>
        rw [hv] at h
        have hlt : t < a.tmps.size := by
          rw [← hr.len]
          rcases Nat.lt_or_ge t st.tm.length with h1 | h1
          · exact h1
          · rw [List.getElem?_eq_none h1] at hv
            cases hv
        have hVR := hr.tm t v hv
        have hget : a.tmps[t]? = some (a.tmps.getD t undef) := by
          simp [Array.getD, hlt]
        have hy : yielded ops a.tmps j = match a.tmps.getD t undef with | .bool b => some b | _ => none := by
          unfold yielded
          rw [hj]
          simp only [Option.bind_some, hget]
          cases a.tmps.getD t undef <;> rfl
        rw [hy]
        split at h
        · rename_i he
          cases he
        · rename_i b' he
          cases he
          have : a.tmps.getD t undef = .bool b' := hVR
          rw [this]
          cases h
          cases b' <;> cases want <;> rfl
        · rename_i he
          cases he
          obtain ⟨us, h1, h2⟩ := hVR
          have : us = [] := by
            cases us with
            | nil => rfl
            | cons u us => exact h2.elim
          subst this
          rw [h1]
          cases h
          rfl
        · cases h
theorem Fresh1.dead (hf : Fresh1 st o) (hmk : isMove o = false) (hd : o.dst ≠ none) {k : Nat} (hlo : k < pinLo) (hk : isKey o k) : dead st o.dst k = true := by
  unfold Vi.dead
  rw [show Nat.blt k pinLo = true from Nat.ble_eq_true_of_le hlo, Bool.true_and]
  cases hdd : o.dst with
  | none => exact absurd hdd hd
  | some d =>
    obtain ⟨j, rfl⟩ := isKey_dst hdd hk
    have key : ∀ (tm : List V), (∀ (t : Nat) (u : V), tm[t]? = some u → refs (d + 10000 * j) u = false) → noRef (d + 10000 * j) tm = true := by
      intro tm
      induction tm with
      | nil => intro _; rfl
      | cons y r ih =>
        intro h
        simp only [noRef, Bool.and_eq_true, Bool.not_eq_true']
        exact ⟨h 0 y (by simp), ih fun t u hu => h (t + 1) u (by simpa using hu)⟩
    refine key _ fun t u hu => ?_
    rcases put_get hu with ⟨_, rfl⟩ | hu
    · rfl
    · exact hf hmk d hdd j t u hu
/-- A step of a region, as the machine takes it. -/
theorem FStep.wp (hT : TabOK P E.T) (hE : EqsOK P E.T) (hphi : EnvOK P E) (h : FStep E ops.toList o st st') (hr : RS x γ st a w) (hf : Fresh1 st o) (hd : isEff E ops.toList o = false → o.dst ≠ none)
    {K : Act → World → Prop} (hK : ∀ γ' a' w', RS x γ' st' a' w' → K a' w') : if Region.wanted o (yielded ops a.tmps) then o.wp P a w K Q else K (a.put o.dst undef) w := by
  cases h with
  | eff hw he hfo =>
    rw [wanted_of hr hw, if_pos rfl]
    obtain ⟨s, hs, hop⟩ := evalE_eff hT hphi hfo.self hr
    cases hs
    exact OpTo.wp (hop.mono fun u w' ⟨γ', h⟩ => hK γ' _ _ h)
  | loc hl =>
    rename_i v obs
    cases hl with
    | pure hw he hfo hl =>
      rw [wanted_of hr hw, if_pos rfl]
      obtain ⟨v', obs', hk, hop⟩ := evalP_good hT hE hphi.1 hfo.self hr.inv hr.ops'
      cases hk
      refine OpTo.wp (hop.mono fun u w' hres => ?_)
      obtain ⟨γ', h⟩ := hr.step (dst := o.dst) (List.all_eq_true.2 fun p hp => hf.dead (by cases hm : isMove o with | false => rfl | true => rw [move_obs hm hfo.self] at hp; cases hp) (hd he) (hl p hp) (hfo.keys p hp)) hres
      exact hK γ' _ _ h
    | skip hw =>
      rw [wanted_of hr hw]
      have hres : Res x γ st.hp w (.tup []) [] undef w := Res.same hr.inv ⟨[], rfl, trivial⟩
      obtain ⟨γ', h⟩ := hr.step (dst := o.dst) rfl hres
      exact hK γ' _ _ h
    | pick hw ho hc hv hu =>
      rename_i c y z p
      rw [wanted_of hr hw, if_pos rfl]
      have e1 := VR_bool (hr.ops' _ _ hc)
      have hres : Res x γ st.hp w v [] (a.eval (bif p then y else z)) w := Res.same hr.inv (hr.ops' _ _ hv)
      refine OpTo.wp (.inl ⟨a.eval (bif p then y else z), w, ?_, ?_⟩)
      · simp only [execOp, ho, e1, asBool, Sem.run_bind, Sem.run_pure, Result.andThen_ok]
        cases p <;> rfl
      · obtain ⟨γ', h⟩ := hr.step (dst := o.dst) rfl hres
        exact hK γ' _ _ h
theorem FStep.wpOp (hT : TabOK P E.T) (hE : EqsOK P E.T) (hphi : EnvOK P E) {i : Nat} (hi : ops.toList[i]? = some o) (h : FStep E ops.toList o st st') (hr : RS x γ st a w) (hf : Fresh1 st o) (hd : isEff E ops.toList o = false → o.dst ≠ none)
    {K : Act → World → Prop} (hK : ∀ γ' a' w', RS x γ' st' a' w' → K a' w') : wpOp P ops Q i K a w := by
  unfold Go.wpOp
  have : ops[i]? = some o := by rw [← hi]; simp
  rw [this]
  simp only
  have h1 := FStep.wp (Q := Q) hT hE hphi h hr hf hd hK
  split
  · rename_i hw
    rw [if_pos hw] at h1
    exact .inl h1
  · rename_i hw
    rw [if_neg hw] at h1
    exact h1
/-! ### What is named and what is new stay apart -/
theorem mem_dstsOf {d : Nat} {l : List Oper} : d ∈ dstsOf l ↔ ∃ o ∈ l, o.dst = some d := by
  unfold dstsOf
  rw [List.mem_filterMap]
theorem FStep.prov (h : FStep E all o st st') : ∀ (t : Nat) (u : V), st'.tm[t]? = some u → ∀ k, refs k u = true → (∃ (t : Nat) (u : V), st.tm[t]? = some u ∧ refs k u = true) ∨ (isMove o = false ∧ o.dst ≠ none ∧ isKey o k) := by
  cases h with
  | eff hw he hf =>
    intro t u hu k hk
    rcases hf.prov.2.2 t u hu k hk with h | h
    · exact .inl h
    · refine .inr ⟨?_, h⟩
      cases hm : isMove o with
      | false => rfl
      | true => rw [move_eff hm] at he; cases he
  | loc hl =>
    rename_i v obs
    intro t u hu k hk
    rcases put_get hu with ⟨hd, rfl⟩ | hu
    · rcases hl.prov k hk with ⟨t, _, u, hu, hr⟩ | h
      · exact .inl ⟨t, u, hu, hr⟩
      · exact .inr ⟨h.1, by rw [hd]; simp, h.2⟩
    · exact .inl ⟨t, u, hu, hk⟩
/-- A step keeps what the others are going to make unnamed. -/
theorem FStep.fresh (h : FStep E all o st st') {os : List Oper} (hf : Fresh st os) (hlt : ∀ d, o.dst = some d → d < 10000) (hlt' : ∀ d ∈ dstsOf os, d < 10000) (hnd : ∀ d, o.dst = some d → d ∉ dstsOf os) : Fresh st' os := by
  intro q hq hmk d hd j t u hu
  cases hr : refs (d + 10000 * j) u with
  | false => rfl
  | true =>
    exfalso
    rcases h.prov t u hu _ hr with ⟨t', u', hu', hr'⟩ | ⟨_, hod, j', hj'⟩
    · rw [hf q hq hmk d hd j t' u' hu'] at hr'
      cases hr'
    · cases hdd : o.dst with
      | none => exact hod hdd
      | some e =>
        rw [hdd] at hj'
        have hm : d ∈ dstsOf os := mem_dstsOf.2 ⟨q, hq, hd⟩
        have h1 : @LT.lt Nat _ e 10000 := hlt e hdd
        have h2 : @LT.lt Nat _ d 10000 := hlt' d hm
        have : @Eq Nat d e := by
          simp only [dstKey] at hj'
          omega
        subst this
        exact hnd d hdd hm
theorem Fresh.one {os : List Oper} (h : Fresh st os) (ho : o ∈ os) : Fresh1 st o := fun hm d hd j t u hu => h o ho hm d hd j t u hu
theorem Ssa.perm {l l' : List Oper} (h : Ssa E all l) (hp : List.Perm l l') : Ssa E all l' :=
  ⟨(hp.filterMap _).nodup_iff.1 h.nd, fun d hd => h.lt d ((hp.filterMap _).mem_iff.2 hd), fun o ho => h.has o (hp.mem_iff.2 ho)⟩
theorem Ssa.tail {l : List Oper} (h : Ssa E all (o :: l)) : Ssa E all l ∧ (∀ d, o.dst = some d → d < 10000 ∧ d ∉ dstsOf l) := by
  have e : dstsOf (o :: l) = (match o.dst with | some d => d :: dstsOf l | none => dstsOf l) := by
    unfold dstsOf
    rw [List.filterMap_cons]
    cases o.dst <;> rfl
  cases hd : o.dst with
  | none =>
    rw [hd] at e
    simp only at e
    exact ⟨⟨e ▸ h.nd, fun d hd => h.lt d (e ▸ hd), fun q hq => h.has q (by simp [hq])⟩, fun d hd => by cases hd⟩
  | some d =>
    rw [hd] at e
    simp only at e
    have hnd := h.nd
    rw [e] at hnd
    have hn := List.nodup_cons.1 hnd
    refine ⟨⟨hn.2, fun d hd => h.lt d (by rw [e]; simp [hd]), fun q hq => h.has q (by simp [hq])⟩, fun d' hd' => ?_⟩
    cases hd'
    exact ⟨h.lt d (by rw [e]; simp), hn.1⟩
theorem Fresh.sub {l l' : List Oper} (h : Fresh st l) (hs : ∀ o ∈ l', o ∈ l) : Fresh st l' := fun q hq => h q (hs q hq)
/-- What an operation must be like, that the slots may go on naming nothing. -/
def ZGood (E : Env) (all : List Oper) (Z : ZS) (o : Oper) : Prop := Z = ([], []) ∨ ((∀ d, o.dst = some d → (d ∈ Z.1 → zop Z.1 o = true) ∧ ∀ x ∈ Z.2, x.1 ≠ d) ∧ (isEff E all o = true → isLoc E.T o = true ∨ isApp o = true))
theorem FStep.keepZ {Z : ZS} (hphi : EnvPar E) (h : FStep E all o st st') (hz : ZGood E all Z o) (hJ : JZ Z st) : JZ Z st' := by
  rcases hz with rfl | ⟨hz1, hz2⟩
  · exact ⟨fun t ht => (by cases ht), fun x hx => (by cases hx)⟩
  cases h with
  | loc hl =>
    rename_i v obs
    refine ⟨?_, fun x hx u hu k hk => ?_⟩
    rotate_left
    · rcases put_get hu with ⟨hd, rfl⟩ | hu
      · exact absurd rfl ((hz1 x.1 hd).2 x hx)
      · exact hJ.2 x hx u hu k hk
    intro t ht u hu k
    rcases put_get hu with ⟨hd, rfl⟩ | hu
    · have hz := (hz1 t hd).1 ht
      cases hl with
      | skip hw => rfl
      | pick hw ho hc hv hu => simp [zop, zkind, ho] at hz
      | pure hw he hf =>
        cases hr : refs k u with
        | false => rfl
        | true =>
          exfalso
          rcases hf.prov k hr with ⟨y, hy, u', hu', hr'⟩ | ⟨p, hp, _⟩
          · rw [zop_refs hz hJ.1 hy hu' k] at hr'
            cases hr'
          · rw [zkind_obs (by simp only [zop, Bool.and_eq_true] at hz; exact hz.1) hf.self] at hp
            cases hp
    · exact hJ.1 t ht u hu k
  | eff hw he hf =>
    rcases hz2 he with hz2 | hz2
    rotate_left
    · have hk : ∀ (t : Nat) (u : V), o.dst ≠ some t → st'.tm[t]? = some u → ∀ k, refs k u = true → st.tm[t]? = some u := fun t u hd hu k hk => by
        rcases app_keep2 hz2 hf.self hd hu with rfl | h
        · cases hk
        · exact h
      refine ⟨fun t ht u hu k => ?_, fun x hx u hu k hkr => ?_⟩
      · cases hr : refs k u with
        | false => rfl
        | true =>
          have hd : o.dst ≠ some t := fun e => by
            have hzo := (hz1 t e).1 ht
            simp only [zop, Bool.and_eq_true] at hzo
            have := hzo.1
            unfold isApp at hz2
            split at hz2
            · rename_i c ho; simp [zkind, ho] at this
            · cases hz2
          rw [hJ.1 t ht u (hk t u hd hu k hr) k] at hr
          cases hr
      · exact hJ.2 x hx u (hk x.1 u (fun e => (hz1 x.1 e).2 x hx rfl) hu k hkr) k hkr
    obtain ⟨u0, k0, ob, ob0, rfl, hu0, _, _, _⟩ := evalE_loc hz2 hf.self
    refine ⟨fun t ht u hu k => ?_, fun x hx u hu k hk => ?_⟩
    · have hu : (put st o.dst u0).tm[t]? = some u := hu
      rcases put_get hu with ⟨hd, rfl⟩ | hu
      · exact hu0 k
      · exact hJ.1 t ht u hu k
    · have hu : (put st o.dst u0).tm[x.1]? = some u := hu
      rcases put_get hu with ⟨hd, rfl⟩ | hu
      · rw [hu0 k] at hk; cases hk
      · exact hJ.2 x hx u hu k hk
/-- An operation that minds none of those ahead of it may come first. -/
theorem bubble {Z : ZS} (hphi : EnvPar E) : ∀ (L1 : List Oper) {L2 : List Oper} {st : St}, FRun E all (L1 ++ o :: L2) st st' → (∀ p ∈ L1, indep E all Z p o = true) → Fresh st (L1 ++ o :: L2) → Ssa E all (L1 ++ o :: L2) → (∀ q ∈ L1 ++ o :: L2, ZGood E all Z q) → JZ Z st →
    ∃ s, FStep E all o st s ∧ FRun E all (L1 ++ L2) s st'
  | [], L2, st, h, _, _, _, _, _ => h
  | p :: L1, L2, st, h, hi, hf, hs, hzg, hJ => by
    obtain ⟨s1, hp, h⟩ := h
    have hJ1 := hp.keepZ hphi (hzg p (by simp)) hJ
    have hs' : Ssa E all (p :: (L1 ++ o :: L2)) := hs
    obtain ⟨ht, hpd⟩ := hs'.tail
    have hfr : Fresh s1 (L1 ++ o :: L2) := hp.fresh (hf.sub fun q hq => by simp only [List.cons_append, List.mem_cons]; exact .inr hq) (fun d hd => (hpd d hd).1) ht.lt (fun d hd => (hpd d hd).2)
    obtain ⟨s, ho, hrest⟩ := bubble hphi L1 h (fun q hq => hi q (by simp [hq])) hfr ht (fun q hq => hzg q (by simp only [List.cons_append, List.mem_cons]; exact .inr hq)) hJ1
    have hom : o ∈ L1 ++ o :: L2 := by simp
    obtain ⟨s', h1, h2⟩ := swap hphi (indep_spec (hi p (by simp))) hJ hJ1 (hf.one (by simp)) (hf.one (by simp)) (hs.has p (by simp)) (hs.has o (by simp)) (fun d hd => (hpd d hd).1)
      (fun d hd => ht.lt d (mem_dstsOf.2 ⟨o, hom, hd⟩)) hp ho
    exact ⟨s', h1, s, h2, hrest⟩
/-! ### The edges -/
def rowOf (o : Oper) (acc : List Nat) : Nat :=
  o.after.toList.foldl (fun s e => bif Region.binds .any e then Nat.lor s (Nat.lor (2 ^ e.on) (acc.getD e.on 0)) else s) 0
theorem bit_lor (a b i : Nat) : Nat.testBit (Nat.lor a b) i = (Nat.testBit a i || Nat.testBit b i) := Nat.testBit_or a b i
theorem rowOf_mem {o : Oper} {acc : List Nat} {b : Nat} (h : Nat.testBit (rowOf o acc) b = true) : ∃ e ∈ o.after.toList, Region.binds .any e = true ∧ (b = e.on ∨ Nat.testBit (acc.getD e.on 0) b = true) := by
  unfold rowOf at h
  have key : ∀ (l : List Edge) (s : Nat), Nat.testBit (l.foldl (fun s e => bif Region.binds .any e then Nat.lor s (Nat.lor (2 ^ e.on) (acc.getD e.on 0)) else s) s) b = true → Nat.testBit s b = true ∨ ∃ e ∈ l, Region.binds .any e = true ∧ (b = e.on ∨ Nat.testBit (acc.getD e.on 0) b = true) := by
    intro l
    induction l with
    | nil => intro s h; exact .inl h
    | cons e l ih =>
      intro s h
      simp only [List.foldl_cons] at h
      rcases ih _ h with h | ⟨e', he', h⟩
      · cases hb : Region.binds .any e with
        | true =>
          rw [hb] at h
          simp only [cond_true, bit_lor, Bool.or_eq_true] at h
          rcases h with h | h | h
          · exact .inl h
          · refine .inr ⟨e, by simp, hb, .inl ?_⟩
            rw [Nat.testBit_two_pow] at h
            exact (of_decide_eq_true h).symm
          · exact .inr ⟨e, by simp, hb, .inr h⟩
        | false =>
          rw [hb] at h
          exact .inl h
      · exact .inr ⟨e', by simp [he'], h⟩
  rcases key _ _ h with h | h
  · simp at h
  · exact h
theorem befores_spec : ∀ (l : List Oper) (acc : List Nat), ∃ res, befores l acc = acc ++ res ∧ res.length = l.length ∧
    ∀ (j : Nat) (o : Oper), l[j]? = some o → (befores l acc)[acc.length + j]? = some (rowOf o ((befores l acc).take (acc.length + j)))
  | [], acc => ⟨[], by simp [befores], rfl, by simp⟩
  | o :: l, acc => by
    obtain ⟨res, h1, h2, h3⟩ := befores_spec l (acc ++ [rowOf o acc])
    have e : befores (o :: l) acc = befores l (acc ++ [rowOf o acc]) := rfl
    refine ⟨rowOf o acc :: res, by rw [e, h1]; simp, by simp [h2], ?_⟩
    intro j o' hj
    rw [e]
    cases j with
    | zero =>
      simp at hj
      subst hj
      rw [h1]
      simp
    | succ j =>
      have := h3 j o' (by simpa using hj)
      simp only [List.length_append, List.length_cons, List.length_nil] at this
      have e2 : acc.length + (0 + 1) + j = acc.length + (j + 1) := by omega
      rw [e2] at this
      exact this
theorem befores_row {l : List Oper} {j : Nat} {o : Oper} (hj : l[j]? = some o) {b : Nat} (hb : Nat.testBit ((befores l []).getD j 0) b = true) :
    ∃ e ∈ o.after.toList, Region.binds .any e = true ∧ (b = e.on ∨ Nat.testBit ((befores l []).getD e.on 0) b = true) := by
  obtain ⟨res, h1, h2, h3⟩ := befores_spec l []
  have h := h3 j o hj
  simp only [List.length_nil, Nat.zero_add] at h
  have hb' : Nat.testBit (rowOf o ((befores l []).take j)) b = true := by
    have : (befores l []).getD j 0 = rowOf o ((befores l []).take j) := by
      simp only [List.getD, h, Option.getD_some]
    rw [← this]
    exact hb
  obtain ⟨e, he, hbn, h⟩ := rowOf_mem hb'
  refine ⟨e, he, hbn, h.imp id fun h => ?_⟩
  simp only [List.getD, List.getElem?_take] at h ⊢
  split at h
  · exact h
  · simp at h
theorem drawRows_spec {befs : List Nat} {Z : ZS} : ∀ (l : List Oper) (j : Nat), drawRows E all Z befs j l = true → ∀ (i : Nat) (q : Oper), l[i]? = some q → drawRow E all Z q (befs.getD (j + i) 0) 0 (all.take (j + i)) = true
  | [], _, _, i, q, h => by simp at h
  | o :: l, j, h, i, q, hi => by
    simp only [drawRows, Bool.and_eq_true] at h
    cases i with
    | zero =>
      simp at hi
      subst hi
      exact h.1
    | succ i =>
      have := drawRows_spec l (j + 1) h.2 i q (by simpa using hi)
      have e : j + 1 + i = j + (i + 1) := by omega
      rw [e] at this
      exact this
theorem drawRow_spec {bef : Nat} {Z : ZS} : ∀ (l : List Oper) (i0 : Nat), drawRow E all Z q bef i0 l = true → ∀ (i : Nat) (p : Oper), l[i]? = some p → Nat.testBit bef (i0 + i) = true ∨ indep E all Z p q = true
  | [], _, _, i, p, h => by simp at h
  | o :: l, i0, h, i, p, hi => by
    simp only [drawRow, Bool.and_eq_true, Bool.or_eq_true] at h
    cases i with
    | zero =>
      simp at hi
      subst hi
      rcases h.1 with h1 | h1
      · exact .inl h1
      · exact .inr h1
    | succ i =>
      have := drawRow_spec l (i0 + 1) h.2 i p (by simpa using hi)
      have e : i0 + 1 + i = i0 + (i + 1) := by omega
      rw [e] at this
      exact this
theorem backOK_spec : ∀ (l : List Oper) (j : Nat), backOK j l = true → ∀ (i : Nat) (o : Oper), l[i]? = some o → ∀ e ∈ o.after.toList, Region.binds .any e = true → e.on < j + i
  | [], _, _, i, o, h => by simp at h
  | p :: l, j, h, i, o, hi => by
    simp only [backOK, Bool.and_eq_true] at h
    cases i with
    | zero =>
      simp at hi
      subst hi
      intro e he hb
      have := List.all_eq_true.1 h.1 e he
      simp only [hb, Bool.not_true, Bool.false_or] at this
      exact Nat.le_of_ble_eq_true this
    | succ i =>
      intro e he hb
      have := backOK_spec l (j + 1) h.2 i o (by simpa using hi) e he hb
      omega
/-- Of two operations, in the order of the text: the edges order them, or they do not mind each other. -/
theorem drawOK_spec {Z : ZS} (h : drawOK E all Z = true) {i j : Nat} {p q : Oper} (hij : i < j) (hp : all[i]? = some p) (hq : all[j]? = some q) : Nat.testBit ((befores all []).getD j 0) i = true ∨ indep E all Z p q = true := by
  simp only [drawOK, Bool.and_eq_true] at h
  have h1 := drawRows_spec all 0 h.2 j q hq
  rw [Nat.zero_add] at h1
  have h2 := drawRow_spec (all.take j) 0 h1 i p (by rw [List.getElem?_take, if_pos hij]; exact hp)
  rwa [Nat.zero_add] at h2
/-! ### Drawn orders -/
def rem (listed : Array Bool) (n : Nat) : List Nat := (List.range n).filter fun i => !listed.getD i true
theorem rem_mem {listed : Array Bool} {n i : Nat} : i ∈ rem listed n ↔ i < n ∧ listed.getD i true = false := by
  unfold rem
  rw [List.mem_filter, List.mem_range, Bool.not_eq_true']
theorem rem_sorted (listed : Array Bool) (n : Nat) : (rem listed n).Pairwise (· < ·) := List.Pairwise.filter _ List.pairwise_lt_range
theorem getD_set {listed : Array Bool} {i j : Nat} (hi : i < listed.size) : (listed.setIfInBounds i true).getD j true = if j = i then true else listed.getD j true := by
  simp only [Array.getD_eq_getD_getElem?, Array.getElem?_setIfInBounds]
  by_cases h : i = j
  · subst h
    simp [hi]
  · rw [if_neg h, if_neg fun e => h e.symm]
theorem rem_set {listed : Array Bool} {n i : Nat} {L1 L2 : List Nat} (hi : i < listed.size) (h : rem listed n = L1 ++ i :: L2) : rem (listed.setIfInBounds i true) n = L1 ++ L2 := by
  have hp := rem_sorted listed n
  rw [h] at hp
  have h1 : rem (listed.setIfInBounds i true) n = (rem listed n).filter fun j => decide (j ≠ i) := by
    unfold rem
    rw [List.filter_filter]
    congr 1
    funext j
    rw [getD_set hi]
    by_cases hj : j = i
    · simp [hj]
    · simp [hj]
  rw [h1, h, List.filter_append, List.filter_cons]
  rw [List.pairwise_append] at hp
  have e1 : L1.filter (fun j => decide (j ≠ i)) = L1 := List.filter_eq_self.2 fun j hj => by
    have := hp.2.2 j hj i (by simp)
    simp
    omega
  have e2 : L2.filter (fun j => decide (j ≠ i)) = L2 := List.filter_eq_self.2 fun j hj => by
    have := (List.pairwise_cons.1 hp.2.1).1 j hj
    simp
    omega
  rw [e1, e2]
  simp
/-- A region whose order is drawn. -/
theorem FRun.wpAny (hT : TabOK P E.T) (hE : EqsOK P E.T) (hphi : EnvOK P E) (hpar : EnvPar E) {Z : ZS} (hdr : drawOK E ops.toList Z = true) (hzg : ∀ q ∈ ops.toList, ZGood E ops.toList Z q) : ∀ (fuel : Nat) (listed : Array Bool) {γ : Gam} {st : St} {a : Act} {w : World},
    listed.size = ops.size → (rem listed ops.size).length = fuel → (∀ j, j < ops.size → listed.getD j true = true → ∀ b, Nat.testBit ((befores ops.toList []).getD j 0) b = true → listed.getD b true = true) →
    FRun E ops.toList ((rem listed ops.size).filterMap fun i => ops.toList[i]?) st st' → RS x γ st a w → Fresh st ((rem listed ops.size).filterMap fun i => ops.toList[i]?) →
    Ssa E ops.toList ((rem listed ops.size).filterMap fun i => ops.toList[i]?) → JZ Z st → (∀ γ' a' w', RS x γ' st' a' w' → Q .normal a' w') → wpAny P .any ops Q fuel listed a w := by
  intro fuel
  induction fuel with
  | zero =>
    intro listed γ st a w hsz hl hcl h hr hf hs hJ hQ
    have he : rem listed ops.size = [] := List.length_eq_zero_iff.1 hl
    rw [he] at h
    have h : st = st' := h
    subst h
    refine ⟨?_, hQ γ a w hr⟩
    cases hr : Region.ready .any ops listed with
    | nil => rfl
    | cons i l =>
      exfalso
      have hi : i ∈ Region.ready .any ops listed := by rw [hr]; simp
      unfold Region.ready at hi
      rw [List.mem_filter, Bool.and_eq_true, Bool.not_eq_true'] at hi
      have : i ∈ rem listed ops.size := rem_mem.2 ⟨List.mem_range.1 hi.1, hi.2.1⟩
      rw [he] at this
      cases this
  | succ fuel ih =>
    intro listed γ st a w hsz hl hcl h hr hf hs hJ hQ
    refine ⟨fun hre => ?_, fun i hi => ?_⟩
    · exfalso
      cases hrem : rem listed ops.size with
      | nil => rw [hrem] at hl; cases hl
      | cons i L =>
        have hi : i ∈ rem listed ops.size := by rw [hrem]; simp
        have hi' := rem_mem.1 hi
        have hsorted := rem_sorted listed ops.size
        rw [hrem] at hsorted
        have hlow : ∀ j, j < i → listed.getD j true = true := by
          intro j hj
          cases hb : listed.getD j true with
          | true => rfl
          | false =>
            have : j ∈ rem listed ops.size := rem_mem.2 ⟨by omega, hb⟩
            rw [hrem] at this
            rcases List.mem_cons.1 this with rfl | this
            · omega
            · have := (List.pairwise_cons.1 hsorted).1 j this
              omega
        have : i ∈ Region.ready .any ops listed := by
          unfold Region.ready
          rw [List.mem_filter, Bool.and_eq_true, Bool.not_eq_true']
          refine ⟨List.mem_range.2 hi'.1, hi'.2, ?_⟩
          have hget : ops[i]? = some ops[i] := Array.getElem?_eq_getElem hi'.1
          rw [hget]
          simp only [Option.map_some, Option.getD_some]
          rw [← Array.all_toList, List.all_eq_true]
          intro e he
          cases hb : Region.binds .any e with
          | false => rfl
          | true =>
            simp only [drawOK, Bool.and_eq_true] at hdr
            have hlt := backOK_spec ops.toList 0 hdr.1 i ops[i] (by simp [hi'.1]) e he hb
            have h1 := hlow e.on (by omega)
            have h2 : e.on < listed.size := by omega
            simp only [Bool.not_true, Bool.false_or]
            simp only [Array.getD_eq_getD_getElem?, Array.getElem?_eq_getElem h2, Option.getD_some] at h1 ⊢
            exact h1
        rw [hre] at this
        cases this
    · unfold Region.ready at hi
      rw [List.mem_filter, Bool.and_eq_true, Bool.not_eq_true'] at hi
      obtain ⟨hir, hun, hed⟩ := hi
      have hlt : i < ops.size := List.mem_range.1 hir
      have hget : ops.toList[i]? = some ops[i] := by simp [hlt]
      have hget' : ops[i]? = some ops[i] := Array.getElem?_eq_getElem hlt
      rw [hget'] at hed
      simp only [Option.map_some, Option.getD_some] at hed
      rw [← Array.all_toList, List.all_eq_true] at hed
      have hbefs : ∀ b, Nat.testBit ((befores ops.toList []).getD i 0) b = true → listed.getD b true = true := by
        intro b hb
        obtain ⟨e, he, hbn, hbe⟩ := befores_row hget hb
        have h1 := hed e he
        simp only [hbn, Bool.not_true, Bool.false_or] at h1
        have h2 : e.on < listed.size := by
          rcases Nat.lt_or_ge e.on listed.size with h2 | h2
          · exact h2
          · simp [Array.getD, Nat.not_lt.2 h2] at h1
        have h3 : listed.getD e.on true = true := by
          simp only [Array.getD_eq_getD_getElem?, Array.getElem?_eq_getElem h2, Option.getD_some] at h1 ⊢
          exact h1
        rcases hbe with rfl | hbe
        · exact h3
        · exact hcl e.on (by omega) h3 b hbe
      have hmem : i ∈ rem listed ops.size := rem_mem.2 ⟨hlt, hun⟩
      obtain ⟨L1, L2, hL⟩ := List.append_of_mem hmem
      have hsorted := rem_sorted listed ops.size
      rw [hL, List.pairwise_append] at hsorted
      have hisz : i < listed.size := by omega
      have hset := rem_set hisz hL
      have hfm : (rem listed ops.size).filterMap (fun i => ops.toList[i]?) = L1.filterMap (fun i => ops.toList[i]?) ++ ops[i] :: L2.filterMap (fun i => ops.toList[i]?) := by
        rw [hL, List.filterMap_append, List.filterMap_cons, hget]
      rw [hfm] at h hf hs
      have hind : ∀ p ∈ L1.filterMap (fun i => ops.toList[i]?), indep E ops.toList Z p ops[i] = true := by
        intro p hp
        obtain ⟨k, hk, hkp⟩ := List.mem_filterMap.1 hp
        have hki := hsorted.2.2 k hk i (by simp)
        rcases drawOK_spec hdr hki hkp hget with h1 | h1
        · exfalso
          have h2 := hbefs k h1
          have h3 := (rem_mem.1 (show k ∈ rem listed ops.size by rw [hL]; simp [hk])).2
          rw [h2] at h3
          cases h3
        · exact h1
      have hzl : ∀ q ∈ L1.filterMap (fun i => ops.toList[i]?) ++ ops[i] :: L2.filterMap (fun i => ops.toList[i]?), ZGood E ops.toList Z q := by
        intro q hq
        rw [← hfm] at hq
        obtain ⟨k, _, hk⟩ := List.mem_filterMap.1 hq
        exact hzg q (List.mem_of_getElem? hk)
      obtain ⟨s, hstep, hrun⟩ := bubble hpar _ h hind hf hs hzl hJ
      have hJ3 := hstep.keepZ hpar (hzg _ (List.mem_of_getElem? hget)) hJ
      have hperm : List.Perm (L1.filterMap (fun i => ops.toList[i]?) ++ ops[i] :: L2.filterMap (fun i => ops.toList[i]?)) (ops[i] :: (L1.filterMap (fun i => ops.toList[i]?) ++ L2.filterMap (fun i => ops.toList[i]?))) := List.perm_middle
      have hs2 := hs.perm hperm
      obtain ⟨hs3, hd3⟩ := hs2.tail
      have hf2 : Fresh st (ops[i] :: (L1.filterMap (fun i => ops.toList[i]?) ++ L2.filterMap (fun i => ops.toList[i]?))) := hf.sub fun q hq => hperm.mem_iff.2 hq
      have hf3 := hstep.fresh (hf2.sub fun q hq => by simp only [List.mem_cons]; exact .inr hq) (fun d hd => (hd3 d hd).1) hs3.lt (fun d hd => (hd3 d hd).2)
      refine FStep.wpOp hT hE hphi hget hstep hr (hf2.one (by simp)) (hs2.has _ (by simp)) fun γ' a' w' hr' => ?_
      have hfm2 : (rem (listed.setIfInBounds i true) ops.size).filterMap (fun i => ops.toList[i]?) = L1.filterMap (fun i => ops.toList[i]?) ++ L2.filterMap (fun i => ops.toList[i]?) := by
        rw [hset, List.filterMap_append]
      refine ih (listed.setIfInBounds i true) (γ := γ') (st := s) (by simp [hsz]) ?_ ?_ (by rw [hfm2]; exact hrun) hr' (by rw [hfm2]; exact hf3) (by rw [hfm2]; exact hs3) hJ3 hQ
      · rw [hset]
        rw [hL] at hl
        simp only [List.length_append, List.length_cons] at hl ⊢
        omega
      · intro j hj hlj b hb
        rw [getD_set hisz] at hlj ⊢
        split
        · rfl
        · rename_i hbi
          split at hlj
          · rename_i hji
            subst hji
            exact hbefs b hb
          · exact hcl j hj hlj b hb
/-- The operations in the order of a list. -/
theorem FRun.wpOps (hT : TabOK P E.T) (hE : EqsOK P E.T) (hphi : EnvOK P E) : ∀ (l : List Nat) {γ : Gam} {st : St} {a : Act} {w : World}, (∀ i ∈ l, i < ops.size) →
    FRun E ops.toList (l.filterMap fun i => ops.toList[i]?) st st' → RS x γ st a w → Fresh st (l.filterMap fun i => ops.toList[i]?) →
    Ssa E ops.toList (l.filterMap fun i => ops.toList[i]?) → (∀ γ' a' w', RS x γ' st' a' w' → Q .normal a' w') → wpOps P ops Q l a w
  | [], γ, st, a, w, _, h, hr, _, _, hQ => by
    have h : st = st' := h
    subst h
    exact hQ γ a w hr
  | i :: l, γ, st, a, w, hlt, h, hr, hf, hs, hQ => by
    have hi : i < ops.size := hlt i (by simp)
    have hget : ops.toList[i]? = some ops[i] := by simp [hi]
    rw [List.filterMap_cons, hget] at h hf hs
    obtain ⟨s, hstep, hrun⟩ := h
    obtain ⟨hs3, hd3⟩ := hs.tail
    have hf3 := hstep.fresh (hf.sub fun q hq => by simp only [List.mem_cons]; exact .inr hq) (fun d hd => (hd3 d hd).1) hs3.lt (fun d hd => (hd3 d hd).2)
    rw [wpOps_cons]
    exact FStep.wpOp hT hE hphi hget hstep hr (hf.one (by simp)) (hs.has _ (by simp)) fun γ' a' w' hr' =>
      FRun.wpOps hT hE hphi l (fun j hj => hlt j (by simp [hj])) hrun hr' hf3 hs3 hQ
end
end Go.Vi
/-
  Vi: regions: what the interpreter says of a region comes true.
-/
set_option linter.unusedVariables false
set_option linter.unusedSimpArgs false
namespace Go.Vi
open Op
/-- One state knows no more than the other. -/
structure Sub (st st' : St) : Prop where
  len : st.tm.length = st'.tm.length
  tm : ∀ (t : Nat) (v : V), st.tm[t]? = some v → v = .undef ∨ st'.tm[t]? = some v
  hp : ∀ (t : Nat) (v : V), st.tm[t]? = some v → ∀ k, refs k v = true → st'.hp k = st.hp k
  pin : ∀ k, pinLo ≤ k → st'.hp k = st.hp k
theorem Sub.refl (st : St) : Sub st st := ⟨rfl, fun _ _ h => .inr h, fun _ _ _ _ _ => rfl, fun _ _ => rfl⟩
section
variable {P : Program} {E : Env} {all : List Oper} {o p q : Oper} {x : Cx} {γ γ' : Gam} {w : World} {a : Act} {st st' s1 s2 : St} {v vp vq : V} {obs obsp obsq : List (Nat × O)}
variable {ops : Array Oper} {Q : Exit → Act → World → Prop} {H H' : Heap}
theorem VR1.keyr {A : Nat → Prop} : ∀ (y : V) (u : Value), (∀ k, refs1 k y = true → γ' k = γ k ∧ H' k = H k) → VR1 γ w A H y u → VR1 γ' w A H' y u := by
  intro y u hk h
  cases y with
  | ptr k off =>
    obtain ⟨b, c, h1, h2⟩ := h
    exact ⟨b, c, (hk k (Nat.beq_refl k)).1.trans h1, h2⟩
  | own k win t =>
    obtain ⟨i, e, xs, nilE, h1, h2, h3⟩ := h
    exact ⟨i, e, xs, nilE, (hk k (Nat.beq_refl k)).1.trans h1, (hk k (Nat.beq_refl k)).2.trans h2, h3⟩
  | eptr k win i off =>
    obtain ⟨b, c, e, xs, nilE, h1, h2, h3⟩ := h
    exact ⟨b, c, e, xs, nilE, (hk k (Nat.beq_refl k)).1.trans h1, (hk k (Nat.beq_refl k)).2.trans h2, h3⟩
  | aptr k off n e i =>
    obtain ⟨b, c, h1, h2⟩ := h
    exact ⟨b, c, (hk k (Nat.beq_refl k)).1.trans h1, h2⟩
  | map k =>
    obtain ⟨b, c, h1, h2⟩ := h
    exact ⟨b, c, (hk k (Nat.beq_refl k)).1.trans h1, h2⟩
  | undef => trivial
  | c y => exact h
  | agg cs => exact h
  | iptr cs => exact h
  | tup vs => exact h
  | fn f vs => exact h
  | fpb f css => exact h
  | fptr f cds =>
    obtain ⟨b, us, h1, h2, h3⟩ := h
    exact ⟨b, us, h1, h2, CDR.keys (fun k hk' => (hk k hk').1) h3⟩
theorem All2.keyr {A : Nat → Prop} : ∀ {xs : List V} {vs : List Value}, (∀ k, refsAny k xs = true → γ' k = γ k ∧ H' k = H k) → All2 (VR1 γ w A H) xs vs → All2 (VR1 γ' w A H') xs vs
  | [], [], _, _ => trivial
  | y :: xs, v :: vs, hr, h => ⟨VR1.keyr y v (fun k hk => hr k (by simp [refsAny, hk])) h.1, All2.keyr (fun k hk => hr k (by simp [refsAny, hk])) h.2⟩
  | [], _ :: _, _, h => h.elim
  | _ :: _, [], _, h => h.elim
theorem VR.keyr {A : Nat → Prop} (y : V) (u : Value) (hk : ∀ k, refs k y = true → γ' k = γ k ∧ H' k = H k) (h : VR γ w A H y u) : VR γ' w A H' y u := by
  cases y with
  | tup vs => obtain ⟨us, h1, h2⟩ := h; exact ⟨us, h1, h2.keyr hk⟩
  | fn f vs => obtain ⟨us, h1, h2⟩ := h; exact ⟨us, h1, h2.keyr hk⟩
  | undef => trivial
  | c y => exact h
  | agg cs => exact h
  | iptr cs => exact h
  | ptr k off => exact VR1.keyr (w := w) (A := A) (.ptr k off) u hk h
  | own k win t => exact VR1.keyr (w := w) (A := A) (.own k win t) u hk h
  | eptr k win i off => exact VR1.keyr (w := w) (A := A) (.eptr k win i off) u hk h
  | aptr k off n e i => exact VR1.keyr (w := w) (A := A) (.aptr k off n e i) u hk h
  | map k => exact VR1.keyr (w := w) (A := A) (.map k) u hk h
  | fptr f cds => exact VR1.keyr (w := w) (A := A) (H := H) (.fptr f cds) u hk h
  | fpb f css => exact h
/-- What knows less is true as well. -/
theorem RS.sub (hr : RS x γ st' a w) (h : Sub st st') : ∃ γ', RS x γ' st a w := by
  refine Classical.byCases (p := True) (fun _ => ?_) (fun h => absurd trivial h)
  let γ' : Gam := fun k => open Classical in if (∃ (t : Nat) (v : V), st.tm[t]? = some v ∧ refs k v = true) ∨ pinLo ≤ k then γ k else none
  have hsub : ∀ k i, γ' k = some i → γ k = some i ∧ st'.hp k = st.hp k := by
    intro k i hk
    simp only [γ'] at hk
    split at hk
    · rename_i hex
      rcases hex with ⟨t, v, hv, hr⟩ | hlo
      · exact ⟨hk, h.hp t v hv k hr⟩
      · exact ⟨hk, h.pin k hlo⟩
    · cases hk
  have hav : ∀ b, Av x γ w b → Av x γ' w b ∧ w.heap[b]? = w.heap[b]? := fun b hb => Av.del (fun k i hk => ⟨k, (hsub k i hk).1⟩) b hb
  refine ⟨γ', ⟨⟨hr.inv.size, hr.inv.os, hr.inv.tape, hr.inv.output, hr.inv.blk, ?_, ?_, ?_, ?pin⟩, ?_, ?_, hr.nod⟩⟩
  case pin =>
    intro k i hp hH
    have hlo := x.pinlo k i hp
    simp only [γ']
    rw [if_pos (.inr hlo)]
    exact hr.inv.pin k i hp (by rw [h.pin k hlo]; exact hH)
  · intro k i hk
    obtain ⟨h1, h2⟩ := hsub k i hk
    obtain ⟨ob, h3, h4⟩ := hr.inv.own k i h1
    exact ⟨ob, by rw [← h2]; exact h3, objR.mono hav ob i (fun _ _ _ => rfl) h4⟩
  · intro k b c hk
    exact hr.inv.rng k b c (hsub k _ hk).1
  · intro k k' b c c' hk hk'
    exact hr.inv.inj k k' b c c' (hsub k _ hk).1 (hsub k' _ hk').1
  · rw [h.len]; exact hr.len
  · intro t v hv
    rcases h.tm t v hv with rfl | hv'
    · trivial
    · refine VR.keyr v _ (fun k hk => ⟨?_, (h.hp t v hv k hk).symm⟩) (VR.mono hav v _ (hr.tm t v hv'))
      simp only [γ']
      rw [if_pos (.inl ⟨t, v, hv, hk⟩)]
theorem Sub.opV (h : Sub st st') {y : Operand} {v : V} (hv : opV st y = some v) (hu : v ≠ .undef) : opV st' y = some v := by
  cases y with
  | tmp t => exact (h.tm t v hv).resolve_left hu
  | _ => exact hv
theorem updAll_eq {H H' : Heap} {obs : List (Nat × O)} {k : Nat} (h : H' k = H k ∨ ∃ p ∈ obs, p.1 = k) : updAll H' obs k = updAll H obs k := by
  rw [updAll_get H', updAll_get H]
  cases hb : updAll emp obs k with
  | some ob => rfl
  | none =>
    rcases h with h | ⟨p, hp, he⟩
    · exact h
    · exfalso
      have key : ∀ (obs : List (Nat × O)), p ∈ obs → updAll emp obs k ≠ none := by
        intro obs
        induction obs with
        | nil => intro h; cases h
        | cons a r ih =>
          intro h
          obtain ⟨k', ob⟩ := a
          simp only [updAll, upd]
          cases hkk : Nat.beq k k' with
          | true => simp
          | false =>
            simp only [cond_false]
            rcases List.mem_cons.1 h with rfl | h
            · simp only at he
              subst he
              rw [Nat.beq_refl] at hkk
              cases hkk
            · exact ih h
      exact key obs hp hb
theorem FRun.append : ∀ {l1 : List Oper} {l2 : List Oper} {st : St}, FRun E all l1 st s1 → FRun E all l2 s1 st' → FRun E all (l1 ++ l2) st st'
  | [], l2, st, h1, h2 => by
    have h1 : st = s1 := h1
    subst h1
    exact h2
  | o :: l1, l2, st, ⟨s, h, h1⟩, h2 => ⟨s, h, FRun.append h1 h2⟩
theorem noEff_mem {l : List Oper} (h : noEff E all l = true) : ∀ o ∈ l, isEff E all o = false := by
  intro o ho
  have := List.all_eq_true.1 h o ho
  simpa using this
theorem FStep.frame (h : FStep E all o st st') (he : isEff E all o = false) : st'.tm.length = st.tm.length ∧ (∀ t : Nat, o.dst ≠ some t → st'.tm[t]? = st.tm[t]?) ∧ ∀ k, (isMove o = false → o.dst ≠ none → ¬ isKey o k) → (isEff E all o = false → o.dst ≠ none) → st'.hp k = st.hp k := by
  cases h with
  | eff hw he' hf => rw [he] at he'; cases he'
  | loc hl =>
    refine ⟨put_len _ _ _, fun t ht => set_ne ht, fun k hk hd => ?_⟩
    exact updAll_no _ _ _ fun p hp e => hk (hl.maker (ne_nil_of_mem hp)) (hd he) (e ▸ hl.keys p hp)
theorem FRun.pins : ∀ {os : List Oper} {st : St}, FRun E all os st st' → (∀ o ∈ os, isEff E all o = false) → ∀ k, pinLo ≤ k → st'.hp k = st.hp k
  | [], st, h, _, k, _ => by
    have h : st = st' := h
    subst h
    rfl
  | o :: os, st, ⟨s, h, hr⟩, he, k, hk => by
    rw [FRun.pins hr (fun q hq => he q (by simp [hq])) k hk]
    cases h with
    | eff hw he' hf => rw [he o (by simp)] at he'; cases he'
    | loc hl =>
      refine updAll_no _ _ _ fun p hp e => ?_
      have := hl.lo p hp
      omega
theorem FRun.frame : ∀ {os : List Oper} {st : St}, FRun E all os st st' → (∀ o ∈ os, isEff E all o = false) → st'.tm.length = st.tm.length ∧ (∀ t : Nat, t ∉ dstsOf os → st'.tm[t]? = st.tm[t]?) ∧
    ∀ k, (∀ o ∈ os, isMove o = false → o.dst ≠ none → ¬ isKey o k) → (∀ o ∈ os, isEff E all o = false → o.dst ≠ none) → st'.hp k = st.hp k
  | [], st, h, _ => by
    have h : st = st' := h
    subst h
    exact ⟨rfl, fun _ _ => rfl, fun _ _ _ => rfl⟩
  | o :: os, st, ⟨s, h, hr⟩, he => by
    obtain ⟨a1, a2, a3⟩ := h.frame (he o (by simp))
    obtain ⟨b1, b2, b3⟩ := FRun.frame hr fun q hq => he q (by simp [hq])
    refine ⟨b1.trans a1, fun t ht => ?_, fun k hk hd => ?_⟩
    · have h1 : t ∉ dstsOf os := fun hm => by
        obtain ⟨q, hq, hqd⟩ := mem_dstsOf.1 hm
        exact ht (mem_dstsOf.2 ⟨q, by simp [hq], hqd⟩)
      have h2 : o.dst ≠ some t := fun hd => ht (mem_dstsOf.2 ⟨o, by simp, hd⟩)
      rw [b2 t h1, a2 t h2]
    · rw [b3 k (fun q hq => hk q (by simp [hq])) (fun q hq => hd q (by simp [hq])), a3 k (hk o (by simp)) (hd o (by simp))]
theorem FRun.fresh : ∀ {os : List Oper} {os2 : List Oper} {st : St}, FRun E all os st st' → Fresh st (os ++ os2) → Ssa E all (os ++ os2) → Fresh st' os2
  | [], os2, st, h, hf, _ => by
    have h : st = st' := h
    subst h
    exact hf
  | o :: os, os2, st, ⟨s, h, hr⟩, hf, hs => by
    have hs' : Ssa E all (o :: (os ++ os2)) := hs
    obtain ⟨ht, hd⟩ := hs'.tail
    exact FRun.fresh hr (h.fresh (hf.sub fun q hq => by simp only [List.cons_append, List.mem_cons]; exact .inr hq) (fun d hd' => (hd d hd').1) ht.lt fun d hd' => (hd d hd').2) ht
theorem Ssa.append {l1 l2 : List Oper} (h : Ssa E all (l1 ++ l2)) : Ssa E all l1 ∧ Ssa E all l2 ∧ ∀ d ∈ dstsOf l1, d ∉ dstsOf l2 := by
  have e : dstsOf (l1 ++ l2) = dstsOf l1 ++ dstsOf l2 := by unfold dstsOf; rw [List.filterMap_append]
  have hnd := h.nd
  rw [e, List.nodup_append] at hnd
  refine ⟨⟨hnd.1, fun d hd => h.lt d (by rw [e]; simp [hd]), fun o ho => h.has o (by simp [ho])⟩, ⟨hnd.2.1, fun d hd => h.lt d (by rw [e]; simp [hd]), fun o ho => h.has o (by simp [ho])⟩, fun d h1 h2 => hnd.2.2 d h1 d h2 rfl⟩
/-- A run behind a guard that does not want it. -/
theorem skipRun {j tj : Nat} {want c : Bool} (htj : (all[j]?).bind (·.dst) = some tj) (hc : (c == want) = false) : ∀ (grp : List Oper) (seen : List Nat) {st : St}, nest all j want seen grp = true → st.tm[tj]? = some (.c (.bool c)) →
    (∀ t ∈ seen, st.tm[t]? = some (.tup []) ∨ st.tm[t]? = none) → tj ∉ dstsOf grp → (∀ t ∈ seen, t ∉ dstsOf grp) → (dstsOf grp).Nodup → ∃ s, FRun E all grp st s ∧ (∀ t : Nat, t ∉ dstsOf grp → s.tm[t]? = st.tm[t]?) ∧ s.hp = st.hp ∧ s.tm.length = st.tm.length
  | [], seen, st, _, _, _, _, _, _ => ⟨st, rfl, fun _ _ => rfl, rfl, rfl⟩
  | o :: grp, seen, st, hn, ht, hs, htg, hsd, hnd => by
    simp only [nest, Bool.and_eq_true] at hn
    obtain ⟨hg, hn⟩ := hn
    cases hd : o.dst with
    | none => rw [hd] at hn; cases hn
    | some d =>
      rw [hd] at hn
      simp only at hn
      have e : dstsOf (o :: grp) = d :: dstsOf grp := by unfold dstsOf; rw [List.filterMap_cons, hd]
      rw [e] at htg hsd hnd
      simp only [List.mem_cons, not_or] at htg
      obtain ⟨hnd1, hnd2⟩ := List.nodup_cons.1 hnd
      have hw : wantV all o st = some false := by
        unfold wantV
        cases hgd : o.guard with
        | none => rw [hgd] at hg; cases hg
        | some g =>
          obtain ⟨j', w'⟩ := g
          rw [hgd] at hg
          simp only [Bool.or_eq_true, Bool.and_eq_true] at hg
          simp only
          rcases hg with ⟨h1, h2⟩ | h1
          · have h1 := Nat.eq_of_beq_eq_true h1
            have h2 : w' = want := by cases w' <;> cases want <;> first | rfl | cases h2
            subst h1 h2
            rw [htj]
            simp only [ht]
            exact congrArg some hc
          · cases hj' : (all[j']?).bind (·.dst) with
            | none => rw [hj'] at h1; cases h1
            | some t =>
              rw [hj'] at h1
              simp only at h1 ⊢
              rcases hs t (mem_memN.1 h1) with h2 | h2 <;> rw [h2]
      have hstep : FStep E all o st (nxt st o (.tup []) []) := .loc (.skip hw)
      have hget : ∀ t : Nat, t ≠ d → (nxt st o (.tup []) []).tm[t]? = st.tm[t]? := fun t hne => set_ne (by rw [hd]; intro e; cases e; exact hne rfl)
      obtain ⟨s, h1, h2, h3, h4⟩ := skipRun htj hc grp (d :: seen) (st := nxt st o (.tup []) []) hn (by rw [hget tj htg.1]; exact ht) (fun t hm => by
        by_cases htd : t = d
        · subst htd
          simp only [nxt, hd, put, List.getElem?_set]
          by_cases hl : t < st.tm.length <;> simp [hl]
        · rw [hget t htd]
          exact hs t ((List.mem_cons.1 hm).resolve_left htd)) htg.2 (fun t hm => by
        rcases List.mem_cons.1 hm with rfl | hm
        · exact hnd1
        · exact fun hx => hsd t hm (by simp [hx])) hnd2
      refine ⟨s, ⟨_, hstep, h1⟩, fun t hn => ?_, h3, h4.trans (put_len _ _ _)⟩
      rw [e] at hn
      simp only [List.mem_cons, not_or] at hn
      rw [h2 t hn.2, hget t hn.1]
theorem undefs_get : ∀ (l : List Oper) (tm : List V) (t : Nat), (undefs tm l)[t]? = if t ∈ dstsOf l then (tm[t]?).map fun _ => .undef else tm[t]?
  | [], tm, t => by simp [undefs, dstsOf]
  | o :: l, tm, t => by
    simp only [undefs]
    rw [undefs_get l]
    cases hd : o.dst with
    | none =>
      have e : dstsOf (o :: l) = dstsOf l := by unfold dstsOf; rw [List.filterMap_cons, hd]
      rw [e]
    | some d =>
      have e : dstsOf (o :: l) = d :: dstsOf l := by unfold dstsOf; rw [List.filterMap_cons, hd]
      rw [e]
      simp only [List.getElem?_set, List.mem_cons]
      by_cases h1 : t = d
      · subst h1
        by_cases h2 : t < tm.length
        · simp [h2]
        · simp [h2]
      · have : ¬ d = t := fun h => h1 h.symm
        simp [h1, this]
theorem undefs_len : ∀ (l : List Oper) (tm : List V), (undefs tm l).length = tm.length
  | [], _ => rfl
  | o :: l, tm => by
    simp only [undefs]
    rw [undefs_len l]
    cases o.dst <;> simp
theorem put_self {d : Nat} (h : d < st.tm.length) (v : V) : (put st (some d) v).tm[d]? = some v := by simp [put, h]
theorem getB_some {y : Operand} {b : Bool} (h : getB st y = some b) : opV st y = some (.c (.bool b)) := by
  unfold getB at h
  split at h
  · rename_i b' hb
    cases h
    exact hb
  · cases h
/-- What is known of the guard that one goes by. -/
def CtxOK (all os : List Oper) (ctx : Option (Nat × Bool)) (st : St) : Prop :=
  ∀ j want, ctx = some (j, want) → ∃ t, (all[j]?).bind (·.dst) = some t ∧ st.tm[t]? = some (.c (.bool want)) ∧ t ∉ dstsOf os
theorem CtxOK.want {os : List Oper} {ctx : Option (Nat × Bool)} (h : CtxOK all os ctx st) (hg : guardIs ctx o = true) : wantV all o st = some true := by
  have hg : o.guard = ctx := by simpa [guardIs] using hg
  unfold wantV
  rw [hg]
  cases ctx with
  | none => rfl
  | some g =>
    obtain ⟨j, want⟩ := g
    obtain ⟨t, h1, h2, h3⟩ := h j want rfl
    simp only [h1, h2]
    cases want <;> rfl
theorem mem_dsts_of {d : Nat} {l : List Oper} (ho : o ∈ l) (hd : o.dst = some d) : d ∈ dstsOf l := mem_dstsOf.2 ⟨o, ho, hd⟩
/-- The interpreter's run of a region, operation by operation. -/
theorem runOps_flat (hphi : EnvPar E) : ∀ (m : Nat) (ctx : Option (Nat × Bool)) (os : List Oper) (st st' : St) (ρ : Type) (K : St → Option ρ) (r : ρ), runOps E all ctx m os st ρ K = some r → Sub st st' → Fresh st' os → Ssa E all os →
    CtxOK all os ctx st' → (noEff E all os = true ∨ st = st') → ∃ s s', K s = some r ∧ FRun E all os st' s' ∧ Sub s s' := by
  intro m
  induction m with
  | zero => intro ctx os st st' ρ K r h; cases h
  | succ m ih =>
    intro ctx os st st' ρ K r h hsub hf hs hctx hph
    cases os with
    | nil => exact ⟨st, st', h, rfl, hsub⟩
    | cons o os =>
      obtain ⟨hst, hsd⟩ := hs.tail
      rw [runOps] at h
      simp only [fTm_eq] at h
      cases hg : guardIs ctx o with
      | true =>
        rw [hg] at h
        simp only [cond_true] at h
        have hw := hctx.want (o := o) hg
        have hctx' : ∀ s : St, (∀ t : Nat, o.dst ≠ some t → s.tm[t]? = st'.tm[t]?) → CtxOK all os ctx s := by
          intro s hs' j want he
          obtain ⟨t, h1, h2, h3⟩ := hctx j want he
          refine ⟨t, h1, ?_, fun hm => h3 ?_⟩
          · rw [hs' t fun hd => h3 (mem_dsts_of (by simp) hd)]
            exact h2
          · obtain ⟨q, hq, hqd⟩ := mem_dstsOf.1 hm
            exact mem_dsts_of (by simp [hq]) hqd
        unfold evalOp at h
        simp only [fTm_eq] at h
        cases he : isEff E all o with
        | true =>
          rw [he] at h
          simp only [cond_true] at h
          rcases hph with hn | rfl
          · have := noEff_mem hn o (by simp)
            rw [he] at this
            cases this
          · obtain ⟨s1, h1, hf1⟩ := evalE_foot hphi h
            have hstep : FStep E all o st s1 := .eff hw he hf1
            have hfr := hstep.fresh (hf.sub fun q hq => by simp only [List.mem_cons]; exact .inr hq) (fun d hd => (hsd d hd).1) hst.lt fun d hd => (hsd d hd).2
            have hctx1 : CtxOK all os ctx s1 := by
              intro j want he
              obtain ⟨t, h1, h2, h3⟩ := hctx j want he
              refine ⟨t, h1, hf1.prov.2.1 t _ (fun hd => h3 (mem_dsts_of (by simp) hd)) h2, fun hm => h3 ?_⟩
              obtain ⟨q, hq, hqd⟩ := mem_dstsOf.1 hm
              exact mem_dsts_of (by simp [hq]) hqd
            obtain ⟨s, s', a1, a2, a3⟩ := ih ctx os s1 s1 ρ K r h1 (Sub.refl s1) hfr hst hctx1 (.inr rfl)
            exact ⟨s, s', a1, ⟨s1, hstep, a2⟩, a3⟩
        | false =>
          rw [he] at h
          simp only [cond_false] at h
          obtain ⟨v, obs, hk, hfo⟩ := evalP_foot hphi.1 h
          obtain ⟨hdd, hk⟩ := cond_some hk rfl
          have hag : Agree o.op.operands.toList (opV st) (opV st') st.hp st'.hp := by
            refine ⟨fun y hy => ?_, fun y hy u hu k hr => ?_⟩
            · cases y with
              | tmp t =>
                simp only [opV]
                cases hv : st.tm[t]? with
                | none =>
                  have := List.getElem?_eq_none_iff.1 hv
                  exact List.getElem?_eq_none_iff.2 (by rw [← hsub.len]; exact this)
                | some u =>
                  exact (hsub.tm t u hv).resolve_left fun hu => hfo.dfd t hy (by rw [← hu]; exact hv)
              | _ => rfl
            · obtain ⟨t, rfl, ht⟩ := opV_tmp hu hr
              exact hsub.hp t u ht k hr
          have hev := hfo.cong _ _ hag
          obtain ⟨v', obs', hk', hfo'⟩ := evalP_foot hphi.1 hev
          cases hk'
          have hlo : ∀ p ∈ obs, p.1 < pinLo := fun p hp => (dead_spec (List.all_eq_true.1 hdd p hp)).1
          have hstep : FStep E all o st' (nxt st' o v obs) := .loc (.pure hw he hfo' hlo)
          have hsub' : Sub (nxt st o v obs) (nxt st' o v obs) := by
            refine ⟨by simp only [nxt, put_len, hsub.len], fun t u hu => ?_, fun t u hu k hr => ?_, fun k hk => updAll_eq (.inl (hsub.pin k hk))⟩
            · rcases put_get hu with ⟨hd, rfl⟩ | hu'
              · refine .inr ?_
                have hlt : t < st.tm.length := by
                  rcases Nat.lt_or_ge t st.tm.length with h1 | h1
                  · exact h1
                  · have : (nxt st o u obs).tm[t]? = none := List.getElem?_eq_none (by simp only [nxt, put_len]; exact h1)
                    rw [this] at hu
                    cases hu
                rw [nxt, hd]
                exact put_self (by rw [← hsub.len]; exact hlt) u
              · by_cases hd : o.dst = some t
                · have hlt : t < st.tm.length := (List.getElem?_eq_some_iff.1 hu').1
                  refine .inr ?_
                  have e1 : (nxt st o v obs).tm[t]? = some v := by
                    rw [nxt, hd]
                    exact put_self hlt v
                  rw [e1] at hu
                  cases hu
                  rw [nxt, hd]
                  exact put_self (by rw [← hsub.len]; exact hlt) v
                · rcases hsub.tm t u hu' with h1 | h1
                  · exact .inl h1
                  · refine .inr ?_
                    have e1 : (nxt st' o v obs).tm[t]? = st'.tm[t]? := set_ne hd
                    rw [e1]
                    exact h1
            · refine updAll_eq ?_
              rcases put_get hu with ⟨hd, rfl⟩ | hu'
              · rcases hfo.prov k hr with ⟨y, hy, u', hu', hr'⟩ | h1
                · obtain ⟨t', rfl, ht'⟩ := opV_tmp hu' hr'
                  exact .inl (hsub.hp t' u' ht' k hr')
                · exact .inr h1
              · exact .inl (hsub.hp t u hu' k hr)
          have hfr := hstep.fresh (hf.sub fun q hq => by simp only [List.mem_cons]; exact .inr hq) (fun d hd => (hsd d hd).1) hst.lt fun d hd => (hsd d hd).2
          have hph' : noEff E all os = true ∨ nxt st o v obs = nxt st' o v obs := by
            rcases hph with hn | rfl
            · unfold noEff at hn
              simp only [List.all_cons, Bool.and_eq_true] at hn
              exact .inl hn.2
            · exact .inr rfl
          obtain ⟨s, s', a1, a2, a3⟩ := ih ctx os (nxt st o v obs) (nxt st' o v obs) ρ K r hk hsub' hfr hst (hctx' _ fun t ht => set_ne ht) hph'
          exact ⟨s, s', a1, ⟨_, hstep, a2⟩, a3⟩
      | false =>
        rw [hg] at h
        simp only [cond_false] at h
        cases hgd : o.guard with
        | none => rw [hgd] at h; cases h
        | some g =>
          obtain ⟨j, want⟩ := g
          rw [hgd] at h
          simp only at h
          split at h
          case h_2 => cases h
          rename_i p rest tj hdw htj
          split at h
          case h_2 => cases h
          rename_i c a b cc hop hgb
          cases hgk : grpOK E all j want tj c (bif want then b else a) ((o :: os).takeWhile fun p => !guardIs ctx p) (p :: rest) with
          | false =>
            rw [hgk, cond_false] at h
            obtain ⟨hgrp, h⟩ := cond_some h rfl
            generalize hgr : (o :: os).takeWhile (fun p => !guardIs ctx p) = grp at hgrp h
            have hos : o :: os = grp ++ p :: rest := by rw [← hgr, ← hdw, List.takeWhile_append_dropWhile]
            simp only [grpEff, Bool.and_eq_true] at hgrp
            obtain ⟨⟨⟨⟨g1, g2⟩, g3⟩, g4⟩, g6⟩ := hgrp
            have hgp : guardIs ctx p = true := by
              have := List.head?_dropWhile_not (fun p => !guardIs ctx p) (o :: os)
              rw [hdw] at this
              simpa using this
            have hcc : c = .tmp tj := by
              cases c with
              | tmp t => rw [Nat.eq_of_beq_eq_true g1]
              | _ => cases g1
            rw [hos] at hs hf hctx hph
            obtain ⟨hs1, hs2, hs12⟩ := hs.append
            obtain ⟨hs3, hsp⟩ := hs2.tail
            have hcB := getB_some hgb
            have hcB' : st'.tm[tj]? = some (.c (.bool cc)) := hsub.opV hcB (by intro e; cases e)
            have htjn : tj ∉ dstsOf grp := fun hm => by rw [mem_memN.2 hm] at g3; cases g3
            have hpd : p.dst ≠ none := hs2.has p (by simp) (noEff_mem g6 p (by simp))
            have hn : noEff E all rest = true := by
              unfold noEff at g6
              simp only [List.all_cons, Bool.and_eq_true] at g6
              exact g6.2
            have hkeepR : ∀ {os : List Oper} {s s' : St}, FRun E all os s s' → ∀ (t : Nat) (y : C), t ∉ dstsOf os → s.tm[t]? = some (.c y) → s'.tm[t]? = some (.c y) := by
              intro os
              induction os with
              | nil => intro s s' h t y _ hy; rw [← show s = s' from h]; exact hy
              | cons q os ihq =>
                intro s s' h t y hd hy
                obtain ⟨s1, h1, h2⟩ := h
                refine ihq h2 t y (fun hm => hd ?_) ?_
                · obtain ⟨q', hq', hqd⟩ := mem_dstsOf.1 hm
                  exact mem_dsts_of (by simp [hq']) hqd
                · have hqt : q.dst ≠ some t := fun e => hd (mem_dsts_of (by simp) e)
                  cases h1 with
                  | loc hl => exact (set_ne hqt).trans hy
                  | eff _ _ hef => exact hef.prov.2.1 t y hqt hy
            -- behind the pick
            have tail : ∀ (s1 s2 : St) (b' : Bool), FRun E all grp st' s2 → opV s2 (bif cc then a else b) = some (.c (.bool b')) → (∀ d, p.dst = some d → Sub { s1 with tm := s1.tm.set d (.c (.bool b')) } (nxt s2 p (.c (.bool b')) [])) →
                runOps E all ctx m rest { s1 with tm := s1.tm.set (dstKey p.dst) (.c (.bool b')) } ρ K = some r → ∃ s s', K s = some r ∧ FRun E all (o :: os) st' s' ∧ Sub s s' := by
              intro s1 s2 b' hr2 hv2 hsub3 h
              have htj2 : opV s2 c = some (.c (.bool cc)) := by
                rw [hcc]
                exact hkeepR hr2 tj _ htjn hcB'
              have hctx2 : CtxOK all (p :: rest) ctx s2 := by
                intro j' w' he
                obtain ⟨t, h1, h2, h3⟩ := hctx j' w' he
                have e : dstsOf (grp ++ p :: rest) = dstsOf grp ++ dstsOf (p :: rest) := by unfold dstsOf; rw [List.filterMap_append]
                rw [e, List.mem_append, not_or] at h3
                exact ⟨t, h1, hkeepR hr2 t _ h3.1 h2, h3.2⟩
              have hstep : FStep E all p s2 (nxt s2 p (.c (.bool b')) []) := .loc (.pick (hctx2.want hgp) hop htj2 hv2 rfl)
              have hfr2 : Fresh s2 (p :: rest) := hr2.fresh hf hs
              have hfr3 := hstep.fresh (hfr2.sub fun q hq => by simp only [List.mem_cons]; exact .inr hq) (fun d hd => (hsp d hd).1) hs3.lt fun d hd => (hsp d hd).2
              cases hd : p.dst with
              | none => exact absurd hd hpd
              | some d =>
                rw [hd] at h
                simp only [dstKey] at h
                have hctx3 : CtxOK all rest ctx (nxt s2 p (.c (.bool b')) []) := by
                  intro j' w' he
                  obtain ⟨t, h1, h2, h3⟩ := hctx2 j' w' he
                  refine ⟨t, h1, ?_, fun hm => h3 ?_⟩
                  · have e1 : (nxt s2 p (.c (.bool b')) []).tm[t]? = s2.tm[t]? := set_ne fun hd' => h3 (mem_dsts_of (by simp) hd')
                    rw [e1]
                    exact h2
                  · obtain ⟨q, hq, hqd⟩ := mem_dstsOf.1 hm
                    exact mem_dsts_of (by simp [hq]) hqd
                obtain ⟨s, s', a1, a2, a3⟩ := ih ctx rest _ _ ρ K r h (hsub3 d hd) hfr3 hs3 hctx3 (.inl hn)
                refine ⟨s, s', a1, ?_, a3⟩
                rw [hos]
                exact hr2.append ⟨_, hstep, a2⟩
            cases hw : cc == want with
            | true =>
              rw [hw] at h
              simp only [cond_true] at h
              have hwc : cc = want := by cases cc <;> cases want <;> first | rfl | cases hw
              have hph1 : noEff E all grp = true ∨ st = st' := by
                rcases hph with hq | hq
                · left
                  unfold noEff at hq ⊢
                  rw [List.all_append, Bool.and_eq_true] at hq
                  exact hq.1
                · exact .inr hq
              obtain ⟨s1, s2, a1, a2, a3⟩ := ih (some (j, want)) grp st st' ρ _ r h hsub (hf.sub fun q hq => by simp [hq]) hs1 (fun j' w' he => by
                cases he
                exact ⟨tj, htj, by rw [← hwc]; exact hcB', htjn⟩) hph1
              obtain ⟨b', hb', a1⟩ := Option.bind_eq_some_iff.1 a1
              refine tail { s1 with tm := undefs s1.tm grp } s2 b' a2 ?_ ?_ a1
              · rw [hwc]
                exact a3.opV (getB_some hb') (by intro e; cases e)
              · intro d hd
                refine ⟨by simp only [nxt, put_len, List.length_set, undefs_len]; exact a3.len, fun t u hu => ?_, fun t u hu k hr => ?_, a3.pin⟩
                · simp only [List.getElem?_set, undefs_len] at hu
                  split at hu
                  · rename_i htd
                    subst htd
                    split at hu
                    · rename_i hlt
                      cases hu
                      refine .inr ?_
                      rw [nxt, hd]
                      exact put_self (by rw [← a3.len]; exact hlt) _
                    · cases hu
                  · rename_i htd
                    rw [undefs_get] at hu
                    split at hu
                    · obtain ⟨_, _, rfl⟩ := Option.map_eq_some_iff.1 hu
                      exact .inl rfl
                    rcases a3.tm t u hu with h1 | h1
                    · exact .inl h1
                    · refine .inr ?_
                      have e1 : (nxt s2 p (.c (.bool b')) []).tm[t]? = s2.tm[t]? := set_ne (by rw [hd]; intro e; cases e; exact htd rfl)
                      rw [e1]
                      exact h1
                · simp only [List.getElem?_set, undefs_len] at hu
                  split at hu
                  · split at hu
                    · cases hu; cases hr
                    · cases hu
                  · rw [undefs_get] at hu
                    split at hu
                    · obtain ⟨_, _, rfl⟩ := Option.map_eq_some_iff.1 hu
                      cases hr
                    · exact a3.hp t u hu k hr
            | false =>
              rw [hw] at h
              simp only [cond_false] at h
              obtain ⟨b', hb', h⟩ := Option.bind_eq_some_iff.1 h
              obtain ⟨s2, h1, h2, h3, h4⟩ := skipRun (E := E) htj hw grp [] (st := st') g4 hcB' (by simp) htjn (by simp) hs1.nd
              refine tail { st with tm := undefs st.tm grp } s2 b' h1 ?_ ?_ h
              · have e : (bif cc then a else b) = bif want then b else a := by cases cc <;> cases want <;> first | rfl | cases hw
                rw [e]
                have h5 := hsub.opV (getB_some hb') (by intro e; cases e)
                cases hy : (bif want then b else a) with
                | tmp t =>
                  rw [hy] at h5 g2
                  simp only [opV] at h5 ⊢
                  rw [h2 t fun hm => by simp only [notTmps, mem_memN.2 hm] at g2; cases g2]
                  exact h5
                | const v => rw [hy] at h5; exact h5
                | global g => rw [hy] at h5; exact h5
                | func f => rw [hy] at h5; exact h5
              · intro d hd
                refine ⟨by simp only [nxt, put_len, List.length_set, undefs_len]; exact hsub.len.trans h4.symm, fun t u hu => ?_, fun t u hu k hr => ?_, fun k hk => (congrFun h3 k).trans (hsub.pin k hk)⟩
                · simp only [List.getElem?_set, undefs_len] at hu
                  split at hu
                  · rename_i htd
                    subst htd
                    split at hu
                    · rename_i hlt
                      cases hu
                      refine .inr ?_
                      rw [nxt, hd]
                      exact put_self (by rw [h4, ← hsub.len]; exact hlt) _
                    · cases hu
                  · rename_i htd
                    rw [undefs_get] at hu
                    split at hu
                    · obtain ⟨_, _, rfl⟩ := Option.map_eq_some_iff.1 hu
                      exact .inl rfl
                    · rename_i htg
                      rcases hsub.tm t u hu with h1 | h1
                      · exact .inl h1
                      · refine .inr ?_
                        have e1 : (nxt s2 p (.c (.bool b')) []).tm[t]? = s2.tm[t]? := set_ne (by rw [hd]; intro e; cases e; exact htd rfl)
                        rw [e1, h2 t htg]
                        exact h1
                · simp only [List.getElem?_set, undefs_len] at hu
                  split at hu
                  · split at hu
                    · cases hu; cases hr
                    · cases hu
                  · rw [undefs_get] at hu
                    split at hu
                    · obtain ⟨_, _, rfl⟩ := Option.map_eq_some_iff.1 hu
                      cases hr
                    · exact (congrFun h3 k).trans (hsub.hp t u hu k hr)
          | true =>
          rw [hgk, cond_true] at h
          have hgrp := hgk
          obtain ⟨b', hb', h⟩ := Option.bind_eq_some_iff.1 h
          generalize hgr : (o :: os).takeWhile (fun p => !guardIs ctx p) = grp at hgrp hb' h
          have hos : o :: os = grp ++ p :: rest := by rw [← hgr, ← hdw, List.takeWhile_append_dropWhile]
          simp only [grpOK, Bool.and_eq_true] at hgrp
          obtain ⟨⟨⟨⟨⟨g1, g2⟩, g3⟩, g4⟩, g5⟩, g6⟩ := hgrp
          have hgp : guardIs ctx p = true := by
            have := List.head?_dropWhile_not (fun p => !guardIs ctx p) (o :: os)
            rw [hdw] at this
            simpa using this
          have hcc : c = .tmp tj := by
            cases c with
            | tmp t => rw [Nat.eq_of_beq_eq_true g1]
            | _ => cases g1
          rw [hos] at hs hf hctx
          obtain ⟨hs1, hs2, hs12⟩ := hs.append
          obtain ⟨hs3, hsp⟩ := hs2.tail
          have hcB := getB_some hgb
          have hcB' : st'.tm[tj]? = some (.c (.bool cc)) := hsub.opV hcB (by intro e; cases e)
          have htjn : tj ∉ dstsOf grp := fun hm => by rw [mem_memN.2 hm] at g3; cases g3
          have hpd : p.dst ≠ none := hs2.has p (by simp) (noEff_mem g6 p (by simp))
          have hgrE : ∀ o ∈ grp, isEff E all o = false := noEff_mem g5
          -- the run behind the guard, or what skips it
          have hrun : ∃ s2, FRun E all grp st' s2 ∧ opV s2 (bif cc then a else b) = some (.c (.bool b')) := by
            cases hw : cc == want with
            | true =>
              rw [hw] at hb'
              simp only [cond_true] at hb'
              have hwc : cc = want := by cases cc <;> cases want <;> first | rfl | cases hw
              obtain ⟨s, s', a1, a2, a3⟩ := ih (some (j, want)) grp st st' Bool _ b' hb' hsub (hf.sub fun q hq => by simp [hq]) hs1 (fun j' w' he => by
                cases he
                exact ⟨tj, htj, by rw [← hwc]; exact hcB', htjn⟩) (.inl g5)
              refine ⟨s', a2, ?_⟩
              rw [hwc]
              exact a3.opV (getB_some a1) (by intro e; cases e)
            | false =>
              rw [hw] at hb'
              simp only [cond_false] at hb'
              obtain ⟨s, h1, h2, h3, h4⟩ := skipRun (E := E) htj hw grp [] (st := st') g4 hcB' (by simp) htjn (by simp) hs1.nd
              refine ⟨s, h1, ?_⟩
              have e : (bif cc then a else b) = bif want then b else a := by cases cc <;> cases want <;> first | rfl | cases hw
              rw [e]
              have h5 := hsub.opV (getB_some hb') (by intro e; cases e)
              cases hy : (bif want then b else a) with
              | tmp t =>
                rw [hy] at h5 g2
                simp only [opV] at h5 ⊢
                rw [h2 t fun hm => by simp only [notTmps, mem_memN.2 hm] at g2; cases g2]
                exact h5
              | const v => rw [hy] at h5; exact h5
              | global g => rw [hy] at h5; exact h5
              | func f => rw [hy] at h5; exact h5
          obtain ⟨s2, hr2, hv2⟩ := hrun
          obtain ⟨f1, f2, f3⟩ := hr2.frame hgrE
          have htj2 : opV s2 c = some (.c (.bool cc)) := by
            rw [hcc]
            exact (f2 tj htjn).trans hcB'
          have hctx2 : CtxOK all (p :: rest) ctx s2 := by
            intro j' w' he
            obtain ⟨t, h1, h2, h3⟩ := hctx j' w' he
            have e : dstsOf (grp ++ p :: rest) = dstsOf grp ++ dstsOf (p :: rest) := by unfold dstsOf; rw [List.filterMap_append]
            rw [e, List.mem_append, not_or] at h3
            exact ⟨t, h1, (f2 t h3.1).trans h2, h3.2⟩
          have hstep : FStep E all p s2 (nxt s2 p (.c (.bool b')) []) := .loc (.pick (hctx2.want hgp) hop htj2 hv2 rfl)
          have hfr2 : Fresh s2 (p :: rest) := hr2.fresh hf hs
          have hfr3 := hstep.fresh (hfr2.sub fun q hq => by simp only [List.mem_cons]; exact .inr hq) (fun d hd => (hsp d hd).1) hs3.lt fun d hd => (hsp d hd).2
          cases hd : p.dst with
          | none => exact absurd hd hpd
          | some d =>
            rw [hd] at h
            simp only [dstKey] at h
            have hsub3 : Sub { st with tm := (undefs st.tm grp).set d (.c (.bool b')) } (nxt s2 p (.c (.bool b')) []) := by
              refine ⟨by simp only [nxt, put_len, List.length_set, undefs_len, f1]; exact hsub.len, fun t u hu => ?_, fun t u hu k hr => ?_, fun k hk => (hr2.pins hgrE k hk).trans (hsub.pin k hk)⟩
              · simp only [List.getElem?_set, undefs_len] at hu
                split at hu
                · rename_i htd
                  subst htd
                  split at hu
                  · rename_i hlt
                    cases hu
                    refine .inr ?_
                    rw [nxt, hd]
                    exact put_self (by rw [f1, ← hsub.len]; exact hlt) _
                  · cases hu
                · rename_i htd
                  rw [undefs_get] at hu
                  split at hu
                  · obtain ⟨_, _, rfl⟩ := Option.map_eq_some_iff.1 hu
                    exact .inl rfl
                  · rename_i htg
                    rcases hsub.tm t u hu with h1 | h1
                    · exact .inl h1
                    · refine .inr ?_
                      have e1 : (nxt s2 p (.c (.bool b')) []).tm[t]? = s2.tm[t]? := set_ne (by rw [hd]; intro e; cases e; exact htd rfl)
                      rw [e1, f2 t htg]
                      exact h1
              · have e0 : (nxt s2 p (.c (.bool b')) []).hp = s2.hp := rfl
                rw [e0]
                simp only [List.getElem?_set, undefs_len] at hu
                split at hu
                · split at hu
                  · cases hu; cases hr
                  · cases hu
                · rw [undefs_get] at hu
                  split at hu
                  · obtain ⟨_, _, rfl⟩ := Option.map_eq_some_iff.1 hu
                    cases hr
                  · rename_i htg
                    have h6 : u ≠ .undef := fun e => by rw [e] at hr; cases hr
                    have h7 := (hsub.tm t u hu).resolve_left h6
                    rw [f3 k (fun q hq hqm hqd => not_key (hf.one (by simp [hq])) hqm hqd h7 hr) (fun q hq => hs1.has q hq)]
                    exact hsub.hp t u hu k hr
            have hctx3 : CtxOK all rest ctx (nxt s2 p (.c (.bool b')) []) := by
              intro j' w' he
              obtain ⟨t, h1, h2, h3⟩ := hctx2 j' w' he
              refine ⟨t, h1, ?_, fun hm => h3 ?_⟩
              · have e1 : (nxt s2 p (.c (.bool b')) []).tm[t]? = s2.tm[t]? := set_ne fun hd' => h3 (mem_dsts_of (by simp) hd')
                rw [e1]
                exact h2
              · obtain ⟨q, hq, hqd⟩ := mem_dstsOf.1 hm
                exact mem_dsts_of (by simp [hq]) hqd
            have hn : noEff E all rest = true := by
              unfold noEff at g6
              simp only [List.all_cons, Bool.and_eq_true] at g6
              exact g6.2
            obtain ⟨s, s', a1, a2, a3⟩ := ih ctx rest _ _ ρ K r h hsub3 hfr3 hs3 hctx3 (.inl hn)
            refine ⟨s, s', a1, ?_, a3⟩
            rw [hos]
            exact hr2.append ⟨_, hstep, a2⟩
end
end Go.Vi
/-
  Vi: joins; what the interpreter says of code comes true.
-/
set_option linter.unusedVariables false
set_option linter.unusedSimpArgs false
namespace Go.Vi
open Op
section
variable {P : Program} {E : Env} {all : List Oper} {o p q : Oper} {x : Cx} {γ γ' : Gam} {w : World} {a : Act} {st st' s1 s2 : St}
variable {ops : Array Oper} {Q : Exit → Act → World → Prop} {H H' : Heap} {ρ : Type} {K k : St → Option ρ} {r : ρ}
theorem nodupB_spec : ∀ {l : List Nat}, nodupB l = true → l.Nodup
  | [], _ => List.nodup_nil
  | d :: l, h => by
    simp only [nodupB, Bool.and_eq_true, Bool.not_eq_true'] at h
    refine List.nodup_cons.2 ⟨fun hm => ?_, nodupB_spec h.2⟩
    rw [mem_memN.2 hm] at h
    cases h.1
theorem flatOK_spec (h : flatOK E all = true) : Ssa E all all := by
  simp only [flatOK, Bool.and_eq_true] at h
  obtain ⟨⟨h1, h2⟩, h3⟩ := h
  refine ⟨nodupB_spec h1, fun d hd => Nat.le_of_ble_eq_true (List.all_eq_true.1 h2 d hd), fun o ho he hd => ?_⟩
  have := List.all_eq_true.1 h3 o ho
  rw [he, hd] at this
  cases this
theorem cds_mem {k : Nat} : ∀ {cds : List CD}, cdsRef k cds = true → k ∈ cds.flatMap cdKs
  | [], h => by cases h
  | c :: cds, h => by
    simp only [cdsRef, Bool.or_eq_true] at h
    rw [List.flatMap_cons, List.mem_append]
    refine h.imp (fun h => ?_) cds_mem
    cases c with
    | b j => exact List.mem_singleton.2 (Nat.eq_of_beq_eq_true h).symm
    | s => cases h
    | v g ks => exact memN_of h
theorem keys1_mem {k : Nat} {v : V} (h : refs1 k v = true) : k ∈ keys1 v := by
  cases v with
  | fptr f cds => exact cds_mem h
  | _ => first | (cases h; done) | exact List.mem_singleton.2 (Nat.eq_of_beq_eq_true h).symm
theorem keysL_mem {k : Nat} : ∀ {vs : List V}, refsAny k vs = true → k ∈ keysL vs
  | [], h => by cases h
  | v :: vs, h => by
    simp only [refsAny, Bool.or_eq_true] at h
    simp only [keysL, List.mem_append]
    exact h.imp keys1_mem keysL_mem
theorem keysV_mem {k : Nat} {v : V} (h : refs k v = true) : k ∈ keysV v := by
  cases v with
  | tup vs => exact keysL_mem h
  | fn f vs => exact keysL_mem h
  | ptr j off => exact keys1_mem (v := .ptr j off) h
  | own j w t => exact keys1_mem (v := .own j w t) h
  | eptr j w i off => exact keys1_mem (v := .eptr j w i off) h
  | aptr j off n e i => exact keys1_mem (v := .aptr j off n e i) h
  | map j => exact keys1_mem (v := .map j) h
  | fptr f cds => exact keys1_mem (v := .fptr f cds) h
  | _ => cases h
theorem key_mod (d j : Nat) (h : d < 10000) : (d + 10000 * j) % 10000 = d := by omega
theorem freshB_spec (h : freshB (makers all) st.tm = true) (hs : Ssa E all all) : Fresh st all := by
  intro q hq hmk d hd j t u hu
  cases hr : refs (d + 10000 * j) u with
  | false => rfl
  | true =>
    exfalso
    have h1 := List.all_eq_true.1 h u (List.mem_of_getElem? hu)
    have h2 := List.all_eq_true.1 h1 _ (keysV_mem hr)
    have hm := mem_dsts_of hq hd
    have hm2 : d ∈ makers all := mem_dsts_of (List.mem_filter.2 ⟨hq, by rw [hmk]; rfl⟩) hd
    have h3 : @LT.lt Nat _ d 10000 := hs.lt d hm
    rw [key_mod d j h3, mem_memN.2 hm2] at h2
    cases h2
theorem fm_range (ops : Array Oper) : (List.range ops.size).filterMap (fun i => ops.toList[i]?) = ops.toList := by
  have key : ∀ (l : List Oper) (k : Nat), (∀ i o, l[i]? = some o → ops.toList[k + i]? = some o) → (List.range' k l.length).filterMap (fun i => ops.toList[i]?) = l := by
    intro l
    induction l with
    | nil => intro k _; rfl
    | cons o l ih =>
      intro k h
      have h0 := h 0 o (by simp)
      rw [List.length_cons, List.range'_succ, List.filterMap_cons]
      simp only [Nat.add_zero] at h0
      rw [h0]
      simp only
      rw [ih (k + 1) fun i o' hi => by
        have := h (i + 1) o' (by simpa using hi)
        rwa [show k + (i + 1) = k + 1 + i by omega] at this]
  have := key ops.toList 0 (fun i o h => by rw [Nat.zero_add]; exact h)
  rw [← List.range_eq_range', Array.length_toList] at this
  exact this
theorem runOps_plain (hT : TabOK P E.T) (hE : EqsOK P E.T) (hphi : EnvOK P E) : ∀ (m : Nat) (os : List Oper) {st : St} {γ : Gam} {a : Act} {w : World}, (∀ o ∈ os, o.guard = none) → runOps E ops.toList none m os st ρ K = some r → RS x γ st a w →
    (∀ st' γ' a' w', K st' = some r → RS x γ' st' a' w' → Q .normal a' w') → wpList P ops Q os a w
  | 0, os, st, γ, a, w, _, h, _, _ => by cases h
  | m + 1, [], st, γ, a, w, _, h, hr, hQ => hQ st γ a w h hr
  | m + 1, o :: os, st, γ, a, w, hg, h, hr, hQ => by
    have hgo := hg o (by simp)
    rw [runOps] at h
    have hgi : guardIs none o = true := by simp [guardIs, hgo]
    rw [hgi] at h
    simp only [cond_true] at h
    obtain ⟨s, hs, hop⟩ := evalOp_eff hT hE hphi h hr
    refine wpList_plain hgo fun K' hK' => ?_
    refine OpTo.wp (hop.mono fun u w' ⟨γ', hr'⟩ => hK' _ _ ?_)
    exact runOps_plain hT hE hphi m os (fun q hq => hg q (by simp [hq])) hs hr' hQ
/-- A region. -/
theorem region_sound (hT : TabOK P E.T) (hE : EqsOK P E.T) (hphi : EnvOK P E) (hpar : EnvPar E) (hm : P.follows .mixedOrders = true) {id : Nat} {draw : Bool}
    (h : (bif regOK E ops.toList draw st then runOps E ops.toList none (ops.toList.length + 1) ops.toList st ρ k else none) = some r) (hr : RS x γ st a w)
    (hQ : ∀ st' γ' a' w', k st' = some r → RS x γ' st' a' w' → Q .normal a' w') : (Code.region id ops draw).wp P Q a w := by
  obtain ⟨hok, hrun⟩ := cond_some h rfl
  clear h
  have flat : flatOK E ops.toList = true → freshB (makers ops.toList) st.tm = true → ∃ s s', k s = some r ∧ FRun E ops.toList ops.toList st s' ∧ Sub s s' ∧ Ssa E ops.toList ops.toList ∧ Fresh st ops.toList := by
    intro hf hfr
    have hs := flatOK_spec hf
    have hfs := freshB_spec hfr hs
    obtain ⟨s, s', h1, h2, h3⟩ := runOps_flat hpar _ none ops.toList st st ρ k r hrun (Sub.refl st) hfs hs (fun j want he => by cases he) (.inr rfl)
    exact ⟨s, s', h1, h2, h3, hs, hfs⟩
  have fin : ∀ {s s' : St}, k s = some r → Sub s s' → ∀ γ' a' w', RS x γ' s' a' w' → Q .normal a' w' := by
    intro s s' hk hsub γ' a' w' hr'
    obtain ⟨γ2, hr2⟩ := hr'.sub hsub
    exact hQ s γ2 a' w' hk hr2
  unfold regOK at hok
  cases draw with
  | true =>
    simp only [cond_true, Bool.and_eq_true] at hok
    obtain ⟨⟨hd, hf⟩, hfr⟩ := hok
    obtain ⟨Z, hd, hzg, hJ⟩ : ∃ Z, drawOK E ops.toList Z = true ∧ (∀ q ∈ ops.toList, ZGood E ops.toList Z q) ∧ JZ Z st := by
      rw [Bool.or_eq_true, Bool.and_eq_true] at hd
      rcases hd with hd | ⟨hz, hd⟩
      · exact ⟨([], []), hd, fun _ _ => .inl rfl, fun t ht => (by cases ht), fun x hx => (by cases hx)⟩
      · refine ⟨_, hd, fun q hq => .inr ?_, fun t ht u hu k => ?_, fun x hx u hu k hk => ?_⟩
        · simp only [zOK, Bool.and_eq_true] at hz
          have h1 := List.all_eq_true.1 hz.2 q hq
          rw [Bool.and_eq_true] at h1
          refine ⟨fun d hdd => ⟨fun hdm => ?_, fun x hx e => ?_⟩, fun he => ?_⟩
          · have h2 := h1.1
            rw [hdd] at h2
            simp only [mem_memN.2 hdm, Bool.not_true, Bool.false_or] at h2
            exact h2
          · have h2 := List.all_eq_true.1 hz.1.2 x hx
            rw [Bool.and_eq_true, e, mem_memN.2 (mem_dstsOf.2 ⟨q, hq, hdd⟩)] at h2
            cases h2.1
          · have h2 := h1.2
            simpa [he] using h2
        · simp only [zOK, Bool.and_eq_true] at hz
          have h1 := List.all_eq_true.1 hz.1.1 t ht
          cases hr : refs k u with
          | false => rfl
          | true =>
            have h2 := keysV_mem hr
            have h3 : st.tm.getD t .undef = u := by simp [List.getD, hu]
            rw [h3, List.isEmpty_iff] at h1
            rw [h1] at h2
            cases h2
        · simp only [zOK, Bool.and_eq_true] at hz
          have h1 := List.all_eq_true.1 hz.1.2 x hx
          rw [Bool.and_eq_true] at h1
          have h3 : st.tm.getD x.1 .undef = u := by simp [List.getD, hu]
          rw [h3] at h1
          exact mem_memN.1 (List.all_eq_true.1 h1.2 k (keysV_mem hk))
    obtain ⟨s, s', h1, h2, h3, h4, h5⟩ := flat hf hfr
    refine wp_region_any hm ?_
    have hrem : rem (Array.replicate ops.size false) ops.size = List.range ops.size := by
      unfold rem
      refine List.filter_eq_self.2 fun i hi => ?_
      have := List.mem_range.1 hi
      simp [Array.getD, this]
    have hfm : (rem (Array.replicate ops.size false) ops.size).filterMap (fun i => ops.toList[i]?) = ops.toList := by rw [hrem]; exact fm_range ops
    refine FRun.wpAny (st := st) (st' := s') hT hE hphi hpar hd hzg ops.size _ (by simp) (by rw [hrem]; simp) ?_ (by rw [hfm]; exact h2) (hr.grows (Grows.drew w)) (by rw [hfm]; exact h5) (by rw [hfm]; exact h4) hJ (fin h1 h3)
    intro j hj hl
    simp [Array.getD, hj] at hl
  | false =>
    simp only [cond_false, Bool.or_eq_true] at hok
    rcases hok with hok | hok
    · refine wp_region_list ?_
      refine runOps_plain hT hE hphi _ ops.toList (fun o ho => ?_) hrun hr hQ
      have := List.all_eq_true.1 hok o ho
      simpa using this
    · rw [Bool.and_eq_true] at hok
      obtain ⟨s, s', h1, h2, h3, h4, h5⟩ := flat hok.1 hok.2
      refine wp_region ?_
      refine FRun.wpOps (st := st) (st' := s') hT hE hphi (List.range ops.size) (fun i hi => List.mem_range.1 hi) (by rw [fm_range]; exact h2) hr (by rw [fm_range]; exact h5) (by rw [fm_range]; exact h4) (fin h1 h3)
/-! ### Joins -/
/-- Which old key a new name stands for. -/
def oldKey (s : List (Nat × Nat)) (j : Nat) : Option Nat := look (s.map fun p => (p.2, p.1)) j
theorem look_in {α : Type} : ∀ {s : List (Nat × α)} {k : Nat} {y : α}, look s k = some y → (k, y) ∈ s
  | [], k, y, h => by cases h
  | (k', v) :: s, k, y, h => by
    simp only [look] at h
    cases hb : Nat.beq k' k with
    | true =>
      rw [hb] at h
      cases h
      rw [Nat.eq_of_beq_eq_true hb]
      simp
    | false =>
      rw [hb] at h
      have := look_in h
      simp [this]
theorem look_none {α : Type} : ∀ {s : List (Nat × α)} {k : Nat}, look s k = none → k ∉ s.map (·.1)
  | [], k, _ => by simp
  | (k', v) :: s, k, h => by
    simp only [look] at h
    cases hb : Nat.beq k' k with
    | true => rw [hb] at h; cases h
    | false =>
      rw [hb] at h
      have h1 := look_none h
      simp only [List.map_cons, List.mem_cons, not_or]
      refine ⟨fun e => ?_, h1⟩
      rw [e, Nat.beq_refl] at hb
      cases hb
theorem in_look {α : Type} : ∀ {s : List (Nat × α)} {k : Nat} {y : α}, (s.map (·.1)).Nodup → (k, y) ∈ s → look s k = some y
  | [], k, y, _, h => by cases h
  | (k', v) :: s, k, y, hn, h => by
    obtain ⟨h1, h2⟩ := List.nodup_cons.1 hn
    simp only [look]
    rcases List.mem_cons.1 h with h | h
    · cases h
      rw [Nat.beq_refl]
      rfl
    · have hne : k' ≠ k := fun e => h1 (by
        simp only
        rw [e]
        exact List.mem_map.2 ⟨(k, y), h, rfl⟩)
      rw [beq_false hne]
      exact in_look h2 h
/-- New names are one each; what a caller handed in keeps its own. -/
structure NamesOK (s : List (Nat × Nat)) : Prop where
  fst : (s.map (·.1)).Nodup
  snd : (s.map (·.2)).Nodup
  lo : ∀ p ∈ s, pinLo ≤ p.1 ∨ pinLo ≤ p.2 → p.1 = p.2
theorem nodup_snoc {α : Type} {l : List α} {y : α} (h : l.Nodup) (hy : y ∉ l) : (l ++ [y]).Nodup := by
  rw [List.nodup_append]
  refine ⟨h, by simp, fun q hq q' hq' e => ?_⟩
  rw [List.mem_singleton.1 hq'] at e
  exact hy (e ▸ hq)
theorem NamesOK.add {s : List (Nat × Nat)} (h : NamesOK s) (k new : Nat) : NamesOK (addName s k new) := by
  unfold addName
  cases hl : look s k with
  | some y => exact h
  | none =>
    simp only
    have hk := look_none hl
    cases hp : Nat.ble pinLo k with
    | true =>
      simp only [cond_true]
      have hlo : pinLo ≤ k := Nat.le_of_ble_eq_true hp
      refine ⟨by rw [List.map_append]; exact nodup_snoc h.fst hk, ?_, fun p hp => ?_⟩
      · rw [List.map_append]
        refine nodup_snoc h.snd fun hm => ?_
        obtain ⟨p, hpm, hpk⟩ := List.mem_map.1 hm
        have := h.lo p hpm (.inr (by rw [hpk]; exact hlo))
        exact hk (List.mem_map.2 ⟨p, hpm, this.trans hpk⟩)
      · rcases List.mem_append.1 hp with hp | hp
        · exact h.lo p hp
        · rw [List.mem_singleton.1 hp]
          exact fun _ => rfl
    | false =>
      simp only [cond_false]
      cases hn : Nat.ble pinLo new || s.any (fun p => Nat.beq p.2 new) with
      | true => exact h
      | false =>
        rw [Bool.or_eq_false_iff] at hn
        simp only [cond_false]
        have hk' : ¬ pinLo ≤ k := fun e => by rw [Nat.ble_eq_true_of_le e] at hp; cases hp
        have hn' : ¬ pinLo ≤ new := fun e => by rw [Nat.ble_eq_true_of_le e] at hn; cases hn.1
        refine ⟨by rw [List.map_append]; exact nodup_snoc h.fst hk, ?_, fun p hp => ?_⟩
        · rw [List.map_append]
          refine nodup_snoc h.snd fun hm => ?_
          obtain ⟨p, hpm, hpk⟩ := List.mem_map.1 hm
          have := List.any_eq_false.1 hn.2 p hpm
          rw [hpk, Nat.beq_refl] at this
          exact this rfl
        · rcases List.mem_append.1 hp with hp | hp
          · exact h.lo p hp
          · rw [List.mem_singleton.1 hp]
            rintro (h1 | h1)
            · exact absurd h1 hk'
            · exact absurd h1 hn'
theorem NamesOK.adds : ∀ {l : List Nat} {s : List (Nat × Nat)} {new : Nat}, NamesOK s → NamesOK (addNames s new l)
  | [], _, _, h => h
  | k :: l, s, new, h => NamesOK.adds (l := l) (h.add k new)
theorem names_ok (tm : List V) : ∀ (live : List Nat) (s : List (Nat × Nat)), NamesOK s → NamesOK (names tm live s)
  | [], s, h => h
  | t :: ts, s, h => by
    rw [names]
    refine names_ok tm ts _ ?_
    cases Nat.ble pinLo t with
    | true => exact h.add t t
    | false =>
      simp only [cond_false]
      split
      · exact NamesOK.adds h
      · exact h
theorem newHeap_get {hp : Heap} {j k : Nat} {ob : O} : ∀ (s : List (Nat × Nat)), (∀ p ∈ s, p.2 = j → p.1 = k) → (k, j) ∈ s → hp k = some ob → newHeap hp s j = some ob
  | [], _, h, _ => by cases h
  | (k', t) :: s, hu, h, hk => by
    by_cases ht : t = j
    · subst ht
      have : k' = k := hu (k', t) (by simp) rfl
      subst this
      simp only [newHeap, hk]
      simp [upd]
    · have h' : (k, j) ∈ s := by
        rcases List.mem_cons.1 h with h | h
        · cases h; exact absurd rfl ht
        · exact h
      have ih := newHeap_get s (fun p hp => hu p (by simp [hp])) h' hk
      simp only [newHeap]
      cases hp k' with
      | some o' =>
        simp only
        rw [upd_ne _ _ fun e => ht e.symm]
        exact ih
      | none => exact ih
theorem newHeap_ne {hp : Heap} {j : Nat} : ∀ (s : List (Nat × Nat)), newHeap hp s j ≠ none → ∃ p ∈ s, p.2 = j ∧ hp p.1 ≠ none
  | [], h => absurd rfl h
  | (k', t) :: s, h => by
    simp only [newHeap] at h
    cases hk : hp k' with
    | none =>
      rw [hk] at h
      obtain ⟨p, hp', h1, h2⟩ := newHeap_ne s h
      exact ⟨p, by simp [hp'], h1, h2⟩
    | some o' =>
      rw [hk] at h
      simp only at h
      by_cases ht : j = t
      · exact ⟨(k', t), by simp, ht.symm, by rw [hk]; simp⟩
      · rw [upd_ne _ _ ht] at h
        obtain ⟨p, hp', h1, h2⟩ := newHeap_ne s h
        exact ⟨p, by simp [hp'], h1, h2⟩
theorem normTm_get (s : List (Nat × Nat)) (live : List Nat) : ∀ (tm : List V) (i t : Nat), (normTm s live tm i)[t]? = (tm[t]?).map fun v => bif live.any (Nat.beq (i + t)) then ren s v else .undef
  | [], i, t => by simp [normTm]
  | v :: tm, i, 0 => by simp [normTm]
  | v :: tm, i, t + 1 => by
    simp only [normTm, List.getElem?_cons_succ]
    rw [normTm_get s live tm (i + 1) t]
    simp only [show i + 1 + t = i + (t + 1) by omega]
theorem normTm_len (s : List (Nat × Nat)) (live : List Nat) : ∀ (tm : List V) (i : Nat), (normTm s live tm i).length = tm.length
  | [], _ => rfl
  | v :: tm, i => by simp [normTm, normTm_len s live tm (i + 1)]
theorem CR.loose {A : Nat → Prop} {c : C} {v : Value} (h : CR w A c v) : CR w A (Vi.loose c) v := by
  cases c with
  | sl e xs t =>
    obtain ⟨a, cap, h1, h2, h3, h4⟩ := h
    exact ⟨a, cap, h1, h2, by simp, h4⟩
  | _ => exact h
theorem All2.loose {A : Nat → Prop} : ∀ {cs : List C} {vs : List Value}, All2 (CR w A) cs vs → All2 (CR w A) (cs.map Vi.loose) vs
  | [], [], _ => trivial
  | _ :: _, _ :: _, h => ⟨CR.loose h.1, All2.loose h.2⟩
  | [], _ :: _, h => h.elim
  | _ :: _, [], h => h.elim
theorem OwnSl.loose {i : Info} {n len : Nat} {nilE t : Bool} {win : Option (Nat × Nat)} {v : Value} (h : OwnSl i n len nilE win t v) : OwnSl i n len nilE win false v := by
  cases i with
  | emp => exact h
  | «at» b c =>
    cases win with
    | none => exact ⟨h.1, h.2.1, by simp⟩
    | some p =>
      obtain ⟨p, l⟩ := p
      obtain ⟨o, cap, h1, h2, h3, h4, h5, h6, h7⟩ := h
      exact ⟨o, cap, h1, h2, h3, h4, by simp, h6, h7⟩
/-- The state at a join is true if the state before it is. -/
theorem RS.norm (hr : RS x γ st a w) (live : List Nat) : ∃ γ', RS x γ' (Vi.norm live st) a w := by
  generalize hs : names st.tm live [] = s
  have hok : NamesOK s := hs ▸ names_ok st.tm live [] ⟨List.nodup_nil, List.nodup_nil, by simp⟩
  have hsw : ((s.map fun p => (p.2, p.1)).map (·.1)).Nodup := by
    rw [List.map_map]
    exact hok.snd
  have hold : ∀ k j, look s k = some j → oldKey s j = some k := fun k j h => in_look hsw (List.mem_map.2 ⟨(k, j), look_in h, rfl⟩)
  have hmem : ∀ k j, oldKey s j = some k → (k, j) ∈ s := by
    intro k j h
    obtain ⟨p, hp, he⟩ := List.mem_map.1 (look_in h)
    cases he
    exact hp
  have hold' : ∀ k j, oldKey s j = some k → look s k = some j := fun k j h => in_look hok.fst (hmem k j h)
  let γ' : Gam := fun j => (oldKey s j).bind γ
  let H' : Heap := newHeap st.hp s
  have hγ : ∀ j i, γ' j = some i → ∃ k, oldKey s j = some k ∧ γ k = some i := fun j i h => Option.bind_eq_some_iff.1 h
  have hH : ∀ j k ob, oldKey s j = some k → st.hp k = some ob → H' j = some ob := by
    intro j k ob h hk
    refine newHeap_get s (fun p hp hpj => ?_) (hmem k j h) hk
    have h1 : oldKey s j = some p.1 := in_look hsw (List.mem_map.2 ⟨p, hp, by rw [← hpj]⟩)
    rw [h] at h1
    cases h1
    rfl
  have hav : ∀ b, Av x γ w b → Av x γ' w b ∧ w.heap[b]? = w.heap[b]? := fun b hb => Av.del (fun k i hk => by
    obtain ⟨k', _, h⟩ := hγ k i hk
    exact ⟨k', h⟩) b hb
  have hnorm : Vi.norm live st = { tm := normTm s live st.tm 0, hp := H' } := by simp only [Vi.norm, hs, H']
  rw [hnorm]
  refine ⟨γ', ⟨⟨hr.inv.size, hr.inv.os, hr.inv.tape, hr.inv.output, hr.inv.blk, ?_, ?_, ?_, ?pin⟩, by rw [normTm_len]; exact hr.len, ?_, hr.nod⟩⟩
  case pin =>
    intro k i hp hHk
    have hlo := x.pinlo k i hp
    obtain ⟨p, hpm, h1, h2⟩ := newHeap_ne s hHk
    have h3 := hok.lo p hpm (.inr (by rw [h1]; exact hlo))
    have h4 : (k, k) ∈ s := by
      have : p = (k, k) := by
        cases p
        simp only at h1 h3
        subst h1
        rw [h3]
      rw [← this]
      exact hpm
    rw [h3.trans h1] at h2
    simp only [γ', hold k k (in_look hok.fst h4), Option.bind_some]
    exact hr.inv.pin k i hp h2
  · intro j i hj
    obtain ⟨k, h1, h2⟩ := hγ j i hj
    obtain ⟨ob, h3, h4⟩ := hr.inv.own k i h2
    exact ⟨ob, hH j k ob h1 h3, objR.mono hav ob i (fun _ _ _ => rfl) h4⟩
  · intro j b c hj
    obtain ⟨k, h1, h2⟩ := hγ j _ hj
    exact hr.inv.rng k b c h2
  · intro j j' b c c' hj hj'
    obtain ⟨k, h1, h2⟩ := hγ j _ hj
    obtain ⟨k', h1', h2'⟩ := hγ j' _ hj'
    have := hr.inv.inj k k' b c c' h2 h2'
    subst this
    have e1 := hold' k j h1
    have e2 := hold' k j' h1'
    rw [e1] at e2
    cases e2
    rfl
  · intro t v hv
    rw [normTm_get, Option.map_eq_some_iff] at hv
    obtain ⟨y, hy, hyv⟩ := hv
    cases hl : live.any (Nat.beq (0 + t)) with
    | false =>
      rw [hl] at hyv
      subst hyv
      trivial
    | true =>
      rw [hl] at hyv
      simp only [cond_true] at hyv
      have hVR := VR.mono hav y _ (hr.tm t y hy)
      have one : ∀ (y : V) (u : Value), VR1 γ w (Av x γ' w) st.hp y u → VR1 γ' w (Av x γ' w) H' (ren1 s y) u := by
        intro y u h
        cases y with
        | ptr k off =>
          simp only [ren1]
          split
          · rename_i j hj
            obtain ⟨b, c, h1, h2⟩ := h
            exact ⟨b, c, by simp only [γ', hold k j hj, Option.bind_some]; exact h1, h2⟩
          · trivial
        | own k win t =>
          simp only [ren1]
          split
          · rename_i j hj
            obtain ⟨i, e, xs, nilE, h1, h2, h3⟩ := h
            exact ⟨i, e, xs, nilE, by simp only [γ', hold k j hj, Option.bind_some]; exact h1, hH j k _ (hold k j hj) h2, OwnSl.loose h3⟩
          · trivial
        | map k =>
          simp only [ren1]
          split
          · rename_i j hj
            obtain ⟨b, c, h1, h2⟩ := h
            exact ⟨b, c, by simp only [γ', hold k j hj, Option.bind_some]; exact h1, h2⟩
          · trivial
        | c y => exact CR.loose h
        | agg cs =>
          obtain ⟨vs, h1, h2⟩ := h
          exact ⟨vs, h1, All2.loose h2⟩
        | iptr cs =>
          obtain ⟨b, o, cur, et, fz, h1, h2, h3, h4, h5⟩ := h
          refine ⟨b, o, cur, et, fz, h1, h2, h3, by simpa using h4, ?_⟩
          rw [List.length_map]
          exact All2.loose h5
        | fptr f cds =>
          simp only [ren1]
          split
          · rename_i l hl
            obtain ⟨b, us, h1, h2, h3⟩ := h
            refine ⟨b, us, h1, h2, ?_⟩
            have ptrs : ∀ (ks l : List Nat) (us : List Value), renKs s ks = some l → All2 (PtrR γ) ks us → All2 (PtrR γ') l us := by
              intro ks
              induction ks with
              | nil => intro l us h h'; cases h; cases us <;> first | trivial | exact h'.elim
              | cons k ks ih =>
                intro l us h h'
                simp only [renKs] at h
                split at h
                · rename_i j l' hj hl'
                  cases h
                  cases us with
                  | nil => exact h'.elim
                  | cons u us =>
                    obtain ⟨b, c, e1, e2⟩ := h'.1
                    exact ⟨⟨b, c, by simp only [γ', hold k j hj, Option.bind_some]; exact e1, e2⟩, ih l' us hl' h'.2⟩
                · cases h
            clear h1 h2
            induction cds generalizing l us with
            | nil => cases hl; cases us <;> first | trivial | exact h3.elim
            | cons c cds ih =>
              simp only [renCds] at hl
              split at hl
              · rename_i c' l' hc hl'
                cases hl
                cases us with
                | nil => exact h3.elim
                | cons u us =>
                  refine ⟨?_, ih l' hl' us h3.2⟩
                  have h4 := h3.1
                  cases c with
                  | b k =>
                    simp only [renCd, Option.map_eq_some_iff] at hc
                    obtain ⟨j, hj, rfl⟩ := hc
                    obtain ⟨b, c, e1, e2⟩ := h4
                    exact ⟨b, c, by simp only [γ', hold k j hj, Option.bind_some]; exact e1, e2⟩
                  | s =>
                    simp only [renCd, Option.some.injEq] at hc
                    subst hc
                    exact h4
                  | v g ks =>
                    simp only [renCd, Option.map_eq_some_iff] at hc
                    obtain ⟨l2, hj, rfl⟩ := hc
                    obtain ⟨b', us', e1, e2, e3⟩ := h4
                    exact ⟨b', us', e1, e2, ptrs ks l2 us' hj e3⟩
              · cases hl
          · trivial
        | _ => trivial
      have many : ∀ (ys : List V) (us : List Value), All2 (VR1 γ w (Av x γ' w) st.hp) ys us → All2 (VR1 γ' w (Av x γ' w) H') (renL s ys) us := by
        intro ys
        induction ys with
        | nil => intro us h; cases us <;> first | trivial | exact h.elim
        | cons y ys ih =>
          intro us h
          cases us with
          | nil => exact h.elim
          | cons u us => exact ⟨one y u h.1, ih us h.2⟩
      subst hyv
      cases y with
      | fn f caps =>
        obtain ⟨us, h1, h2⟩ := hVR
        exact ⟨us, h1, many caps us h2⟩
      | tup vs => trivial
      | undef => trivial
      | c y => exact VR1.up (one (.c y) _ hVR)
      | agg cs => exact VR1.up (one (.agg cs) _ hVR)
      | iptr cs => exact VR1.up (one (.iptr cs) _ hVR)
      | eptr _ _ _ _ => trivial
      | aptr _ _ _ _ _ => trivial
      | ptr k off => exact VR1.up (one (.ptr k off) _ hVR)
      | own k win t => exact VR1.up (one (.own k win t) _ hVR)
      | map k => exact VR1.up (one (.map k) _ hVR)
      | fptr f cds => exact VR1.up (one (.fptr f cds) _ hVR)
      | fpb f css => trivial
/-! ### Code -/
def exitOf (j : Nat) : Exit := if j < goff then .exit j else .goto (j - goff)
/-- Where the interpreter's continuations answer, the machine's do. -/
structure Posts (x : Cx) (k : St → Option ρ) (ex : Nat → St → Option ρ) (rt : St → Option ρ) (r : ρ) (Q : Exit → Act → World → Prop) : Prop where
  norm : ∀ st γ a w, k st = some r → RS x γ st a w → Q .normal a w
  exit : ∀ j st γ a w, ex j st = some r → RS x γ st a w → Q (exitOf j) a w
  ret : ∀ st γ a w, rt st = some r → RS x γ st a w → Q .ret a w
/-- A handler of scopes and of marked code that is right, at some code. -/
def ScAt (P : Program) (x : Cx) (sc : Scp) (c : Code) (an : Ann) : Prop :=
  ∀ (ρ : Type) (k : St → Option ρ) (ex : Nat → St → Option ρ) (rt : St → Option ρ) (r : ρ) (Q : Exit → Act → World → Prop) (st : St) (γ : Gam) (a : Act) (w : World),
    sc ρ c an k ex rt st = some r → RS x γ st a w → Posts x k ex rt r Q → c.wp P Q a w
def ScOK (P : Program) (x : Cx) (sc : Scp) : Prop := ∀ c an, ScAt P x sc c an
theorem runG_sound (hT : TabOK P E.T) (hE : EqsOK P E.T) (hphi : EnvOK P E) (hpar : EnvPar E) (hm : P.follows .mixedOrders = true) {sc : Scp} : ∀ (c : Code) (an : Ann), (∀ p ∈ occ c an, ScAt P x sc p.1 p.2) → ∀ (k : St → Option ρ) (ex : Nat → St → Option ρ) (rt : St → Option ρ)
    (Q : Exit → Act → World → Prop) (st : St) (γ : Gam) (a : Act) (w : World), runG E sc c an k ex rt st = some r → RS x γ st a w → Posts x k ex rt r Q → c.wp P Q a w := by
  intro c
  induction c with
  | skip =>
    intro an ho k ex rt Q st γ a w h hr hp
    rw [runG] at h
    try simp only [normC_eq] at h
    exact wp_skip (hp.norm st γ a w h hr)
  | label l =>
    intro an ho k ex rt Q st γ a w h hr hp
    rw [runG] at h
    try simp only [normC_eq] at h
    exact wp_label (hp.norm st γ a w h hr)
  | region id ops draw =>
    intro an ho k ex rt Q st γ a w h hr hp
    rw [runG] at h
    try simp only [normC_eq] at h
    exact region_sound hT hE hphi hpar hm h hr fun st' γ' a' w' hk hr' => hp.norm st' γ' a' w' hk hr'
  | seq c d ihc ihd =>
    intro an ho k ex rt Q st γ a w h hr hp
    by_cases hh : ∃ i, an = .h i
    · obtain ⟨i, rfl⟩ := hh
      exact ho (.seq c d, .h i) (by simp [occ]) ρ k ex rt r Q st γ a w h hr hp
    have e : runG E sc (.seq c d) an k ex rt st = runG E sc c an.fst (holdK an E.hold fun s => runG E sc d an.snd k ex rt s) ex rt st := by
      cases an <;> first | rfl | exact absurd ⟨_, rfl⟩ hh
    have eo : occ (.seq c d) an = occ c an.fst ++ occ d an.snd := by
      cases an <;> first | rfl | exact absurd ⟨_, rfl⟩ hh
    rw [e] at h
    rw [eo] at ho
    refine wp_seq (ihc _ (fun p hp' => ho p (List.mem_append_left _ hp')) _ _ _ _ st γ a w h hr ⟨?_, ?_, ?_⟩)
    · intro st' γ' a' w' hk hr'
      exact ihd _ (fun p hp' => ho p (List.mem_append_right _ hp')) _ _ _ Q st' γ' a' w' (holdK_some hk) hr' hp
    · intro j st' γ' a' w' hk hr'
      have := hp.exit j st' γ' a' w' hk hr'
      unfold exitOf at this ⊢
      split at this
      · rename_i hj
        rw [if_pos hj]
        exact this
      · rename_i hj
        rw [if_neg hj]
        exact this
    · intro st' γ' a' w' hk hr'
      exact hp.ret st' γ' a' w' hk hr'
  | cond b c d ihc ihd =>
    intro an ho k ex rt Q st γ a w h hr hp
    rw [runG] at h
    try simp only [normC_eq] at h
    cases hb : getB st b with
    | none => rw [hb] at h; cases h
    | some t =>
      rw [hb] at h
      simp only at h
      have he : a.eval b = .bool t := VR_bool (hr.ops' _ _ (getB_some hb))
      have hp' : Posts x (fun s => k (Vi.norm an.lv s)) ex rt r Q := by
        refine ⟨fun st' γ' a' w' hk hr' => ?_, hp.exit, hp.ret⟩
        obtain ⟨γ2, hr2⟩ := hr'.norm an.lv
        exact hp.norm _ γ2 a' w' hk hr2
      refine wp_cond he ?_
      cases t with
      | true => exact ihc _ (fun p hq => ho p (List.mem_append_left _ hq)) _ _ _ Q st γ a w h hr hp'
      | false => exact ihd _ (fun p hq => ho p (List.mem_append_right _ hq)) _ _ _ Q st γ a w h hr hp'
  | block id c ihc =>
    intro an ho k ex rt Q st γ a w h hr hp
    rw [runG] at h
    try simp only [normC_eq] at h
    obtain ⟨hid, h⟩ := cond_some h rfl
    have hid : id < goff := Nat.le_of_ble_eq_true hid
    have hnorm : ∀ st' γ' a' w', k (Vi.norm an.lv st') = some r → RS x γ' st' a' w' → Q .normal a' w' := by
      intro st' γ' a' w' hk hr'
      obtain ⟨γ2, hr2⟩ := hr'.norm an.lv
      exact hp.norm _ γ2 a' w' hk hr2
    refine wp_block (ihc _ ho _ _ _ _ st γ a w h hr ⟨hnorm, ?_, fun st' γ' a' w' hk hr' => hp.ret st' γ' a' w' hk hr'⟩)
    intro j st' γ' a' w' hk hr'
    cases hj : Nat.beq j id with
    | true =>
      rw [hj] at hk
      have e := Nat.eq_of_beq_eq_true hj
      subst e
      have : exitOf j = .exit j := if_pos hid
      rw [this]
      simp only [Exit.inBlock, if_true]
      exact hnorm st' γ' a' w' hk hr'
    | false =>
      rw [hj] at hk
      have := hp.exit j st' γ' a' w' hk hr'
      have hne : j ≠ id := fun e => by rw [e, Nat.beq_refl] at hj; cases hj
      unfold exitOf at this ⊢
      split at this
      · rename_i hjg
        rw [if_pos hjg]
        simp only [Exit.inBlock, if_neg hne]
        exact this
      · rename_i hjg
        rw [if_neg hjg]
        exact this
  | loop c ihc =>
    intro an ho k ex rt Q st γ a w h hr hp
    rw [runG] at h
    try simp only [normC_eq] at h
    intro b kk cs
    have key : ∀ (n : Nat) (st : St) (γ : Gam) (a : Act) (w : World), loopN (fun K s => runG E sc c an.fst (fun s' => K (Vi.norm an.lv s')) ex rt s) n st = some r → RS x γ st a w →
        ∃ e a' w', Q e a' w' ∧ Arrives P (lone (b.at a (.code c :: .inLoop c :: kk)) cs w) b kk cs e a' w' := by
      intro n
      induction n with
      | zero => intro st γ a w h _; cases h
      | succ n ihn =>
        intro st γ a w h hr
        simp only [loopN] at h
        have hQ := ihc an.fst ho _ ex rt (Exit.then (fun a' w' => ∃ st' γ', loopN (fun K s => runG E sc c an.fst (fun s' => K (Vi.norm an.lv s')) ex rt s) n st' = some r ∧ RS x γ' st' a' w') Q) st γ a w h hr ⟨?_, ?_, ?_⟩
        · obtain ⟨e, a₁, w₁, hq, harr⟩ := hQ b (.inLoop c :: kk) cs
          cases e with
          | normal =>
            obtain ⟨st', γ', h1, h2⟩ := hq
            obtain ⟨e₂, a₂, w₂, hq₂, harr₂⟩ := ihn st' γ' a₁ w₁ h1 h2
            exact ⟨e₂, a₂, w₂, hq₂, .of_steps (Steps.trans harr (.one step_inLoop)) harr₂⟩
          | exit id => exact ⟨_, a₁, w₁, hq, .pass (x := .inLoop c) rfl (fun _ _ => .inl (by simp)) harr⟩
          | goto l => exact ⟨_, a₁, w₁, hq, .pass (x := .inLoop c) rfl (fun _ _ => .inl (by simp)) harr⟩
          | ret => exact ⟨_, a₁, w₁, hq, .pass (x := .inLoop c) rfl (fun _ _ => .inl (by simp)) harr⟩
          | panic ch => exact ⟨_, a₁, w₁, hq, .pass (x := .inLoop c) rfl (fun _ _ => .inl (by simp)) harr⟩
          | outgrown => exact ⟨_, a₁, w₁, hq, .pass (x := .inLoop c) rfl (fun _ _ => .inl (by simp)) harr⟩
        · intro st' γ' a' w' hk hr'
          obtain ⟨γ2, hr2⟩ := hr'.norm an.lv
          exact ⟨_, γ2, hk, hr2⟩
        · intro j st' γ' a' w' hk hr'
          have := hp.exit j st' γ' a' w' hk hr'
          unfold exitOf at this ⊢
          split at this
          · rename_i hj
            rw [if_pos hj]
            exact this
          · rename_i hj
            rw [if_neg hj]
            exact this
        · intro st' γ' a' w' hk hr'
          exact hp.ret st' γ' a' w' hk hr'
    obtain ⟨γ2, hr2⟩ := hr.norm an.lv
    obtain ⟨e, a', w', hq, harr⟩ := key E.fuel _ γ2 a w h hr2
    exact ⟨e, a', w', hq, .of_steps (.one step_loop) harr⟩
  | exit id =>
    intro an ho k ex rt Q st γ a w h hr hp
    rw [runG] at h
    try simp only [normC_eq] at h
    obtain ⟨hid, h⟩ := cond_some h rfl
    have hid : id < goff := Nat.le_of_ble_eq_true hid
    have := hp.exit id st γ a w h hr
    unfold exitOf at this
    rw [if_pos hid] at this
    exact wp_exit this
  | goto l =>
    intro an ho k ex rt Q st γ a w h hr hp
    rw [runG] at h
    try simp only [normC_eq] at h
    have := hp.exit (goff + l) st γ a w h hr
    unfold exitOf at this
    rw [if_neg (by omega), show goff + l - goff = l by omega] at this
    exact wp_goto this
  | ret =>
    intro an ho k ex rt Q st γ a w h hr hp
    rw [runG] at h
    try simp only [normC_eq] at h
    exact wp_ret (hp.ret st γ a w h hr)
  | scope c ihc =>
    intro an ho k ex rt Q st γ a w h hr hp
    rw [runG] at h
    try simp only [normC_eq] at h
    exact ho (.scope c, an) (by simp [occ]) ρ k ex rt r Q st γ a w h hr hp
  | _ =>
    intro an ho k ex rt Q st γ a w h hr hp
    simp only [runG] at h
    cases h
theorem noScope_ok : ScOK P x noScope := by
  intro c an ρ k ex rt r Q st γ a w h hr hp
  cases h
theorem run_sound (hT : TabOK P E.T) (hE : EqsOK P E.T) (hphi : EnvOK P E) (hpar : EnvPar E) (hm : P.follows .mixedOrders = true) {c : Code} {an : Ann} {ex : Nat → St → Option ρ} {rt : St → Option ρ}
    (h : run E c an k ex rt st = some r) (hr : RS x γ st a w) (hp : Posts x k ex rt r Q) : c.wp P Q a w :=
  runG_sound hT hE hphi hpar hm c an (fun p _ => noScope_ok p.1 p.2) k ex rt Q st γ a w h hr hp
end
end Go.Vi
/-
  Vi: functions: scopes; parameters and results; a function's contract out of its run.
-/
set_option linter.unusedVariables false
set_option linter.unusedSimpArgs false
namespace Go.Vi
open Op
section
variable {P : Program} {E : Env} {x : Cx} {γ γ' : Gam} {w w0 : World} {a : Act} {st st' : St} {A A0 A1 : Nat → Prop}
variable {Q : Exit → Act → World → Prop} {H H' : Heap} {ρ : Type} {k : St → Option ρ} {r : ρ}
/-! ### Scopes -/
theorem jumpTo_some {K : Nat × St → Option ρ} {ex : Nat → St → Option ρ} {j : Nat} {s : St} : ∀ (ls : List (Nat × List Nat × Ann)), jumpTo ls K ex j s = some r →
    (∃ l lv, j = goff + l ∧ K (l, norm lv s) = some r) ∨ (j < goff ∧ ex j s = some r)
  | [], h => by
    simp only [jumpTo] at h
    obtain ⟨h1, h2⟩ := cond_some h rfl
    exact .inr ⟨Nat.le_of_ble_eq_true h1, h2⟩
  | (l, lv, an) :: ls, h => by
    simp only [jumpTo, normC_eq] at h
    cases hb : Nat.beq j (goff + l) with
    | true =>
      rw [hb] at h
      exact .inl ⟨l, lv, Nat.eq_of_beq_eq_true hb, h⟩
    | false =>
      rw [hb] at h
      exact jumpTo_some ls h
theorem scope1_ok (hT : TabOK P E.T) (hE : EqsOK P E.T) (hphi : EnvOK P E) (hpar : EnvPar E) (hm : P.follows .mixedOrders = true) : ScOK P x (scope1 E) := by
  intro c an ρ k ex rt r Q st γ a w h hr hp
  unfold scope1 at h
  split at h
  case h_2 => cases h
  rename_i c
  generalize an.snd.labels = ls at h
  let Q2 : Nat → Exit → Act → World → Prop := fun n e a w =>
    match e with
    | .goto l => ∃ st γ, loopN (passF E c ls k ex rt) n (l, st) = some r ∧ RS x γ st a w
    | e => Q e a w
  have posts : ∀ n, Posts x k (jumpTo ls (loopN (passF E c ls k ex rt) n) ex) rt r (Q2 n) := by
    intro n
    refine ⟨fun st' γ' a' w' hk hr' => hp.norm st' γ' a' w' hk hr', ?_, fun st' γ' a' w' hk hr' => hp.ret st' γ' a' w' hk hr'⟩
    intro j st' γ' a' w' hk hr'
    rcases jumpTo_some ls hk with ⟨l, lv, rfl, hk2⟩ | ⟨hj, hk2⟩
    · have : exitOf (goff + l) = .goto l := by
        unfold exitOf
        rw [if_neg (by omega), show goff + l - goff = l by omega]
      rw [this]
      obtain ⟨γ2, hr2⟩ := hr'.norm lv
      exact ⟨_, γ2, hk2, hr2⟩
    · have h1 := hp.exit j st' γ' a' w' hk2 hr'
      have : exitOf j = .exit j := if_pos hj
      rw [this] at h1 ⊢
      exact h1
  intro b kk cs
  have key : ∀ (n l : Nat) (st : St) (γ : Gam) (a : Act) (w : World) (rest : Code), loopN (passF E c ls k ex rt) n (l, st) = some r → RS x γ st a w → findLabel c l = some rest →
      ∃ e a' w', Q e a' w' ∧ Arrives P (lone (b.at a (.code rest :: .inScope c :: kk)) cs w) b kk cs e a' w' := by
    intro n
    induction n with
    | zero => intro l st γ a w rest h _ _; cases h
    | succ n ih =>
      intro l st γ a w rest h hr hf
      simp only [loopN, passF, hf] at h
      split at h
      · rename_i q rest' hfl hl
        cases hfl
        obtain ⟨e, a₁, w₁, hq, harr⟩ := run_sound hT hE hphi hpar hm h hr (posts n) b (.inScope c :: kk) cs
        cases e with
        | normal => exact ⟨.normal, a₁, w₁, hq, Steps.trans harr (.one step_inScope)⟩
        | exit id => exact ⟨.exit id, a₁, w₁, hq, fun k' hk => harr k' (by simp [exitTo, hk])⟩
        | goto l' =>
          obtain ⟨st', γ', h1, h2⟩ := hq
          have hfl : ∃ rest', findLabel c l' = some rest' := by
            cases n with
            | zero => cases h1
            | succ n =>
              simp only [loopN, passF] at h1
              split at h1
              · rename_i q' rest' hh _
                exact ⟨_, hh⟩
              · cases h1
          obtain ⟨rest', hf'⟩ := hfl
          obtain ⟨e₂, a₂, w₂, hq₂, harr₂⟩ := ih l' st' γ' a₁ w₁ rest' h1 h2 hf'
          have hg : gotoIn l' (.inScope c :: kk) = some (.code rest' :: .inScope c :: kk) := by simp [gotoIn, hf']
          exact ⟨e₂, a₂, w₂, hq₂, .of_steps (harr _ hg) harr₂⟩
        | ret => exact ⟨_, a₁, w₁, hq, harr⟩
        | panic ch => exact ⟨_, a₁, w₁, hq, harr⟩
        | outgrown => exact ⟨_, a₁, w₁, hq, harr⟩
      · cases h
  obtain ⟨e, a₁, w₁, hq, harr⟩ := run_sound hT hE hphi hpar hm h hr (posts E.fuel) b (.inScope c :: kk) cs
  cases e with
  | normal => exact ⟨.normal, a₁, w₁, hq, .head step_scope (Steps.trans harr (.one step_inScope))⟩
  | exit id => exact ⟨.exit id, a₁, w₁, hq, fun k' hk => .head step_scope (harr k' (by simp [exitTo, hk]))⟩
  | goto l' =>
    obtain ⟨st', γ', h1, h2⟩ := hq
    have hfl : ∃ rest', findLabel c l' = some rest' := by
      cases hn : E.fuel with
      | zero => rw [hn] at h1; cases h1
      | succ n =>
        rw [hn] at h1
        simp only [loopN, passF] at h1
        split at h1
        · rename_i q' rest' hh _
          exact ⟨_, hh⟩
        · cases h1
    obtain ⟨rest', hf'⟩ := hfl
    obtain ⟨e₂, a₂, w₂, hq₂, harr₂⟩ := key E.fuel l' st' γ' a₁ w₁ rest' h1 h2 hf'
    have hg : gotoIn l' (.inScope c :: kk) = some (.code rest' :: .inScope c :: kk) := by simp [gotoIn, hf']
    exact ⟨e₂, a₂, w₂, hq₂, .of_steps (.head step_scope (harr _ hg)) harr₂⟩
  | ret => exact ⟨_, a₁, w₁, hq, .of_steps (.one step_scope) harr⟩
  | panic ch => exact ⟨_, a₁, w₁, hq, .of_steps (.one step_scope) harr⟩
  | outgrown => exact ⟨_, a₁, w₁, hq, .of_steps (.one step_scope) harr⟩
/-! ### Results -/
theorem nagg_one {s : Sh} (h : s.agg = false) : s.nc = 1 := by cases s <;> first | rfl | cases h
theorem mk1_R {s : Sh} {y : s.den} {u : Value} {vs : List Value} (h : VRs w A s y vs) (hA : ∀ b, A b → A1 b) (hu : u = if s.agg = true then .agg vs.toArray else vs.headD undef) : RetR1 w0 w A1 (mk1 s y) .emp u := by
  have hc := CR.of_VRs s y vs h
  have hA' : ∀ b, A b → A1 b ∧ w.heap[b]? = w.heap[b]? := fun b hb => ⟨hA b hb, rfl⟩
  unfold mk1
  cases hs : s.agg with
  | true =>
    rw [hs] at hu
    simp only [cond_true]
    exact ⟨vs, by simpa using hu, hc.mono (CR.mono hA')⟩
  | false =>
    rw [hs] at hu
    simp only [cond_false]
    have hl := cells_length s y
    rw [nagg_one hs] at hl
    match hcs : cells s y, hl with
    | [c], _ =>
      rw [hcs] at hc
      obtain ⟨v, rfl, hv⟩ := hc.one
      simp at hu
      subst hu
      exact CR.mono hA' c _ hv
theorem valOf_VRs {s : Sh} {v : V} {y : s.den} {u : Value} (h : valOf s v = some y) (hv : VR γ w A H v u) : ∃ vs, VRs w A s y vs ∧ u = if s.agg = true then .agg vs.toArray else vs.headD undef := by
  unfold valOf at h
  split at h
  · rename_i c
    obtain ⟨hs, h⟩ := cond_none h rfl
    refine ⟨[u], VRs.of_ofC s _ y [u] h ⟨hv, trivial⟩, ?_⟩
    rw [hs]
    rfl
  · rename_i cs
    obtain ⟨hs, h⟩ := cond_some h rfl
    obtain ⟨vs, rfl, hc⟩ := hv
    refine ⟨vs, VRs.of_ofC s _ y vs h hc, ?_⟩
    rw [hs]
    rfl
  · cases h
def resF (tmps : Array Value) : ResultVar → Sem Value
  | .tmp t => pure (tmps.getD t undef)
  | .cell a t => do loadVar t (← asAddr (tmps.getD a undef))
theorem results_run {fn : Func} {us : List Value} (h : (fn.results.toList.mapM (resF a.tmps)).run P w = .ok us w) : (results fn a.tmps).run P w = .ok (retVal us) w := by
  have e : (fn.results.mapM (resF a.tmps)).run P w = .ok us.toArray w := by
    rw [Array.mapM_eq_mapM_toList, Sem.run_map, h]
    rfl
  have e2 : results fn a.tmps = fn.results.mapM (resF a.tmps) >>= fun vs => pure (if h : vs.size = 1 then vs[0] else .tuple vs) := by
    unfold results
    congr 1
  rw [e2, Sem.run_bind, e]
  simp only [Result.andThen_ok, Sem.run_pure]
  congr 1
  match us with
  | [] => rfl
  | [u] => rfl
  | u :: u' :: us =>
    unfold retVal
    rw [dif_neg (by simp)]
/-- What a result stands for in the call's own. -/
def RK.info (γ : Gam) (st : St) : RK → Info
  | .own _ t =>
    match (st.tm[t]? : Option V) with
    | some (.own k _ _) => (γ k).getD .emp
    | _ => .emp
  | _ => .emp
theorem castL_some {e' e : Sh} {xs : List e'.den} {ys : List e.den} (h : castL e' e xs = some ys) : ∃ he : e' = e, ys = he ▸ xs := by
  unfold castL at h
  split at h
  · rename_i he
    cases h
    exact ⟨he, rfl⟩
  · cases h
theorem OwnSl.weak {i : Info} {n len : Nat} {nilE t : Bool} {v : Value} (h : OwnSl i n len nilE none t v) : OwnSl i n len false none false v := by
  cases i with
  | emp =>
    obtain ⟨a, h1, h2, h3, h4⟩ := h
    exact ⟨a, h1, by simp, h3, h4⟩
  | «at» b c =>
    obtain ⟨h1, h2, h3⟩ := h
    exact ⟨h1, h2, by simp⟩
theorem objR.weak {e : Sh} {xs : List e.den} {nilE : Bool} {i : Info} (h : objR w A (.arr e xs nilE) i) : objR w A (.arr e xs false) i := by
  cases i with
  | emp => exact h
  | «at» b c => exact ⟨by simp, h.2⟩
/-- One result. -/
theorem RK_get (hT : TabOK P E.T) (hr : RS x γ st a w) {rv : ResultVar} {rk : RK} (hok : rksOK E.T [rv] [rk] = true) {y : rk.den} (hg : rk.get st = some y) (hA : ∀ b, Av x γ w b → A1 b)
    (hO : ∀ k ∈ rk.ownK st, ∀ b c, γ k = some (.at b c) → w0.heap.size ≤ b) (hS : ∀ k ∈ rk.slK st, ∀ b c, γ k = some (.at b c) → A1 b) : ∃ u, (resF a.tmps rv).run P w = .ok u w ∧ RetR1 w0 w A1 (rk.ret y) (rk.info γ st) u := by
  have hA' : ∀ b, Av x γ w b → A1 b ∧ w.heap[b]? = w.heap[b]? := fun b hb => ⟨hA b hb, rfl⟩
  cases rk with
  | own e t =>
    cases rv with
    | cell _ _ => cases hok
    | tmp t' =>
      simp only [rksOK, Bool.and_true] at hok
      have := Nat.eq_of_beq_eq_true hok
      subst this
      refine ⟨_, rfl, ?_⟩
      simp only [RK.get, rOwn] at hg
      split at hg
      · rename_i k b hv
        obtain ⟨i, e', xs, nilE, h1, h2, h3⟩ := hr.tm _ _ hv
        simp only [elemsAs, elems, h2, view] at hg
        obtain ⟨rfl, rfl⟩ := castL_some hg
        obtain ⟨ob, h4, h5⟩ := hr.inv.own k i h1
        rw [h2] at h4
        cases h4
        simp only [RK.info, hv, h1, Option.getD_some]
        refine ⟨(objR.mono hA' _ i (fun _ _ _ => rfl) h5).weak, h3.weak, fun b c hi => ?_⟩
        have h6 := hr.inv.rng k b c (hi ▸ h1)
        exact ⟨hO k (by simp [RK.ownK, hv]) b c (hi ▸ h1), h6.2⟩
      · cases hg
  | sl e t =>
    cases rv with
    | cell _ _ => cases hok
    | tmp t' =>
      simp only [rksOK, Bool.and_true] at hok
      have := Nat.eq_of_beq_eq_true hok
      subst this
      refine ⟨_, rfl, ?_⟩
      simp only [RK.get, rSl] at hg
      split at hg
      · rename_i v hv
        have hVR := hr.tm _ _ hv
        have key : ∀ (keys : List Nat), (∀ k ∈ v.ownKey, k ∈ keys) → (∀ k ∈ keys, ∀ b c, γ k = some (.at b c) → A1 b) → ∀ tt, gnd st.hp v = some (.c (.sl e y tt)) → RetR1 w0 w A1 (.val (.sl e y false)) .emp (a.tmps.getD t' undef) := by
          intro keys hk hkA tt hgn
          have := gnd_VR hr.inv hgn hVR hk
          obtain ⟨ad, cap, c1, c2, c3, c4⟩ : CR w (A0k x γ w keys) (.sl e y tt) (a.tmps.getD t' undef) := this
          have hA2 : ∀ b, A0k x γ w keys b → A1 b ∧ w.heap[b]? = w.heap[b]? := by
            rintro b (hb | ⟨k, hk, c, hc⟩)
            · exact hA' b hb
            · exact ⟨hkA k hk b c hc, rfl⟩
          exact ⟨ad, cap, c1, c2, by simp, c4.mono hA2 fun x us hx => VRs.mono hA2 e x us hx⟩
        simp only [elemsAs] at hg
        split at hg
        · rename_i e' xs he
          obtain ⟨rfl, rfl⟩ := castL_some hg
          cases v with
          | own k win tt =>
            simp only [elems] at he
            split at he
            · rename_i e2 xs2 n2 hH
              cases he
              refine key [k] (by simp [V.ownKey]) ?_ tt (by simp only [gnd, gnd1, hH])
              intro k' hk' b c hc
              rw [List.mem_singleton.1 hk'] at hc
              exact hS k (by simp [RK.slK, hv]) b c hc
            · cases he
          | c y' =>
            cases y' with
            | sl e2 xs2 tt =>
              cases he
              exact key [] (by simp [V.ownKey]) (by simp) tt rfl
            | _ => simp [elems] at he
          | _ => simp [elems] at he
        · cases hg
      · cases hg
  | c s t =>
    cases rv with
    | cell _ _ => cases hok
    | tmp t' =>
      simp only [rksOK, Bool.and_true] at hok
      have := Nat.eq_of_beq_eq_true hok
      subst this
      refine ⟨_, rfl, ?_⟩
      simp only [RK.get] at hg
      split at hg
      · rename_i v hv
        obtain ⟨vs, h1, h2⟩ := valOf_VRs hg (hr.tm _ _ hv)
        exact mk1_R h1 hA h2
      · cases hg
  | box s t =>
    cases rv with
    | tmp _ => cases hok
    | cell t' ty =>
      simp only [rksOK, Bool.and_true, Bool.and_eq_true] at hok
      have := Nat.eq_of_beq_eq_true hok.1
      subst this
      have hty := of_decide_eq_true hok.2
      simp only [RK.get, rBox] at hg
      split at hg
      · rename_i k off hv
        obtain ⟨b, c, h1, h2⟩ := hr.tm _ _ hv
        split at hg
        · rename_i cs hH
          obtain ⟨ob, h3, h4⟩ := hr.inv.own k _ h1
          rw [hH] at h3
          cases h3
          obtain ⟨cur, et, h5, h6⟩ := h4
          obtain ⟨hd, hg⟩ := cond_some hg rfl
          have hd := of_decide_eq_true hd
          have hV := VRs.of_ofC s _ y _ hg ((h6.drop off).take s.nc)
          have hl2 := h6.length
          simp only [Array.length_toList] at hl2
          refine ⟨if s.agg = true then .agg ((cur.toList.drop off).take s.nc).toArray else ((cur.toList.drop off).take s.nc).headD undef, ?_, mk1_R hV hA rfl⟩
          have hsh := hT.sh ty s hty
          have hnc : s.agg = false → s.nc = 1 := nagg_one
          have hle : off + s.nc ≤ cur.size := by omega
          have hrun := run_load_shape (P := P) (w := w) hsh.base h5 hle hnc
          simp only [Instr.loadAt, Instr.sureAddr, Sem.run_bind, Sem.run_pure, Result.andThen_ok] at hrun
          simp only [resF, h2, asAddr, Sem.run_bind, Sem.run_pure, Result.andThen_ok]
          rw [hrun]
          congr 1
          split
          · rfl
          · rename_i hag
            have h1 := hnc (by simpa using hag)
            rw [h1]
            have hlt : off < cur.size := by omega
            simp [List.getD, List.take_one, List.head?_drop, hlt]
        · cases hg
      · cases hg
  | lay e t => cases rv <;> cases hok
theorem info_at {rk : RK} {b c : Nat} (h : rk.info γ st = .at b c) : ∃ k ∈ rk.ownK st, γ k = some (.at b c) := by
  cases rk with
  | own e t =>
    simp only [RK.info] at h
    split at h
    · rename_i k _ _ hv
      cases hg : γ k with
      | none => rw [hg] at h; cases h
      | some i =>
        rw [hg] at h
        simp only [Option.getD_some] at h
        exact ⟨k, by simp [RK.ownK, hv], by rw [hg, h]⟩
    · cases h
  | _ => cases h
theorem rksOK_cons {T : Tab} {rv : ResultVar} {rk : RK} {rvs : List ResultVar} {rks : List RK} (h : rksOK T (rv :: rvs) (rk :: rks) = true) : rksOK T [rv] [rk] = true ∧ rksOK T rvs rks = true := by
  cases rv <;> cases rk <;> simp only [rksOK, Bool.and_eq_true, Bool.and_true] at h ⊢ <;> first | exact h | cases h
/-- All results. -/
theorem RKs_get (hT : TabOK P E.T) (hr : RS x γ st a w) (hA : ∀ b, Av x γ w b → A1 b) : ∀ (rks : List RK) (rvs : List ResultVar) (y : rksDen rks), rksOK E.T rvs rks = true → rtL st rks = some y →
    (rks.flatMap (RK.ownK st)).Nodup → (∀ k ∈ rks.flatMap (RK.ownK st), ∀ b c, γ k = some (.at b c) → w0.heap.size ≤ b) → (∀ k ∈ rks.flatMap (RK.slK st), ∀ b c, γ k = some (.at b c) → A1 b) →
    ∃ us, (rvs.mapM (resF a.tmps)).run P w = .ok us w ∧ RetRs w0 w A1 (rets rks y) (rks.map (RK.info γ st)) us := by
  intro rks
  induction rks with
  | nil =>
    intro rvs y hok h hnd hO hS
    cases rvs with
    | nil => exact ⟨[], rfl, trivial⟩
    | cons rv rvs => cases rv <;> cases hok
  | cons rk rks ih =>
    intro rvs y hok h hnd hO hS
    cases rvs with
    | nil => cases rk <;> cases hok
    | cons rv rvs =>
      obtain ⟨hok1, hok2⟩ := rksOK_cons hok
      rw [List.flatMap_cons, List.nodup_append] at hnd
      have hO1 : ∀ k ∈ rk.ownK st, ∀ b c, γ k = some (.at b c) → w0.heap.size ≤ b := fun k hk => hO k (by rw [List.flatMap_cons]; exact List.mem_append.2 (.inl hk))
      have hO2 : ∀ k ∈ rks.flatMap (RK.ownK st), ∀ b c, γ k = some (.at b c) → w0.heap.size ≤ b := fun k hk => hO k (by rw [List.flatMap_cons]; exact List.mem_append.2 (.inr hk))
      have hS1 : ∀ k ∈ rk.slK st, ∀ b c, γ k = some (.at b c) → A1 b := fun k hk => hS k (by rw [List.flatMap_cons]; exact List.mem_append.2 (.inl hk))
      have hS2 : ∀ k ∈ rks.flatMap (RK.slK st), ∀ b c, γ k = some (.at b c) → A1 b := fun k hk => hS k (by rw [List.flatMap_cons]; exact List.mem_append.2 (.inr hk))
      have dis : ∀ b c, rk.info γ st = .at b c → ∀ j ∈ rks.map (RK.info γ st), ∀ c', j ≠ .at b c' := by
        intro b c hi j hj c' he
        obtain ⟨k, hk, hg⟩ := info_at hi
        obtain ⟨rk', hm, rfl⟩ := List.mem_map.1 hj
        obtain ⟨k', hk', hg'⟩ := info_at he
        have := hr.inv.inj k k' b c c' hg hg'
        subst this
        exact hnd.2.2 k hk k (List.mem_flatMap.2 ⟨rk', hm, hk'⟩) rfl
      cases rks with
      | nil =>
        obtain ⟨u, h1, h2⟩ := RK_get hT hr hok1 (y := y) h hA hO1 hS1
        cases rvs with
        | nil =>
          refine ⟨[u], ?_, h2, dis, trivial⟩
          simp only [List.mapM_cons, List.mapM_nil, Sem.run_bind, h1, Result.andThen_ok, Sem.run_pure]
        | cons rv' rvs => cases rv' <;> cases hok2
      | cons rk' rks =>
        obtain ⟨y1, h1, h⟩ := Option.bind_eq_some_iff.1 h
        obtain ⟨y2, h2, h⟩ := Option.bind_eq_some_iff.1 h
        cases h
        obtain ⟨u, h3, h4⟩ := RK_get hT hr hok1 h1 hA hO1 hS1
        obtain ⟨us, h5, h6⟩ := ih rvs y2 hok2 h2 hnd.2.1 hO2 hS2
        refine ⟨u :: us, ?_, h4, dis, h6⟩
        simp only [List.mapM_cons, Sem.run_bind, h3, Result.andThen_ok, h5, Sem.run_pure]
theorem rtG_RetR (hT : TabOK P E.T) (hr : RS x γ st a w) (hB : x.B = w0.heap.size) (hM : ∀ b, ¬ x.M b) {fn : Func} {rks : List RK} {y : rksDen rks} (hok : rksOK E.T fn.results.toList rks = true) (h : rtG rks st = some y) :
    ∃ u, (results fn a.tmps).run P w = .ok u w ∧ RetR w0 w x.A0 (rets rks y) u := by
  unfold rtG at h
  obtain ⟨hk, h⟩ := cond_some h rfl
  simp only [rkOK, Bool.and_eq_true] at hk
  have hnd := nodupB_spec hk.1
  let A1 : Nat → Prop := newA w0 w x.A0 (rks.map (RK.info γ st))
  have hA : ∀ b, Av x γ w b → A1 b := by
    intro b hb
    refine ⟨hb.1, fun hlt => hb.2.1 (by omega), fun i hi c he => ?_⟩
    obtain ⟨rk, _, rfl⟩ := List.mem_map.1 hi
    obtain ⟨k, _, hg⟩ := info_at he
    exact hb.2.2 k c hg
  have hS : ∀ k ∈ rks.flatMap (RK.slK st), ∀ b c, γ k = some (.at b c) → A1 b := by
    intro k hkm b c hg
    have h1 := hr.inv.rng k b c hg
    have h2 := h1.1.resolve_right (hM b)
    refine ⟨h1.2, fun hlt => by omega, fun i hi c' he => ?_⟩
    obtain ⟨rk, hm, rfl⟩ := List.mem_map.1 hi
    obtain ⟨k', hk', hg'⟩ := info_at he
    have := hr.inv.inj k k' b c c' hg hg'
    subst this
    have h3 := List.all_eq_true.1 hk.2 k hkm
    rw [mem_memN.2 (List.mem_flatMap.2 ⟨rk, hm, hk'⟩)] at h3
    cases h3
  obtain ⟨us, h1, h2⟩ := RKs_get hT hr hA rks fn.results.toList y hok h hnd (fun k _ b c hg => by rw [← hB]; exact (hr.inv.rng k b c hg).1.resolve_right (hM b)) hS
  exact ⟨retVal us, results_run h1, rks.map (RK.info γ st), us, rfl, h2⟩
/-! ### Parameters -/
theorem aPtr_VR1 {s : Sh} {v : V} {y : s.den} {u : Value} (h : aPtr s v = some y) (hv : VR1 γ w A H v u) : VR1 γ w A H (.iptr (cells s y)) u := by
  unfold aPtr at h
  split at h
  · rename_i cs
    obtain ⟨b, o, cur, et, fz, h1, h2, h3, h4, h5⟩ := hv
    have hV := VRs.of_ofC s _ y _ h (h5.take s.nc)
    have hl := hV.length
    simp only [List.length_take, List.length_drop, Array.length_toList] at hl
    have hC := CR.of_VRs s y _ hV
    refine ⟨b, o, cur, et, fz, h1, h2, h3, by rw [cells_length]; omega, ?_⟩
    rw [cells_length]
    rw [List.take_take, Nat.min_eq_left (by omega)] at hC
    exact hC
  · cases h
theorem capsArg_VR1 : ∀ (l : List Sh) (vs : List V) (us : List Value) (y : capsDen l), capsArg l vs = some y → All2 (VR1 γ w A H) vs us → All2 (VR1 γ w A H) (capsV l y) us
  | [], [], us, y, h, hv => hv
  | s :: l, v :: vs, [], y, h, hv => hv.elim
  | s :: l, v :: vs, u :: us, y, h, hv => by
    simp only [capsArg] at h
    obtain ⟨y1, h1, h⟩ := Option.bind_eq_some_iff.1 h
    obtain ⟨y2, h2, h⟩ := Option.bind_eq_some_iff.1 h
    cases h
    exact ⟨aPtr_VR1 h1 hv.1, capsArg_VR1 l vs us y2 h2 hv.2⟩
  | [], _ :: _, _, _, h, _ => by cases h
  | _ :: _, [], _, _, h, _ => by cases h
theorem PK.arg_val {pk : PK} {v : V} {y : pk.den} {u : Value} (h : pk.arg v = some y) (hv : VR γ w A H v u) : VR γ w A H (pk.val y) u := by
  cases pk with
  | c s =>
    obtain ⟨vs, h1, h2⟩ := valOf_VRs h hv
    have hc := CR.of_VRs s y vs h1
    simp only [PK.val]
    cases hs : s.agg with
    | true =>
      rw [hs] at h2
      exact ⟨vs, by simpa using h2, hc⟩
    | false =>
      rw [hs] at h2
      simp only [cond_false]
      have hl := cells_length s y
      rw [nagg_one hs] at hl
      match hcs : cells s y, hl with
      | [z], _ =>
        rw [hcs] at hc
        obtain ⟨v', rfl, hv'⟩ := hc.one
        simp at h2
        subst h2
        exact hv'
  | p s =>
    have : VR1 γ w A H v u := by
      simp only [PK.arg, aPtr] at h
      split at h
      · exact hv
      · cases h
    exact aPtr_VR1 h this
  | f g caps =>
    simp only [PK.arg] at h
    split at h
    · rename_i g' vs
      obtain ⟨hg, h⟩ := cond_some h rfl
      have := Nat.eq_of_beq_eq_true hg
      subst this
      obtain ⟨us, h1, h2⟩ := hv
      exact ⟨us, h1, capsArg_VR1 caps vs us y h h2⟩
    · cases h
theorem pksV_len : ∀ (l : List PK) (xs : pksDen l), (pksV l xs).length = l.length
  | [], _ => rfl
  | _ :: l, xs => by simp [pksV, pksV_len l]
theorem pksArg_VR : ∀ (l : List PK) (vs : List V) (us : List Value) (xs : pksDen l), pksArg l vs = some xs → All2 (VR γ w A H) vs us → All2 (VR γ w A H) (pksV l xs) us
  | [], [], us, xs, h, hv => hv
  | s :: l, v :: vs, [], y, h, hv => hv.elim
  | s :: l, v :: vs, u :: us, y, h, hv => by
    simp only [pksArg] at h
    obtain ⟨y1, h1, h⟩ := Option.bind_eq_some_iff.1 h
    obtain ⟨y2, h2, h⟩ := Option.bind_eq_some_iff.1 h
    cases h
    exact ⟨PK.arg_val h1 hv.1, pksArg_VR l vs us y2 h2 hv.2⟩
  | [], _ :: _, _, _, h, _ => by cases h
  | _ :: _, [], _, _, h, _ => by cases h
/-! ### A function's contract -/
/-- The state in which a call begins. -/
theorem RS.start {pks : List PK} {xs : pksDen pks} {vs : List V} {args : List Value} {n : Nat} (hds : [] = x.ds) (hx : x.w0 = w) (hxB : x.B = w.heap.size) (hpin : ∀ k, x.pin k = none) (hA0 : ∀ b, x.A0 b → b < w.heap.size) (hv : pksArg pks vs = some xs)
    (hargs : All2 (VR noGam w x.A0 emp) vs args) : RS x noGam (st0 pks xs n) { tmps := args.toArray ++ Array.replicate (n - args.toArray.size) undef, defers := [] } w := by
  have h1 := pksArg_VR pks vs args xs hv hargs
  have hlen := h1.length
  rw [pksV_len] at hlen
  have hav : ∀ b, x.A0 b → Av x noGam w b ∧ w.heap[b]? = w.heap[b]? := fun b hb => ⟨⟨hA0 b hb, fun _ => hb, fun k c h => by cases h⟩, rfl⟩
  refine ⟨⟨by omega, by rw [hx], by rw [hx], by rw [hx], fun b _ _ => by rw [hx], fun k i h => (by cases h), fun k b c h => (by cases h), fun k k' b c c' h => (by cases h), fun k i h => by rw [hpin k] at h; cases h⟩, ?_, ?_, hds⟩
  · simp only [st0, List.length_append, pksV_len, List.length_replicate, Array.size_append, List.size_toArray, Array.size_replicate]
    omega
  · intro t v hv'
    simp only [st0, List.getElem?_append] at hv'
    split at hv'
    · rename_i hlt
      obtain ⟨u, hu, hvr⟩ := h1.get hv'
      have : (args.toArray ++ Array.replicate (n - args.toArray.size) undef).getD t undef = u := by
        have hta : t < args.length := (List.getElem?_eq_some_iff.1 hu).1
        rw [Array.getD_eq_getD_getElem?, Array.getElem?_append_left (by simpa using hta)]
        simp [hu]
      rw [this]
      exact VR.mono hav v u hvr
    · rw [List.getElem?_replicate] at hv'
      split at hv'
      · cases hv'
        trivial
      · cases hv'
theorem FC.of_runG (hT : TabOK P E.T) (hE : EqsOK P E.T) (hphi : EnvOK P E) (hpar : EnvPar E) (hm : P.follows .mixedOrders = true) {sc : Scp} {g : FuncId} {fn : Func} {c : Code} {an : Ann} (hsc : ∀ x, ∀ p ∈ occ c an, ScAt P x sc p.1 p.2) {pks : List PK} {rks : List RK} {xs : pksDen pks} {vs : List V}
    {r : rksDen rks} (hf : P.funcs[g]? = some fn) (hb : fn.body = some c) (hrk : rksOK E.T fn.results.toList rks = true) (hv : pksArg pks vs = some xs) (h : runG E sc c an (rtG rks) (fun _ _ => none) (rtG rks) (st0 pks xs fn.ntmps) = some r) : FC P g vs (rets rks r) := by
  intro w A0 args hA0 hargs hgl
  let x : Cx := { B := w.heap.size, M := fun _ => False, A0 := A0, w0 := w, ma := fun _ h => h.elim, glob := ⟨rfl, hgl⟩, gM := fun _ _ _ h => h }
  have hr := RS.start (x := x) (n := fn.ntmps) rfl rfl rfl (fun _ => rfl) hA0 hv hargs
  have fin : ∀ st γ a w', rtG rks st = some r → RS x γ st a w' → a.defers = [] ∧ ∃ v, (results fn a.tmps).run P w' = .ok v w' ∧ (Grows w w' ∧ RetR w w' A0 (rets rks r) v) := by
    intro st γ a w' hrt hr'
    obtain ⟨u, h1, h2⟩ := rtG_RetR (w0 := w) hT hr' rfl (fun _ h => h) hrk hrt
    exact ⟨hr'.nod, u, h1, ⟨hr'.inv.size, hr'.inv.os, hr'.inv.tape, hr'.inv.output, fun b hb => hr'.inv.blk b hb (fun h => h)⟩, h2⟩
  refine calls_of_wp hf hb (runG_sound hT hE hphi hpar hm c an (hsc x) _ _ _ _ _ _ _ _ h hr ⟨?_, ?_, ?_⟩)
  · intro st γ a w' hrt hr'
    exact fin st γ a w' hrt hr'
  · intro j st γ a w' hrt hr'
    cases hrt
  · intro st γ a w' hrt hr'
    exact fin st γ a w' hrt hr'
/-- A callee's place in what is called. -/
def FCs (P : Program) (g : FuncId) (F : List V → (ρ : Type) → (Ret → Option ρ) → Option ρ) : Prop :=
  ∀ vs ρ (K : Ret → Option ρ) r, F vs ρ K = some r → ∃ ret, K ret = some r ∧ FC P g vs ret
def Par1 (F : List V → (ρ : Type) → (Ret → Option ρ) → Option ρ) : Prop :=
  ∀ vs (ρ : Type) (K : Ret → Option ρ) r, F vs ρ K = some r → ∃ ret, K ret = some r ∧ ∀ (ρ' : Type) (K' : Ret → Option ρ'), F vs ρ' K' = K' ret
def CallOK (P : Program) (g : FuncId) : Prop := ∀ args w, (callFunc g args).run P w = .ok (.enter g args) w
theorem callOK_of {g : FuncId} {fn : Func} (hf : P.funcs[g]? = some fn) (hn : (fn.name == "runtime.NumGoroutine") = false) (hb : fn.body.isNone = false) : CallOK P g := by
  intro args w
  unfold callFunc
  simp only [Sem.run_bind]
  have : (program : Sem Program).run P w = .ok P w := rfl
  rw [this]
  simp only [Result.andThen_ok, hf, hn, hb, Bool.false_eq_true, if_false, Sem.run_pure]
theorem phiOf_FCs {g : FuncId} {pks : List PK} {rks : List RK} {S : pksDen pks → Option (rksDen rks)} (h : ∀ xs r, S xs = some r → ∀ vs, pksArg pks vs = some xs → FC P g vs (rets rks r)) : FCs P g (phiOf pks rks S) := by
  intro vs ρ K r hk
  unfold phiOf at hk
  obtain ⟨xs, h1, hk⟩ := Option.bind_eq_some_iff.1 hk
  obtain ⟨y, h2, hk⟩ := Option.bind_eq_some_iff.1 hk
  exact ⟨_, hk, h xs y h2 vs h1⟩
theorem phiOf_Par1 {pks : List PK} {rks : List RK} {S : pksDen pks → Option (rksDen rks)} : Par1 (phiOf pks rks S) := by
  intro vs ρ K r hk
  unfold phiOf at hk
  obtain ⟨xs, h1, hk⟩ := Option.bind_eq_some_iff.1 hk
  obtain ⟨y, h2, hk⟩ := Option.bind_eq_some_iff.1 hk
  refine ⟨_, hk, fun ρ' K' => ?_⟩
  simp only [phiOf, h1, Option.bind_some, h2]
def noPhi : Phi := fun _ _ _ _ => none
theorem noPhi_ok : PhiOK P noPhi := by intro g vs ρ K r h; cases h
theorem noPhi_par : PhiPar noPhi := by intro g vs ρ K r h; cases h
/-- One callee more. -/
def consPhi (g : FuncId) (q : List V → Bool) (F : List V → (ρ : Type) → (Ret → Option ρ) → Option ρ) (phi : Phi) : Phi := fun g' vs ρ K => bif Nat.beq g' g && q vs then F vs ρ K else phi g' vs ρ K
theorem consPhi_ok {g : FuncId} {q : List V → Bool} {F : List V → (ρ : Type) → (Ret → Option ρ) → Option ρ} {phi : Phi} (hF : FCs P g F) (hc : CallOK P g) (h : PhiOK P phi) : PhiOK P (consPhi g q F phi) := by
  intro g' vs ρ K r hk
  unfold consPhi at hk
  cases hb : Nat.beq g' g && q vs with
  | true =>
    rw [hb] at hk
    rw [Bool.and_eq_true] at hb
    have := Nat.eq_of_beq_eq_true hb.1
    subst this
    obtain ⟨ret, h1, h2⟩ := hF vs ρ K r hk
    exact ⟨ret, h1, h2, hc⟩
  | false =>
    rw [hb] at hk
    exact h g' vs ρ K r hk
theorem consPhi_par {g : FuncId} {q : List V → Bool} {F : List V → (ρ : Type) → (Ret → Option ρ) → Option ρ} {phi : Phi} (hF : Par1 F) (h : PhiPar phi) : PhiPar (consPhi g q F phi) := by
  intro g' vs ρ K r hk
  unfold consPhi at hk ⊢
  cases hb : Nat.beq g' g && q vs with
  | true =>
    rw [hb] at hk
    exact hF vs ρ K r hk
  | false =>
    rw [hb] at hk
    exact h g' vs ρ K r hk
theorem eqsB_ok {T : Tab} (h : T.eqs.all (eqsB P) = true) : EqsOK P T :=
  ⟨fun t s hl => List.all_eq_true.1 h _ (look_mem hl)⟩
end
end Go.Vi
/-
  Vi: functions that write what they are handed: a contract out of a run.
-/
set_option linter.unusedVariables false
set_option linter.unusedSimpArgs false
namespace Go.Vi
open Op
section
variable {P : Program} {E : Env} {x : Cx} {γ γ' : Gam} {w w0 : World} {a : Act} {st st' : St} {A A0 A1 : Nat → Prop}
variable {Q : Exit → Act → World → Prop} {H H' : Heap} {ρ : Type} {k : St → Option ρ} {r : ρ}
theorem updAll_in {H : Heap} : ∀ {L : List (Nat × O)} {k : Nat} {ob : O}, (L.map (·.1)).Nodup → (k, ob) ∈ L → updAll H L k = some ob
  | [], _, _, _, h => by cases h
  | (k', ob') :: L, k, ob, hn, h => by
    obtain ⟨h1, h2⟩ := List.nodup_cons.1 hn
    simp only [updAll]
    rcases List.mem_cons.1 h with h | h
    · cases h
      exact upd_self _ _ _
    · have hne : k ≠ k' := fun e => h1 (by
        simp only
        rw [← e]
        exact List.mem_map.2 ⟨(k, ob), h, rfl⟩)
      rw [upd_ne _ _ hne]
      exact updAll_in h2 h
def qksCnt : List QK → Nat
  | [] => 0
  | k :: r => k.cnt + qksCnt r
theorem boxes_keys : ∀ (n : Nat) (l : List Sh) (y : capsDen l), (boxes n l y).map (·.1) = List.range' (pinLo + n) l.length
  | _, [], _ => rfl
  | n, s :: r, y => by
    simp only [boxes, List.map_cons, List.length_cons, List.range'_succ]
    rw [boxes_keys (n + 1) r y.2, Nat.add_assoc]
theorem objs_keys (n : Nat) (k : QK) (y : k.den) : (k.objs n y).map (·.1) = List.range' (pinLo + n) k.cnt := by
  cases k with
  | pl k => rfl
  | oa e => rfl
  | ob s => rfl
  | «of» g caps => exact boxes_keys n caps y
  | fp g caps => exact boxes_keys n caps y
  | sf f cds => rfl
theorem qksH_keys : ∀ (n : Nat) (l : List QK) (y : qksDen l), (qksH n l y).map (·.1) = List.range' (pinLo + n) (qksCnt l)
  | _, [], _ => rfl
  | n, k :: r, y => by
    simp only [qksH, List.map_append, objs_keys, qksH_keys (n + k.cnt) r, qksCnt]
    rw [← Nat.add_assoc, List.range'_append_1]
theorem boxOf_io {s : Sh} {v : V} {y : s.den} {i : Info} {u : Value} (h : boxOf s v = some y) (hv : IoV w A0 v i u) : (∃ b c, i = .at b c ∧ u = .pointer (some ⟨b, 0, none⟩)) ∧ objR w A0 (.box (cells s y)) i := by
  unfold boxOf at h
  split at h
  · rename_i cs
    obtain ⟨⟨b, c, rfl, hu⟩, cur, et, h1, h2⟩ := hv
    exact ⟨⟨b, c, rfl, hu⟩, cur, et, h1, CR.of_VRs s y _ (VRs.of_ofC s cs y _ h h2)⟩
  · cases h
/-- The things that are handed in, one by one: the value in the slot, and what it stands for. -/
theorem boxes_VR : ∀ (n : Nat) (l : List Sh) (vs : List V) (is : List Info) (us : List Value) (y : capsDen l), boxesOf l vs = some y → IoL w A0 vs is us → (∀ j i, is[j]? = some i → γ (pinLo + (n + j)) = some i) →
    All2 (VR1 γ w A H) (ptrs n l) us ∧ is.length = l.length ∧ ∀ j i, is[j]? = some i → ∃ ob, (pinLo + (n + j), ob) ∈ boxes n l y ∧ objR w A0 ob i
  | n, [], [], [], [], y, h, hv, hg => ⟨trivial, rfl, by simp⟩
  | n, s :: l, v :: vs, i :: is, u :: us, y, h, hv, hg => by
    simp only [boxesOf] at h
    obtain ⟨y1, h1, h⟩ := Option.bind_eq_some_iff.1 h
    obtain ⟨y2, h2, h⟩ := Option.bind_eq_some_iff.1 h
    cases h
    obtain ⟨⟨b, c, hi, hu⟩, ho⟩ := boxOf_io h1 hv.1
    obtain ⟨i1, i2, i3⟩ := boxes_VR (n + 1) l vs is us y2 h2 hv.2 fun j i' hj => by
      have := hg (j + 1) i' (by simpa using hj)
      rwa [show n + 1 + j = n + (j + 1) by omega]
    refine ⟨⟨⟨b, c, by rw [← hi]; exact hg 0 i (by simp), hu⟩, i1⟩, by simp [i2], fun j i' hj => ?_⟩
    cases j with
    | zero =>
      simp at hj
      subst hj
      exact ⟨_, by simp [boxes], ho⟩
    | succ j =>
      obtain ⟨ob, hm, hr⟩ := i3 j i' (by simpa using hj)
      rw [show n + 1 + j = n + (j + 1) by omega] at hm
      exact ⟨ob, by simp [boxes, hm], hr⟩
  | _, [], _ :: _, _, _, _, h, _, _ => by cases h
  | _, _ :: _, [], _, _, _, h, _, _ => by cases h
  | _, [], [], _ :: _, _, _, _, h, _ => by exact h.elim
  | _, [], [], [], _ :: _, _, _, h, _ => h.elim
  | _, _ :: _, _ :: _, [], _, _, _, h, _ => h.elim
  | _, _ :: _, _ :: _, _ :: _, [], _, _, h, _ => h.elim
theorem PK.val_refs (pk : PK) (y : pk.den) (k : Nat) : refs k (pk.val y) = false := by
  cases pk with
  | c s =>
    simp only [PK.val]
    cases hs : s.agg with
    | true => rfl
    | false =>
      simp only [cond_false]
      split <;> rfl
  | p s => rfl
  | f g caps =>
    have : ∀ (l : List Sh) (y : capsDen l), refsAny k (capsV l y) = false := by
      intro l
      induction l with
      | nil => intro _; rfl
      | cons s l ih => intro y; exact ih y.2
    exact this caps y
theorem PtrR.gam (hG : ∀ k i, γ k = some i → γ' k = some i) : ∀ (k : Nat) (u : Value), PtrR γ k u → PtrR γ' k u := by
  rintro k u ⟨b, c, h1, h2⟩
  exact ⟨b, c, hG k _ h1, h2⟩
theorem CDR.gam (hG : ∀ k i, γ k = some i → γ' k = some i) {b : Nat} : ∀ (c : CD) (u : Value), CDR γ w A b c u → CDR γ' w A b c u := by
  intro c u h
  cases c with
  | b k => exact PtrR.gam hG k u h
  | s => exact h
  | v g ks =>
    obtain ⟨b', us, h1, h2, h3⟩ := h
    exact ⟨b', us, h1, h2, h3.mono (PtrR.gam hG)⟩
theorem ptrs_CDR {b : Nat} : ∀ (n : Nat) (l : List Sh) (us : List Value), All2 (VR1 γ w A H) (ptrs n l) us → All2 (CDR γ w A b) (pinBs n l) us
  | _, [], [], _ => trivial
  | n, _ :: l, u :: us, h => ⟨h.1, ptrs_CDR (n + 1) l us h.2⟩
  | _, [], _ :: _, h => h.elim
  | _, _ :: _, [], h => h.elim
theorem qks_VR {is0 : List Info} (hG : ∀ k i, pinG is0 k = some i → γ k = some i) (hA : ∀ b, A0 b → A b) (hH : ∀ k ob, (k, ob) ∈ (qksH 0 ([] : List QK) ()) → H k = some ob) : ∀ (l : List QK) (n : Nat) (vs : List V) (is : List Info) (us : List Value) (y : qksDen l), qksArg l vs = some y → IoRel w A0 is0 (l.map QK.flag) vs is us →
    (∀ j i, is[j]? = some i → γ (pinLo + (n + j)) = some i) → (∀ p ∈ qksH n l y, H p.1 = some p.2) →
    All2 (VR γ w A H) (qksV n l y) us ∧ is.length = qksCnt l ∧ ∀ j i, is[j]? = some i → ∃ ob, (pinLo + (n + j), ob) ∈ qksH n l y ∧ objR w A0 ob i
  | [], n, [], [], [], y, h, hv, hg, hH => ⟨trivial, rfl, by simp⟩
  | .pl k :: l, n, v :: vs, is, u :: us, y, h, hv, hg, hH => by
    simp only [qksArg] at h
    obtain ⟨y1, h1, h⟩ := Option.bind_eq_some_iff.1 h
    obtain ⟨y2, h2, h⟩ := Option.bind_eq_some_iff.1 h
    cases h
    obtain ⟨hv1, hv2⟩ := hv
    obtain ⟨i1, i2, i3⟩ := qks_VR hG hA (fun _ _ h => by cases h) l (n + 0) vs is us y2 h2 hv2 hg fun p hp => hH p (by simpa [qksH, QK.objs, QK.cnt] using hp)
    refine ⟨⟨?_, i1⟩, by simp [qksCnt, QK.cnt, i2], fun j i hj => ?_⟩
    · have h3 : VR (pinG is0) w A0 emp (k.val y1) u := PK.arg_val h1 hv1
      refine VR.keyr _ _ (fun q hq => by
        have hq' : refs q (k.val y1) = true := hq
        rw [PK.val_refs] at hq'
        cases hq') (VR.mono (fun b hb => ⟨hA b hb, rfl⟩) _ _ h3)
    · obtain ⟨ob, hm, hr⟩ := i3 j i hj
      exact ⟨ob, by simpa [qksH, QK.objs, QK.cnt] using hm, hr⟩
  | .oa e :: l, n, v :: vs, [], u :: us, y, h, hv, hg, hH => by
    cases v with
    | fn g caps => simp only [qksArg, QK.arg, Option.bind_none] at h; cases h
    | fpb g caps => simp only [qksArg, QK.arg, Option.bind_none] at h; cases h
    | _ => exact hv.elim
  | .oa e :: l, n, v :: vs, i :: is, u :: us, y, h, hv, hg, hH => by
    simp only [qksArg] at h
    obtain ⟨y1, h1, h⟩ := Option.bind_eq_some_iff.1 h
    obtain ⟨y2, h2, h⟩ := Option.bind_eq_some_iff.1 h
    cases h
    simp only [QK.arg] at h1
    split at h1
    · rename_i e' xs t
      obtain ⟨he, rfl⟩ := castL_eq' h1
      subst he
      obtain ⟨hv1, hv2⟩ : IoV w A0 (.c (.sl e' xs t)) i u ∧ IoRel w A0 is0 (l.map QK.flag) vs is us := hv
      obtain ⟨i1, i2, i3⟩ := qks_VR hG hA (fun _ _ h => by cases h) l (n + 1) vs is us y2 h2 hv2 (fun j i' hj => by
        have := hg (j + 1) i' (by simpa using hj)
        rwa [show n + 1 + j = n + (j + 1) by omega]) fun p hp => hH p (by simp only [qksH, QK.cnt, List.mem_append]; exact .inr hp)
      refine ⟨⟨⟨i, e', xs, false, hg 0 i (by simp), hH (pinLo + n, .arr e' xs false) (by simp [qksH, QK.objs]), hv1.1⟩, i1⟩, by simp [qksCnt, QK.cnt, i2]; omega, fun j i' hj => ?_⟩
      cases j with
      | zero =>
        simp at hj
        subst hj
        exact ⟨_, by simp [qksH, QK.objs], hv1.2⟩
      | succ j =>
        obtain ⟨ob, hm, hr⟩ := i3 j i' (by simpa using hj)
        rw [show n + 1 + j = n + (j + 1) by omega] at hm
        exact ⟨ob, by simp only [qksH, QK.cnt, List.mem_append]; exact .inr hm, hr⟩
    · cases h1
  | .ob s :: l, n, v :: vs, [], u :: us, y, h, hv, hg, hH => by
    cases v with
    | fn g caps => simp only [qksArg, QK.arg, boxOf, Option.bind_none] at h; cases h
    | fpb g caps => simp only [qksArg, QK.arg, boxOf, Option.bind_none] at h; cases h
    | _ => exact hv.elim
  | .ob s :: l, n, v :: vs, i :: is, u :: us, y, h, hv, hg, hH => by
    simp only [qksArg] at h
    obtain ⟨y1, h1, h⟩ := Option.bind_eq_some_iff.1 h
    obtain ⟨y2, h2, h⟩ := Option.bind_eq_some_iff.1 h
    cases h
    obtain ⟨cs, rfl⟩ : ∃ cs, v = .iptr cs := by
      simp only [QK.arg, boxOf] at h1
      split at h1
      · exact ⟨_, rfl⟩
      · cases h1
    obtain ⟨hv1, hv2⟩ : IoV w A0 (.iptr cs) i u ∧ IoRel w A0 is0 (l.map QK.flag) vs is us := hv
    obtain ⟨⟨b, c, hi, hu⟩, ho⟩ := boxOf_io (s := s) (y := y1) (v := .iptr cs) h1 hv1
    obtain ⟨i1, i2, i3⟩ := qks_VR hG hA (fun _ _ h => by cases h) l (n + 1) vs is us y2 h2 hv2 (fun j i' hj => by
      have := hg (j + 1) i' (by simpa using hj)
      rwa [show n + 1 + j = n + (j + 1) by omega]) fun p hp => hH p (by simp only [qksH, QK.cnt, List.mem_append]; exact .inr hp)
    refine ⟨⟨⟨b, c, by rw [← hi]; exact hg 0 i (by simp), hu⟩, i1⟩, by simp [qksCnt, QK.cnt, i2]; omega, fun j i' hj => ?_⟩
    cases j with
    | zero =>
      simp at hj
      subst hj
      exact ⟨_, by simp [qksH, QK.objs], ho⟩
    | succ j =>
      obtain ⟨ob, hm, hr⟩ := i3 j i' (by simpa using hj)
      rw [show n + 1 + j = n + (j + 1) by omega] at hm
      exact ⟨ob, by simp only [qksH, QK.cnt, List.mem_append]; exact .inr hm, hr⟩
  | .of g caps :: l, n, v :: vs, is, u :: us, y, h, hv, hg, hH => by
    simp only [qksArg] at h
    obtain ⟨y1, h1, h⟩ := Option.bind_eq_some_iff.1 h
    obtain ⟨y2, h2, h⟩ := Option.bind_eq_some_iff.1 h
    cases h
    simp only [QK.arg] at h1
    split at h1
    · rename_i g' vs'
      obtain ⟨hgg, h1⟩ := cond_some h1 rfl
      have := Nat.eq_of_beq_eq_true hgg
      subst this
      obtain ⟨is1, is2, us', rfl, hu, hv1, hv2⟩ := hv
      obtain ⟨j1, j2, j3⟩ := boxes_VR (γ := γ) (A := A) (H := H) n caps vs' is1 us' y1 h1 hv1 fun j i hj => hg j i (by
        rw [List.getElem?_append_left (List.getElem?_eq_some_iff.1 hj).1]
        exact hj)
      obtain ⟨i1, i2, i3⟩ := qks_VR hG hA (fun _ _ h => by cases h) l (n + caps.length) vs is2 us y2 h2 hv2 (fun j i' hj => by
        have := hg (caps.length + j) i' (by
          rw [List.getElem?_append_right (by omega), j2, show caps.length + j - caps.length = j by omega]
          exact hj)
        rwa [show n + caps.length + j = n + (caps.length + j) by omega]) fun p hp => hH p (by simp only [qksH, QK.cnt, List.mem_append]; exact .inr hp)
      refine ⟨⟨⟨us', hu, j1⟩, i1⟩, by simp [qksCnt, QK.cnt, i2, j2], fun j i' hj => ?_⟩
      rcases Nat.lt_or_ge j is1.length with hlt | hge
      · rw [List.getElem?_append_left hlt] at hj
        obtain ⟨ob, hm, hr⟩ := j3 j i' hj
        exact ⟨ob, by simp only [qksH, QK.objs, List.mem_append]; exact .inl hm, hr⟩
      · rw [List.getElem?_append_right hge] at hj
        obtain ⟨ob, hm, hr⟩ := i3 (j - is1.length) i' hj
        rw [show n + caps.length + (j - is1.length) = n + j by omega] at hm
        exact ⟨ob, by simp only [qksH, QK.cnt, List.mem_append]; exact .inr hm, hr⟩
    · cases h1
  | .fp g caps :: l, n, v :: vs, is, u :: us, y, h, hv, hg, hH => by
    simp only [qksArg] at h
    obtain ⟨y1, h1, h⟩ := Option.bind_eq_some_iff.1 h
    obtain ⟨y2, h2, h⟩ := Option.bind_eq_some_iff.1 h
    cases h
    simp only [QK.arg] at h1
    split at h1
    · rename_i g' css
      obtain ⟨hgg, h1⟩ := cond_some h1 rfl
      have := Nat.eq_of_beq_eq_true hgg
      subst this
      obtain ⟨is1, is2, us', b, rfl, hu, hbox, hv1, hv2⟩ := hv
      obtain ⟨j1, j2, j3⟩ := boxes_VR (γ := γ) (A := A) (H := H) n caps (css.map .iptr) is1 us' y1 h1 hv1 fun j i hj => hg j i (by
        rw [List.getElem?_append_left (List.getElem?_eq_some_iff.1 hj).1]
        exact hj)
      obtain ⟨i1, i2, i3⟩ := qks_VR hG hA (fun _ _ h => by cases h) l (n + caps.length) vs is2 us y2 h2 hv2 (fun j i' hj => by
        have := hg (caps.length + j) i' (by
          rw [List.getElem?_append_right (by omega), j2, show caps.length + j - caps.length = j by omega]
          exact hj)
        rwa [show n + caps.length + j = n + (caps.length + j) by omega]) fun p hp => hH p (by simp only [qksH, QK.cnt, List.mem_append]; exact .inr hp)
      refine ⟨⟨⟨b, us', hu, hbox.mono (fun b hb => ⟨hA b hb, rfl⟩), ptrs_CDR n caps us' j1⟩, i1⟩, by simp [qksCnt, QK.cnt, i2, j2], fun j i' hj => ?_⟩
      rcases Nat.lt_or_ge j is1.length with hlt | hge
      · rw [List.getElem?_append_left hlt] at hj
        obtain ⟨ob, hm, hr⟩ := j3 j i' hj
        exact ⟨ob, by simp only [qksH, QK.objs, List.mem_append]; exact .inl hm, hr⟩
      · rw [List.getElem?_append_right hge] at hj
        obtain ⟨ob, hm, hr⟩ := i3 (j - is1.length) i' hj
        rw [show n + caps.length + (j - is1.length) = n + j by omega] at hm
        exact ⟨ob, by simp only [qksH, QK.cnt, List.mem_append]; exact .inr hm, hr⟩
    · cases h1
  | .sf f cds :: l, n, v :: vs, is, u :: us, y, h, hv, hg, hH => by
    simp only [qksArg] at h
    obtain ⟨y1, h1, h⟩ := Option.bind_eq_some_iff.1 h
    obtain ⟨y2, h2, h⟩ := Option.bind_eq_some_iff.1 h
    cases h
    obtain ⟨hv1, hv2⟩ := hv
    obtain ⟨i1, i2, i3⟩ := qks_VR hG hA (fun _ _ h => by cases h) l (n + 0) vs is us y2 h2 hv2 hg fun p hp => hH p (by simpa [qksH, QK.objs, QK.cnt] using hp)
    refine ⟨⟨?_, i1⟩, by simp [qksCnt, QK.cnt, i2], fun j i hj => ?_⟩
    · simp only [QK.arg] at h1
      split at h1
      · rename_i f' cds'
        obtain ⟨hd, h1⟩ := cond_some h1 rfl
        rw [Bool.and_eq_true, decide_eq_true_eq] at hd
        obtain ⟨hd1, rfl⟩ := hd
        have := Nat.eq_of_beq_eq_true hd1
        subst this
        obtain ⟨b, us', e1, e2, e3⟩ := hv1
        have hA' : ∀ b, A0 b → A b ∧ w.heap[b]? = w.heap[b]? := fun b hb => ⟨hA b hb, rfl⟩
        exact ⟨b, us', e1, e2.mono hA', (e3.mono (CDR.mono hA')).mono (CDR.gam hG)⟩
      · cases h1
    · obtain ⟨ob, hm, hr⟩ := i3 j i hj
      exact ⟨ob, by simpa [qksH, QK.objs, QK.cnt] using hm, hr⟩
  | [], _, _ :: _, _, _, _, h, _, _, _ => by cases h
  | _ :: _, _, [], _, _, _, h, _, _, _ => by cases h
  | [], _, [], _ :: _, _, _, _, h, _, _ => h.elim
  | [], _, [], [], _ :: _, _, _, h, _, _ => h.elim
  | .pl _ :: _, _, _ :: _, [], [], _, _, h, _, _ => h.elim
  | .pl _ :: _, _, _ :: _, _ :: _, [], _, _, h, _, _ => h.elim
  | .oa _ :: _, _, v :: _, [], [], _, _, h, _, _ => by cases v <;> exact h.elim
  | .oa _ :: _, _, v :: _, _ :: _, [], _, _, h, _, _ => by cases v <;> exact h.elim
  | .ob _ :: _, _, v :: _, [], [], _, _, h, _, _ => by cases v <;> exact h.elim
  | .ob _ :: _, _, v :: _, _ :: _, [], _, _, h, _, _ => by cases v <;> exact h.elim
  | .of _ _ :: _, _, v :: _, [], [], _, _, h, _, _ => by cases v <;> exact h.elim
  | .of _ _ :: _, _, v :: _, _ :: _, [], _, _, h, _, _ => by cases v <;> exact h.elim
  | .fp _ _ :: _, _, v :: _, [], [], _, _, h, _, _ => by cases v <;> exact h.elim
  | .fp _ _ :: _, _, v :: _, _ :: _, [], _, _, h, _, _ => by cases v <;> exact h.elim
  | .sf _ _ :: _, _, _ :: _, [], [], _, _, h, _, _ => h.elim
  | .sf _ _ :: _, _, _ :: _, _ :: _, [], _, _, h, _, _ => h.elim
theorem qksV_len : ∀ (n : Nat) (l : List QK) (xs : qksDen l), (qksV n l xs).length = l.length
  | _, [], _ => rfl
  | n, k :: l, xs => by simp [qksV, qksV_len (n + k.cnt) l]
theorem qksCnt_ods : ∀ (l : List QK), (l.flatMap QK.ods).length = qksCnt l
  | [] => rfl
  | k :: l => by
    rw [List.flatMap_cons, List.length_append, qksCnt_ods l, qksCnt]
    congr 1
    cases k <;> simp [QK.ods, QK.cnt]
theorem OD.get_R {d : OD} {ob : O} {y : d.den} {i : Info} (h : d.get ob = some y) (ho : objR w A ob i) (hA : ∀ b, A b → A1 b) : OutR w A1 (d.out y) i := by
  have hA' : ∀ b, A b → A1 b ∧ w.heap[b]? = w.heap[b]? := fun b hb => ⟨hA b hb, rfl⟩
  cases d with
  | a e =>
    cases ob with
    | arr e' ys n =>
      obtain ⟨he, rfl⟩ := castL_eq' h
      subst he
      exact (objR.mono hA' _ i (fun _ _ _ => rfl) ho).weak
    | _ => cases h
  | b s =>
    cases ob with
    | box cs =>
      cases i with
      | emp => exact ho.elim
      | «at» b c =>
        obtain ⟨cur, et, h1, h2⟩ := ho
        exact ⟨cur, et, h1, (CR.of_VRs s y _ (VRs.of_ofC s cs y _ h h2)).mono (CR.mono hA')⟩
    | _ => cases h
theorem odsGet_R (hr : RS x γ st a w) (hA : ∀ b, Av x γ w b → A1 b) : ∀ (l : List OD) (n : Nat) (is : List Info) (y : odsDen l), odsGet st.hp n l = some y → is.length = l.length → (∀ j i, is[j]? = some i → x.pin (pinLo + (n + j)) = some i) →
    All2 (OutR w A1) (outsOf l y) is ∧ ∀ j i, is[j]? = some i → γ (pinLo + (n + j)) = some i
  | [], n, [], y, h, hl, hp => ⟨trivial, by simp⟩
  | d :: l, n, i :: is, y, h, hl, hp => by
    simp only [odsGet] at h
    split at h
    · rename_i ob hob
      obtain ⟨y1, h1, h⟩ := Option.bind_eq_some_iff.1 h
      obtain ⟨y2, h2, h⟩ := Option.bind_eq_some_iff.1 h
      cases h
      have hpin := hr.inv.pin (pinLo + n) i (hp 0 i (by simp)) (by rw [hob]; simp)
      obtain ⟨ob', h3, h4⟩ := hr.inv.own _ _ hpin
      rw [hob] at h3
      cases h3
      obtain ⟨j1, j2⟩ := odsGet_R hr hA l (n + 1) is y2 h2 (by simpa using hl) fun j i' hj => by
        have := hp (j + 1) i' (by simpa using hj)
        rwa [show n + 1 + j = n + (j + 1) by omega]
      refine ⟨⟨OD.get_R h1 h4 hA, j1⟩, fun j i' hj => ?_⟩
      cases j with
      | zero =>
        simp at hj
        subst hj
        exact hpin
      | succ j =>
        have := j2 j i' (by simpa using hj)
        rwa [show n + 1 + j = n + (j + 1) by omega] at this
    · cases h
  | [], _, _ :: _, _, _, hl, _ => by simp at hl
  | _ :: _, _, [], _, _, hl, _ => by simp at hl
theorem FCio.of_runG (hT : TabOK P E.T) (hE : EqsOK P E.T) (hphi : EnvOK P E) (hpar : EnvPar E) (hm : P.follows .mixedOrders = true) {sc : Scp} {g : FuncId} {fn : Func} {c : Code} {an : Ann} (hsc : ∀ x, ∀ p ∈ occ c an, ScAt P x sc p.1 p.2) {qks : List QK} {rks : List RK} {xs : qksDen qks} {vs : List V}
    {r : rksDen rks × odsDen (qks.flatMap QK.ods)} (hf : P.funcs[g]? = some fn) (hb : fn.body = some c) (hrk : rksOK E.T fn.results.toList rks = true) (hv : qksArg qks vs = some xs)
    (h : runG E sc c an (rtIO rks (qks.flatMap QK.ods)) (fun _ _ => none) (rtIO rks (qks.flatMap QK.ods)) (st1 qks xs fn.ntmps) = some r) : FCio P g (qks.map QK.flag) vs (rets rks r.1) (outsOf (qks.flatMap QK.ods) r.2) := by
  intro w A0 is args hA0 hrel hap hdis hgl
  let M : Nat → Prop := fun b => ∃ i ∈ is, ∃ c, i = .at b c
  let x : Cx := { B := w.heap.size, M := M, A0 := fun b => A0 b ∨ M b, w0 := w, ma := fun _ h => .inr h, pin := fun k => if pinLo ≤ k then is[k - pinLo]? else none,
                  glob := ⟨rfl, hgl.mono (Nat.le_refl _) fun b hb => ⟨.inl hb, rfl⟩⟩,
                  gM := fun g ns hg hM => by
                    obtain ⟨i, hi, c, hic⟩ := hM
                    exact (hdis i hi g c hic).2 (hgl g ns hg).2.1,
                  pinlo := fun k i hk => by
                    have hk' : (if pinLo ≤ k then is[k - pinLo]? else none) = some i := hk
                    split at hk'
                    · assumption
                    · cases hk' }
  let γ : Gam := x.pin
  let H : Heap := updAll emp (qksH 0 qks xs)
  have hpin : ∀ j, γ (pinLo + (0 + j)) = is[j]? := fun j => by
    show (if pinLo ≤ pinLo + (0 + j) then is[pinLo + (0 + j) - pinLo]? else none) = is[j]?
    rw [if_pos (by omega), show pinLo + (0 + j) - pinLo = j by omega]
  have hγ : ∀ k i, γ k = some i → ∃ j, k = pinLo + (0 + j) ∧ is[j]? = some i := by
    intro k i hk
    have hlo := x.pinlo k i hk
    refine ⟨k - pinLo, by omega, ?_⟩
    have := hpin (k - pinLo)
    rw [show pinLo + (0 + (k - pinLo)) = k by omega] at this
    rw [← this]
    exact hk
  have hMA : ∀ b, M b → b < w.heap.size ∧ ¬ A0 b := by
    rintro b ⟨i, hi, c, rfl⟩
    exact hdis _ hi b c rfl
  have hav : ∀ b, A0 b → Av x γ w b := fun b hb => ⟨hA0 b hb, fun _ => .inl hb, fun k c hk => by
    obtain ⟨j, _, hj⟩ := hγ k _ hk
    exact (hMA b ⟨_, List.mem_of_getElem? hj, c, rfl⟩).2 hb⟩
  have hpg : ∀ k i, pinG is k = some i → γ k = some i := by
    intro k i hk
    show (if pinLo ≤ k then is[k - pinLo]? else none) = some i
    unfold pinG at hk
    cases hb : Nat.ble pinLo k with
    | true => rw [hb] at hk; rw [if_pos (Nat.le_of_ble_eq_true hb)]; exact hk
    | false => rw [hb] at hk; cases hk
  have hkeys : ((qksH 0 qks xs).map (·.1)).Nodup := by rw [qksH_keys]; exact List.nodup_range'
  obtain ⟨hV, hlen, hobj⟩ := qks_VR (γ := γ) (H := H) (A := Av x γ w) (is0 := is) hpg hav (fun _ _ h => by cases h) qks 0 vs is args xs hv hrel (fun j i hj => by rw [hpin]; exact hj) (fun p hp => updAll_in hkeys hp)
  have hal := hV.length
  rw [qksV_len] at hal
  have hr : RS x γ (st1 qks xs fn.ntmps) { tmps := args.toArray ++ Array.replicate (fn.ntmps - args.toArray.size) undef, defers := [] } w := by
    refine ⟨⟨Nat.le_refl _, rfl, rfl, rfl, fun b _ _ => rfl, ?_, ?_, ?_, fun k i hk _ => hk⟩, ?_, ?_, rfl⟩
    · intro k i hk
      obtain ⟨j, rfl, hj⟩ := hγ k i hk
      obtain ⟨ob, hm, ho⟩ := hobj j i hj
      exact ⟨ob, updAll_in hkeys hm, objR.mono (fun b hb => ⟨hav b hb, rfl⟩) _ _ (fun _ _ _ => rfl) ho⟩
    · intro k b c hk
      obtain ⟨j, rfl, hj⟩ := hγ k _ hk
      have hm : M b := ⟨_, List.mem_of_getElem? hj, c, rfl⟩
      exact ⟨.inr hm, (hMA b hm).1⟩
    · intro k k' b c c' hk hk'
      obtain ⟨j, rfl, hj⟩ := hγ k _ hk
      obtain ⟨j', rfl, hj'⟩ := hγ k' _ hk'
      have : j = j' := by
        rcases Nat.lt_trichotomy j j' with hlt | he | hlt
        · exfalso
          have h1 := (List.getElem?_eq_some_iff.1 hj)
          have h2 := (List.getElem?_eq_some_iff.1 hj')
          exact List.pairwise_iff_getElem.1 hap j j' h1.1 h2.1 hlt b c c' h1.2 h2.2
        · exact he
        · exfalso
          have h1 := (List.getElem?_eq_some_iff.1 hj)
          have h2 := (List.getElem?_eq_some_iff.1 hj')
          exact List.pairwise_iff_getElem.1 hap j' j h2.1 h1.1 hlt b c' c h2.2 h1.2
      rw [this]
    · simp only [st1, List.length_append, qksV_len, List.length_replicate, Array.size_append, List.size_toArray, Array.size_replicate]
      omega
    · intro t v hv'
      simp only [st1, List.getElem?_append] at hv'
      split at hv'
      · rename_i hlt
        obtain ⟨u, hu, hvr⟩ := hV.get hv'
        have : (args.toArray ++ Array.replicate (fn.ntmps - args.toArray.size) undef).getD t undef = u := by
          have hta : t < args.length := (List.getElem?_eq_some_iff.1 hu).1
          rw [Array.getD_eq_getD_getElem?, Array.getElem?_append_left (by simpa using hta)]
          simp [hu]
        rw [this]
        exact hvr
      · rw [List.getElem?_replicate] at hv'
        split at hv'
        · cases hv'
          trivial
        · cases hv'
  have fin : ∀ st γ' a w', rtIO rks (qks.flatMap QK.ods) st = some r → RS x γ' st a w' → a.defers = [] ∧ ∃ v, (results fn a.tmps).run P w' = .ok v w' ∧
      (GrowsBut is w w' ∧ ∃ js us, v = retVal us ∧ RetRs w w' (newA w w' A0 (js ++ is)) (rets rks r.1) js us ∧ All2 (OutR w' (newA w w' A0 (js ++ is))) (outsOf (qks.flatMap QK.ods) r.2) is) := by
    intro st γ' a w' hrt hr'
    unfold rtIO at hrt
    obtain ⟨hkl, hrt⟩ := cond_some hrt rfl
    obtain ⟨y1, h1, hrt⟩ := Option.bind_eq_some_iff.1 hrt
    obtain ⟨y2, h2, hrt⟩ := Option.bind_eq_some_iff.1 hrt
    cases hrt
    unfold rtG at h1
    obtain ⟨hk, h1⟩ := cond_some h1 rfl
    simp only [rkOK, Bool.and_eq_true] at hk
    have hnd := nodupB_spec hk.1
    have hklo : ∀ k ∈ (rks.flatMap (RK.ownK st)) ++ (rks.flatMap (RK.slK st)), k < pinLo := fun k hkm => Nat.le_of_ble_eq_true (List.all_eq_true.1 hkl k hkm)
    have hpins : ∀ j i, is[j]? = some i → γ' (pinLo + (0 + j)) = some i := by
      obtain ⟨_, j2⟩ := odsGet_R (A1 := Av x γ' w') hr' (fun b hb => hb) (qks.flatMap QK.ods) 0 is y2 h2 (by rw [hlen, qksCnt_ods]) (fun j i hj => by
        have := hpin j
        rw [hj] at this
        exact this)
      exact j2
    -- what the call may not give back lies in blocks of its own
    have hnM : ∀ k b c, k < pinLo → γ' k = some (.at b c) → w.heap.size ≤ b := by
      intro k b c hklt hkb
      rcases (hr'.inv.rng k b c hkb).1 with h | ⟨i, hi, c', rfl⟩
      · exact h
      · exfalso
        obtain ⟨j, hj⟩ := List.getElem?_of_mem hi
        have := hr'.inv.inj k _ b c c' hkb (hpins j _ hj)
        omega
    let js := rks.map (RK.info γ' st)
    have hjs : ∀ i ∈ js, ∀ b c, i = .at b c → ∃ k ∈ rks.flatMap (RK.ownK st), γ' k = some (.at b c) := by
      intro i hi b c he
      obtain ⟨rk, hm, rfl⟩ := List.mem_map.1 hi
      obtain ⟨k, hk, hg⟩ := info_at he
      exact ⟨k, List.mem_flatMap.2 ⟨rk, hm, hk⟩, hg⟩
    have hA1 : ∀ b, Av x γ' w' b → newA w w' A0 (js ++ is) b := by
      intro b hb
      refine ⟨hb.1, fun hlt => ?_, fun i hi c he => ?_⟩
      · rcases hb.2.1 hlt with h | ⟨i, hi, c, rfl⟩
        · exact h
        · exfalso
          obtain ⟨j, hj⟩ := List.getElem?_of_mem hi
          exact hb.2.2 _ c (hpins j _ hj)
      · rcases List.mem_append.1 hi with hi | hi
        · obtain ⟨k, _, hg⟩ := hjs i hi b c he
          exact hb.2.2 k c hg
        · obtain ⟨j, hj⟩ := List.getElem?_of_mem hi
          rw [he] at hj
          exact hb.2.2 _ c (hpins j _ hj)
    have hS : ∀ k ∈ rks.flatMap (RK.slK st), ∀ b c, γ' k = some (.at b c) → newA w w' A0 (js ++ is) b := by
      intro k hkm b c hg
      have hlo := hklo k (List.mem_append.2 (.inr hkm))
      have h5 := hnM k b c hlo hg
      refine ⟨(hr'.inv.rng k b c hg).2, fun hlt => by omega, fun i hi c' he => ?_⟩
      rcases List.mem_append.1 hi with hi | hi
      · obtain ⟨k', hk', hg'⟩ := hjs i hi b c' he
        have := hr'.inv.inj k k' b c c' hg hg'
        subst this
        have h3 := List.all_eq_true.1 hk.2 k hkm
        rw [mem_memN.2 hk'] at h3
        cases h3
      · have := (hMA b ⟨i, hi, c', he⟩).1
        omega
    obtain ⟨us, q1, q2⟩ := RKs_get (w0 := w) hT hr' hA1 rks fn.results.toList y1 hrk h1 hnd (fun k hkm b c hg => hnM k b c (hklo k (List.mem_append.2 (.inl hkm))) hg) hS
    obtain ⟨o1, _⟩ := odsGet_R (A1 := newA w w' A0 (js ++ is)) hr' hA1 (qks.flatMap QK.ods) 0 is y2 h2 (by rw [hlen, qksCnt_ods]) (fun j i hj => by
      have := hpin j
      rw [hj] at this
      exact this)
    refine ⟨hr'.nod, retVal us, results_run q1, ⟨hr'.inv.size, hr'.inv.os, hr'.inv.tape, hr'.inv.output, fun b hb hn => hr'.inv.blk b hb ?_⟩, js, us, rfl, q2, o1⟩
    rintro ⟨i, hi, c, he⟩
    exact hn i hi c he
  refine calls_of_wp hf hb (runG_sound hT hE hphi hpar hm c an (hsc x) _ _ _ _ _ _ _ _ h hr ⟨?_, ?_, ?_⟩)
  · intro st γ a w' hrt hr'
    exact fin st γ a w' hrt hr'
  · intro j st γ a w' hrt hr'
    cases hrt
  · intro st γ a w' hrt hr'
    exact fin st γ a w' hrt hr'
/-! ### What is called -/
def FCios (P : Program) (g : FuncId) (flags : List Bool) (F : List V → (ρ : Type) → (Ret → List Out → Option ρ) → Option ρ) : Prop :=
  ∀ vs ρ (K : Ret → List Out → Option ρ) r, F vs ρ K = some r → ∃ ret outs, K ret outs = some r ∧ FCio P g flags vs ret outs
def Pario1 (F : List V → (ρ : Type) → (Ret → List Out → Option ρ) → Option ρ) : Prop :=
  ∀ vs (ρ : Type) (K : Ret → List Out → Option ρ) r, F vs ρ K = some r → ∃ ret outs, K ret outs = some r ∧ ∀ (ρ' : Type) (K' : Ret → List Out → Option ρ'), F vs ρ' K' = K' ret outs
theorem phioOf_FCios {g : FuncId} {qks : List QK} {rks : List RK} {S : qksDen qks → Option (rksDen rks × odsDen (qks.flatMap QK.ods))} (h : ∀ xs r, S xs = some r → ∀ vs, qksArg qks vs = some xs → FCio P g (qks.map QK.flag) vs (rets rks r.1) (outsOf (qks.flatMap QK.ods) r.2)) :
    FCios P g (qks.map QK.flag) (phioOf qks rks (qks.flatMap QK.ods) S) := by
  intro vs ρ K r hk
  unfold phioOf at hk
  obtain ⟨xs, h1, hk⟩ := Option.bind_eq_some_iff.1 hk
  obtain ⟨y, h2, hk⟩ := Option.bind_eq_some_iff.1 hk
  exact ⟨_, _, hk, h xs y h2 vs h1⟩
theorem phioOf_Pario1 {qks : List QK} {rks : List RK} {ods : List OD} {S : qksDen qks → Option (rksDen rks × odsDen ods)} : Pario1 (phioOf qks rks ods S) := by
  intro vs ρ K r hk
  unfold phioOf at hk
  obtain ⟨xs, h1, hk⟩ := Option.bind_eq_some_iff.1 hk
  obtain ⟨y, h2, hk⟩ := Option.bind_eq_some_iff.1 hk
  refine ⟨_, _, hk, fun ρ' K' => ?_⟩
  simp only [phioOf, h1, Option.bind_some, h2]
/-- The callees that write: which one, by what its arguments are; what is handed in; what it does. -/
structure IoE where
  g : FuncId
  q : List V → Bool
  flags : List Bool
  F : List V → (ρ : Type) → (Ret → List Out → Option ρ) → Option ρ
def iopL : List IoE → FuncId → Option (List Bool)
  | [], _ => none
  | e :: r, g => bif Nat.beq g e.g then some e.flags else iopL r g
def phioL : List IoE → Phio
  | [], _, _, _, _ => none
  | e :: r, g, vs, ρ, K => bif Nat.beq g e.g && e.q vs then e.F vs ρ K else phioL r g vs ρ K
/-- Entries for one function hand in the same. -/
def ioSame : List IoE → Bool
  | [] => true
  | e :: r => r.all (fun e' => !(Nat.beq e'.g e.g) || e'.flags == e.flags) && ioSame r
def IoOK (P : Program) : List IoE → Prop
  | [] => True
  | e :: r => FCios P e.g e.flags e.F ∧ CallOK P e.g ∧ IoOK P r
def IoPar : List IoE → Prop
  | [] => True
  | e :: r => Pario1 e.F ∧ IoPar r
theorem phioL_mem : ∀ {l : List IoE} {g : FuncId} {vs : List V} {ρ : Type} {K : Ret → List Out → Option ρ} {r : ρ}, phioL l g vs ρ K = some r → ∃ e ∈ l, e.g = g ∧ e.F vs ρ K = some r ∧ ∀ (ρ' : Type) (K' : Ret → List Out → Option ρ'), phioL l g vs ρ' K' = e.F vs ρ' K'
  | [], g, vs, ρ, K, r, h => by cases h
  | e :: l, g, vs, ρ, K, r, h => by
    simp only [phioL] at h
    cases hb : Nat.beq g e.g && e.q vs with
    | true =>
      rw [hb] at h
      have hb' := hb
      rw [Bool.and_eq_true] at hb'
      exact ⟨e, by simp, (Nat.eq_of_beq_eq_true hb'.1).symm, h, fun ρ' K' => by simp only [phioL, hb, cond_true]⟩
    | false =>
      rw [hb] at h
      obtain ⟨e', h1, h2, h3, h4⟩ := phioL_mem h
      exact ⟨e', by simp [h1], h2, h3, fun ρ' K' => by simp only [phioL, hb, cond_false]; exact h4 ρ' K'⟩
theorem iopL_mem : ∀ {l : List IoE} {g : FuncId} {fl : List Bool}, iopL l g = some fl → ioSame l = true → ∀ e ∈ l, e.g = g → e.flags = fl
  | [], _, _, h, _, _, _, _ => by cases h
  | e :: l, g, fl, h, hs, e', he', hg => by
    simp only [iopL] at h
    simp only [ioSame, Bool.and_eq_true] at hs
    cases hb : Nat.beq g e.g with
    | true =>
      rw [hb] at h
      cases h
      have hge := Nat.eq_of_beq_eq_true hb
      rcases List.mem_cons.1 he' with rfl | hm
      · rfl
      · have := List.all_eq_true.1 hs.1 e' hm
        rw [hg, hge, Nat.beq_refl] at this
        simpa using this
    | false =>
      rw [hb] at h
      rcases List.mem_cons.1 he' with rfl | hm
      · rw [hg, Nat.beq_refl] at hb
        cases hb
      · exact iopL_mem h hs.2 e' hm hg
theorem IoOK.mem : ∀ {l : List IoE}, IoOK P l → ∀ e ∈ l, FCios P e.g e.flags e.F ∧ CallOK P e.g
  | [], _, _, h => by cases h
  | e :: l, h, e', he' => by
    rcases List.mem_cons.1 he' with rfl | hm
    · exact ⟨h.1, h.2.1⟩
    · exact IoOK.mem h.2.2 e' hm
theorem IoPar.mem : ∀ {l : List IoE}, IoPar l → ∀ e ∈ l, Pario1 e.F
  | [], _, _, h => by cases h
  | e :: l, h, e', he' => by
    rcases List.mem_cons.1 he' with rfl | hm
    · exact h.1
    · exact IoPar.mem h.2 e' hm
theorem envOK (h1 : PhiOK P E.phi) {l : List IoE} (hp : E.phio = phioL l) (hi : E.iop = iopL l) (hs : ioSame l = true) (h2 : IoOK P l) : EnvOK P E := by
  refine ⟨h1, fun g flags vs ρ K r hfl hk => ?_⟩
  rw [hp] at hk
  rw [hi] at hfl
  obtain ⟨e, hm, hg, hF, _⟩ := phioL_mem hk
  have hf := iopL_mem hfl hs e hm hg
  obtain ⟨hc, hcall⟩ := h2.mem e hm
  obtain ⟨ret, outs, q1, q2⟩ := hc vs ρ K r hF
  rw [hg, hf] at q2
  rw [hg] at hcall
  exact ⟨ret, outs, q1, q2, hcall⟩
theorem envPar (h1 : PhiPar E.phi) {l : List IoE} (hp : E.phio = phioL l) (h2 : IoPar l) : EnvPar E := by
  refine ⟨h1, fun g flags vs ρ K r _ hk => ?_⟩
  rw [hp] at hk ⊢
  obtain ⟨e, hm, hg, hF, hall⟩ := phioL_mem hk
  obtain ⟨ret, outs, q1, q2⟩ := h2.mem e hm vs ρ K r hF
  exact ⟨ret, outs, q1, fun ρ' K' => (hall ρ' K').trans (q2 ρ' K')⟩
theorem envOK0 (h1 : PhiOK P E.phi) (hp : E.phio = fun _ _ _ _ => none) (hi : E.iop = fun _ => none) : EnvOK P E :=
  ⟨h1, fun g flags vs ρ K r hfl hk => by rw [hi] at hfl; cases hfl⟩
theorem envPar0 (h1 : PhiPar E.phi) (hp : E.phio = fun _ _ _ _ => none) : EnvPar E :=
  ⟨h1, fun g flags vs ρ K r _ hk => by rw [hp] at hk; cases hk⟩
end
end Go.Vi
/-
  Vi: marked code that a text of ours walks: it makes one thing, and may leave some temporaries in disorder.
-/
set_option linter.unusedVariables false
set_option linter.unusedSimpArgs false
namespace Go.Vi
/-- A result that is the call's own, laid down at once. -/
theorem FC_lay {P : Program} {g : FuncId} {vs : List V} {e : Sh} {xs : List e.den} {nilE : Bool} (hs : e.hasSl = false) (h : FC P g vs [.fresh e xs nilE]) : FC P g vs [.lay e xs] := by
  intro w A0 args hA hargs hgl
  refine (h w A0 args hA hargs hgl).mono fun x w' hx => ?_
  cases x with
  | returned u =>
    obtain ⟨hg, is, us, rfl, hR⟩ := hx
    refine ⟨hg, [.emp], us, rfl, ?_⟩
    match is, us, hR with
    | [i], [v], ⟨⟨h1, h2, h3⟩, h4, _⟩ =>
      refine ⟨?_, fun b c h => (by cases h), trivial⟩
      cases i with
      | emp =>
        have h1 : xs = [] := h1
        obtain ⟨a, rfl, _⟩ := h2
        subst h1
        exact ⟨a, 0, rfl, Nat.le_refl _, fun h => (by cases h), .inl rfl⟩
      | «at» b c =>
        obtain ⟨_, g1, cur, et, g2, g3, g4⟩ := h1
        obtain ⟨rfl, g5, _⟩ := h2
        obtain ⟨h6, h7⟩ := h3 b c rfl
        have hc := Nat.mul_le_mul_right e.nc g1
        exact ⟨some ⟨b, 0, none⟩, c, rfl, g5, fun h => (by cases h), .inr ⟨b, 0, cur, et, (0, 0), rfl, ⟨⟨h7, fun h => absurd h (by omega), fun i hi c' => (by simp at hi; subst hi; exact fun h => by cases h)⟩, h6⟩, g2, by omega,
          fun i x hi => VRs.noSl e x _ hs (by simpa using g4 i x hi)⟩⟩
    | [], us, hR => exact absurd hR.lengths.1 (by simp)
    | _ :: _ :: _, us, hR => exact absurd hR.lengths.1 (by simp)
    | [_], [], hR => exact absurd hR.lengths.2 (by simp)
    | [_], _ :: _ :: _, hR => exact absurd hR.lengths.2 (by simp)
  | _ => exact hx.elim
theorem FCs_lay {P : Program} {g : FuncId} {pks : List PK} {e : Sh} {t : Nat} {S : pksDen pks → Option (List e.den)} (hs : e.hasSl = false) (h : FCs P g (phiOf pks [.own e t] S)) : FCs P g (phiOf pks [.lay e t] S) :=
  phiOf_FCs fun xs r hS vs hv => by
    obtain ⟨ret, h1, h2⟩ := h vs _ some (rets [.own e t] r) (by
      show (pksArg pks vs).bind (fun xs => (S xs).bind fun r => some (rets [.own e t] r)) = _
      rw [hv, Option.bind_some, hS, Option.bind_some])
    cases h1
    exact FC_lay hs h2
/-- The call's surroundings, from here on: what is not the call's own may turn no more. -/
def Cx.anew (x : Cx) {γ : Gam} {H : Heap} {w : World} (hi : Inv x γ H w) (ds : List Deferred) : Cx where
  B := w.heap.size
  M := fun b => ∃ k c, γ k = some (.at b c)
  A0 := fun b => Av x γ w b ∨ ∃ k c, γ k = some (.at b c)
  w0 := w
  ma := fun _ h => .inr h
  pin := x.pin
  pinlo := x.pinlo
  ds := ds
  glob := ⟨rfl, hi.globs.mono (Nat.le_refl _) fun b hb => ⟨.inl hb, rfl⟩⟩
  gM := fun g ns hg h => by
    obtain ⟨k, c, hk⟩ := h
    exact (hi.globs g ns hg).2.1.2.2 k c hk
theorem Av.anew {x : Cx} {γ : Gam} {H : Heap} {w : World} {ds : List Deferred} (hi : Inv x γ H w) (b : Nat) (h : Av x γ w b) : Av (x.anew hi ds) γ w b ∧ w.heap[b]? = w.heap[b]? :=
  ⟨⟨h.1, fun _ => .inl h, h.2.2⟩, rfl⟩
theorem RS.anew {x : Cx} {γ : Gam} {st : St} {a : Act} {w : World} (h : RS x γ st a w) : RS (x.anew h.inv x.ds) γ st a w where
  inv := ⟨Nat.le_refl _, rfl, rfl, rfl, fun _ _ _ => rfl, fun k i hk => by
    obtain ⟨ob, h1, h2⟩ := h.inv.own k i hk
    exact ⟨ob, h1, objR.mono (Av.anew h.inv) ob i (fun _ _ _ => rfl) h2⟩, fun k b c hk => ⟨.inr ⟨k, c, hk⟩, (h.inv.rng k b c hk).2⟩, h.inv.inj, h.inv.pin⟩
  len := h.len
  tm := fun t v hv => VR.mono (Av.anew h.inv) v _ (h.tm t v hv)
  nod := h.nod
section
variable {P : Program} {E : Env} {x : Cx} {ρ : Type} {r : ρ}
end
end Go.Vi
set_option linter.unusedVariables false
set_option linter.unusedSimpArgs false
set_option maxRecDepth 100000
namespace Go.Proofs.YtgmonagekfjnmaaDoor
open Go.Vi Go.RowKit Go.Lib
end Go.Proofs.YtgmonagekfjnmaaDoor
set_option linter.unusedVariables false
set_option linter.unusedSimpArgs false
set_option maxRecDepth 100000
namespace Go.Proofs.YtgmonagekfjnmaaDoor
open Go.Vi
abbrev uu : V := .undef
def tab : Tab := { sh := [(3, (.int .i64)), (4, .bool), (5, (.int .u8)), (22, (.sl (.int .i64))), (23, (.sl (.sl (.int .i64)))), (26, (.int .i64)), (47, (.pair (.int .u8) (.pair (.int .u8) (.pair (.int .u8) (.pair (.int .u8) (.pair (.int .u8) (.pair (.int .u8) (.pair (.int .u8) (.int .u8))))))))), (49, (.pair (.int .u8) (.pair (.int .u8) (.pair (.int .u8) (.pair (.int .u8) (.pair (.int .u8) (.pair (.int .u8) (.pair (.int .u8) (.pair (.int .u8) (.pair (.int .u8) (.pair (.int .u8) (.int .u8)))))))))))), (65, (.int .i8)), (66, (.pair (.int .i8) (.pair (.int .i8) (.pair (.int .i8) (.pair (.int .i8) (.pair (.int .i8) (.pair (.int .i8) (.pair (.int .i8) (.int .i8))))))))), (67, (.pair (.int .i64) (.pair (.int .i64) (.pair (.int .i64) (.pair (.int .i64) (.pair (.int .i64) (.pair (.int .i64) (.pair (.int .i64) (.int .i64))))))))), (85, (.int .u32)), (86, (.pair (.int .u32) (.pair (.int .u32) (.pair (.int .u32) (.pair (.int .u32) (.pair (.int .u32) (.pair (.int .u32) (.pair (.int .u32) (.pair (.int .u32) (.pair (.int .u32) (.pair (.int .u32) (.pair (.int .u32) (.pair (.int .u32) (.pair (.int .u32) (.pair (.int .u32) (.pair (.int .u32) (.pair (.int .u32) (.pair (.int .u32) (.pair (.int .u32) (.pair (.int .u32) (.pair (.int .u32) (.pair (.int .u32) (.pair (.int .u32) (.pair (.int .u32) (.pair (.int .u32) (.int .u32)))))))))))))))))))))))))), (88, (.sl (.int .u8))), (93, (.sl (.sl (.sl (.int .i64))))), (95, (.int .u64)), (104, (.int .u64))], flds := [(49, [(.int .u8), (.int .u8), (.int .u8), (.pair (.int .u8) (.pair (.int .u8) (.pair (.int .u8) (.pair (.int .u8) (.pair (.int .u8) (.pair (.int .u8) (.pair (.int .u8) (.int .u8))))))))])], arrs := [(47, (8, (.int .u8))), (66, (8, (.int .i8))), (67, (8, (.int .i64))), (86, (25, (.int .u32)))], maps := [(89, (.i64, (.int .i64)))], eqs := [], idf := [59, 61], del := [], lits := [], nils := false, fns := [92] }
theorem id59 : IdC Tryd.prog 59 := ⟨callOK_of Tryd.func59 (by kernel_rfl) (by kernel_rfl), fun u w => by
  go_enter Tryd.func59, Tryd.ntmps59
  go_wp2
  go_ret
  exact ⟨rfl, rfl⟩⟩
theorem id61 : IdC Tryd.prog 61 := ⟨callOK_of Tryd.func61 (by kernel_rfl) (by kernel_rfl), fun u w => by
  go_enter Tryd.func61, Tryd.ntmps61
  go_wp2
  go_ret
  exact ⟨rfl, rfl⟩⟩
theorem idOK : ∀ g ∈ tab.idf, IdC Tryd.prog g := by
  intro g hg
  simp only [tab, List.mem_cons, List.not_mem_nil, or_false] at hg
  rcases hg with rfl | rfl
  · exact id59
  · exact id61
theorem delOK : ∀ g ∈ tab.del, DelC Tryd.prog g := by
  intro g hg
  cases hg
theorem tabOK : TabOK Tryd.prog tab := tabB_ok (by kernel_rfl) idOK delOK
theorem eqsOK : EqsOK Tryd.prog tab := eqsB_ok (by kernel_rfl)
def tabL : Tab := { tab with lits := [22, 23] }
theorem tabLOK : TabOK Tryd.prog tabL := tabB_ok (by kernel_rfl) idOK delOK
theorem eqsLOK : EqsOK Tryd.prog tabL := eqsB_ok (by kernel_rfl)
theorem mixed : Tryd.prog.follows .mixedOrders = true := by kernel_rfl
abbrev R58 := List Int
noncomputable def c58 : Code := bodyOf Tryd.f58
noncomputable def an58 : Ann := .l
def pk58 : List PK := []
def rk58 : List RK := [.own (.int .i64) 0]
noncomputable def rt58 (st : St) : Option R58 := rtG rk58 st
noncomputable def E58 (n : Nat × Nat) : Env := { T := tab, phi := noPhi, eff := fun _ => false, fuel := n.1, hold := n.2 }
noncomputable def S58 (n : Nat × Nat) : Option R58 := run (E58 n) c58 an58 rt58 (fun _ _ => none) rt58 { tm := [uu, uu, uu], hp := emp }
theorem S58_eq (n : Nat × Nat) : S58 n =
 some [5, 6, 4, 5, 3] := by kernel_rfl
theorem S58_run (n : Nat × Nat) (xs : pksDen pk58) : S58 n = runG (E58 n) noScope c58 an58 (rtG rk58) (fun _ _ => none) (rtG rk58) (st0 pk58 xs Tryd.f58.ntmps) := by kernel_rfl
noncomputable def P58 (n : Nat × Nat) := phiOf pk58 rk58 (fun xs => S58 n)
theorem call58 : CallOK Tryd.prog 58 := callOK_of Tryd.func58 (by kernel_rfl) (by kernel_rfl)
theorem env58 (n : Nat × Nat) : EnvOK Tryd.prog (E58 n) := envOK0 noPhi_ok rfl rfl
theorem par58 (n : Nat × Nat) : EnvPar (E58 n) := envPar0 noPhi_par rfl
theorem FC58 (n : Nat × Nat) : FCs Tryd.prog 58 (P58 n) := phiOf_FCs fun xs r h vs hv => FC.of_runG tabOK eqsOK (env58 n) (par58 n) mixed (fun _ p _ => noScope_ok p.1 p.2) Tryd.func58 (c := c58) (an := an58) (pks := pk58) (rks := rk58) (by kernel_rfl) (by kernel_rfl) hv ((S58_run n xs).symm.trans h)
abbrev R76 := Bool
noncomputable def c76 : Code := bodyOf Tryd.f76
noncomputable def an76 : Ann := .l
def pk76 : List PK := [.c (.int .i64), .p (.int .i64)]
def rk76 : List RK := [.c .bool 3]
noncomputable def rt76 (st : St) : Option R76 := rtG rk76 st
noncomputable def E76 (n : Nat × Nat) : Env := { T := tab, phi := noPhi, eff := fun _ => false, fuel := n.1, hold := n.2 }
noncomputable def S76 (n : Nat × Nat) (p0 : Int) (v1 : Int) : Option R76 := run (E76 n) c76 an76 rt76 (fun _ _ => none) rt76 { tm := [.c (.int .i64 p0), .iptr [.int .i64 v1], uu, uu, uu, uu, uu, uu, uu, uu, uu], hp := emp }
theorem S76_eq (n : Nat × Nat) (p0 : Int) (v1 : Int) : S76 n p0 v1 =
 ((bif (decide (p0 < 1) == false) then some (decide (p0 > v1))
 else some true)).bind fun b1' =>
 some b1' := by kernel_rfl
theorem S76_run (n : Nat × Nat) (xs : pksDen pk76) : S76 n xs.1 xs.2.1 = runG (E76 n) noScope c76 an76 (rtG rk76) (fun _ _ => none) (rtG rk76) (st0 pk76 xs Tryd.f76.ntmps) := by kernel_rfl
noncomputable def P76 (n : Nat × Nat) := phiOf pk76 rk76 (fun xs => S76 n xs.1 xs.2.1)
theorem call76 : CallOK Tryd.prog 76 := callOK_of Tryd.func76 (by kernel_rfl) (by kernel_rfl)
theorem env76 (n : Nat × Nat) : EnvOK Tryd.prog (E76 n) := envOK0 noPhi_ok rfl rfl
theorem par76 (n : Nat × Nat) : EnvPar (E76 n) := envPar0 noPhi_par rfl
theorem FC76 (n : Nat × Nat) : FCs Tryd.prog 76 (P76 n) := phiOf_FCs fun xs r h vs hv => FC.of_runG tabOK eqsOK (env76 n) (par76 n) mixed (fun _ p _ => noScope_ok p.1 p.2) Tryd.func76 (c := c76) (an := an76) (pks := pk76) (rks := rk76) (by kernel_rfl) (by kernel_rfl) hv ((S76_run n xs).symm.trans h)
/- slices.IndexFunc[[]int,int] -/
abbrev R79c76 := Int
noncomputable def c79c76 : Code := bodyOf Tryd.f79
noncomputable def an79c76 : Ann := (.s .l (.s (.s .l (.j [] (.j [0, 1, 7, 8] (.s .l (.s (.j [0, 1, 7, 8] .l .l) (.s (.j [0, 1, 7, 8] (.s .l (.s .l (.j [0, 1, 7, 8] .l .l))) .l) .l))) .l) .l)) .l))
def pk79c76 : List PK := [.c (.sl (.int .i64)), .f 76 [(.int .i64)]]
def rk79c76 : List RK := [.c (.int .i64) 4]
noncomputable def rt79c76 (st : St) : Option R79c76 := rtG rk79c76 st
noncomputable def E79c76 (n : Nat × Nat) : Env := { T := tab, phi := (consPhi 76 (fun _ => true) (P76 n) noPhi), eff := fun _ => false, fuel := n.1, hold := n.2, pcl := [11] }
noncomputable def kq79c76_1 (n : Nat × Nat) : St → Option R79c76 := run (E79c76 n) (cB (cB c79c76)) (Ann.snd (Ann.snd an79c76)) rt79c76 (fun _ _ => none) rt79c76
noncomputable def xb79c76_3 (n : Nat × Nat) : Nat → St → Option R79c76 := fun j s => bif Nat.beq j 0 then normC [] s (kq79c76_1 n) else (fun _ _ => none) j s
noncomputable def F79c76_4 (n : Nat × Nat) : (St → Option R79c76) → St → Option R79c76 := fun K s => run (E79c76 n) (cA (cA (cB (cA (cB c79c76))))) (Ann.fst (Ann.fst (Ann.snd (Ann.fst (Ann.snd an79c76))))) (fun s => normC [0, 1, 7, 8] s K) (xb79c76_3 n) rt79c76 s
noncomputable def L79c76_1 (n : Nat × Nat) (m : Nat) (s0 : List Int) (f1_0 : Int) (v7 : Int) (v8 : Int) : Option R79c76 := loopN (F79c76_4 n) m { tm := [.c (.sl (.int .i64) s0 false), .fn 76 [.iptr [.int .i64 f1_0]], uu, uu, uu, uu, uu, .c (.int .i64 v7), .c (.int .i64 v8), uu, uu, uu, uu, uu, uu, uu, uu, uu, uu], hp := emp }
theorem L79c76_1_eq (n : Nat × Nat) (m1 : Nat) (s0 : List Int) (f1_0 : Int) (v7 : Int) (v8 : Int) : L79c76_1 n (m1 + 1) s0 f1_0 v7 v8 =
 (bif decide (v8 < v7) then (idx s0 v8).bind fun x1' =>
 (S76 n x1' f1_0).bind fun r2' =>
 (bif r2' then some v8
 else L79c76_1 n m1 s0 f1_0 v7 (wr .i64 (v8 + 1)))
 else some (-1)) := by kernel_rfl
noncomputable def S79c76 (n : Nat × Nat) (s0 : List Int) (cp_1_0 : Int) : Option R79c76 := run (E79c76 n) c79c76 an79c76 rt79c76 (fun _ _ => none) rt79c76 { tm := [.c (.sl (.int .i64) s0 false), .fn 76 [.iptr [.int .i64 cp_1_0]], uu, uu, uu, uu, uu, uu, uu, uu, uu, uu, uu, uu, uu, uu, uu, uu, uu], hp := emp }
theorem S79c76_eq (n : Nat × Nat) (s0 : List Int) (cp_1_0 : Int) : S79c76 n s0 cp_1_0 =
    L79c76_1 n n.1 s0 cp_1_0 (s0.length : Int) 0 := by kernel_rfl
theorem S79c76_run (n : Nat × Nat) (xs : pksDen pk79c76) : S79c76 n xs.1 xs.2.1.1 = runG (E79c76 n) noScope c79c76 an79c76 (rtG rk79c76) (fun _ _ => none) (rtG rk79c76) (st0 pk79c76 xs Tryd.f79.ntmps) := by kernel_rfl
noncomputable def P79c76 (n : Nat × Nat) := phiOf pk79c76 rk79c76 (fun xs => S79c76 n xs.1 xs.2.1.1)
theorem call79 : CallOK Tryd.prog 79 := callOK_of Tryd.func79 (by kernel_rfl) (by kernel_rfl)
theorem env79c76 (n : Nat × Nat) : EnvOK Tryd.prog (E79c76 n) := envOK0 (consPhi_ok (FC76 n) call76 noPhi_ok) rfl rfl
theorem par79c76 (n : Nat × Nat) : EnvPar (E79c76 n) := envPar0 (consPhi_par phiOf_Par1 noPhi_par) rfl
theorem FC79c76 (n : Nat × Nat) : FCs Tryd.prog 79 (P79c76 n) := phiOf_FCs fun xs r h vs hv => FC.of_runG tabOK eqsOK (env79c76 n) (par79c76 n) mixed (fun _ p _ => noScope_ok p.1 p.2) Tryd.func79 (c := c79c76) (an := an79c76) (pks := pk79c76) (rks := rk79c76) (by kernel_rfl) (by kernel_rfl) hv ((S79c76_run n xs).symm.trans h)
/- slices.ContainsFunc[[]int,int] -/
abbrev R75c76 := Bool
noncomputable def c75c76 : Code := bodyOf Tryd.f75
noncomputable def an75c76 : Ann := .l
def pk75c76 : List PK := [.c (.sl (.int .i64)), .f 76 [(.int .i64)]]
def rk75c76 : List RK := [.c .bool 4]
noncomputable def rt75c76 (st : St) : Option R75c76 := rtG rk75c76 st
noncomputable def E75c76 (n : Nat × Nat) : Env := { T := tab, phi := (consPhi 79 (isFns [none, some 76]) (P79c76 n) noPhi), eff := fun _ => false, fuel := n.1, hold := n.2 }
noncomputable def S75c76 (n : Nat × Nat) (s0 : List Int) (cp_1_0 : Int) : Option R75c76 := run (E75c76 n) c75c76 an75c76 rt75c76 (fun _ _ => none) rt75c76 { tm := [.c (.sl (.int .i64) s0 false), .fn 76 [.iptr [.int .i64 cp_1_0]], uu, uu, uu, uu, uu, uu, uu], hp := emp }
theorem S75c76_eq (n : Nat × Nat) (s0 : List Int) (cp_1_0 : Int) : S75c76 n s0 cp_1_0 =
 (S79c76 n s0 cp_1_0).bind fun r1' =>
 some (decide (r1' ≥ 0)) := by kernel_rfl
theorem S75c76_run (n : Nat × Nat) (xs : pksDen pk75c76) : S75c76 n xs.1 xs.2.1.1 = runG (E75c76 n) noScope c75c76 an75c76 (rtG rk75c76) (fun _ _ => none) (rtG rk75c76) (st0 pk75c76 xs Tryd.f75.ntmps) := by kernel_rfl
noncomputable def P75c76 (n : Nat × Nat) := phiOf pk75c76 rk75c76 (fun xs => S75c76 n xs.1 xs.2.1.1)
theorem call75 : CallOK Tryd.prog 75 := callOK_of Tryd.func75 (by kernel_rfl) (by kernel_rfl)
theorem env75c76 (n : Nat × Nat) : EnvOK Tryd.prog (E75c76 n) := envOK0 (consPhi_ok (FC79c76 n) call79 noPhi_ok) rfl rfl
theorem par75c76 (n : Nat × Nat) : EnvPar (E75c76 n) := envPar0 (consPhi_par phiOf_Par1 noPhi_par) rfl
theorem FC75c76 (n : Nat × Nat) : FCs Tryd.prog 75 (P75c76 n) := phiOf_FCs fun xs r h vs hv => FC.of_runG tabOK eqsOK (env75c76 n) (par75c76 n) mixed (fun _ p _ => noScope_ok p.1 p.2) Tryd.func75 (c := c75c76) (an := an75c76) (pks := pk75c76) (rks := rk75c76) (by kernel_rfl) (by kernel_rfl) hv ((S75c76_run n xs).symm.trans h)
abbrev R26 := Int
noncomputable def c26 : Code := bodyOf Tryd.f26
noncomputable def an26 : Ann := (.s .l (.s (.j [] (.s .l (.j [] .l (.s .l (.j [] .l (.s .l (.j [] .l .l)))))) .l) .l))
def pk26 : List PK := [.c (.int .i64), .c (.sl (.int .i64))]
def rk26 : List RK := [.c (.int .i64) 4]
noncomputable def rt26 (st : St) : Option R26 := rtG rk26 st
noncomputable def E26 (n : Nat × Nat) : Env := { T := tab, phi := (consPhi 75 (isFns [none, some 76]) (P75c76 n) noPhi), eff := fun _ => false, fuel := n.1, hold := n.2 }
noncomputable def S26 (n : Nat × Nat) (size0 : Int) (pieces1 : List Int) : Option R26 := run (E26 n) c26 an26 rt26 (fun _ _ => none) rt26 { tm := [.c (.int .i64 size0), .c (.sl (.int .i64) pieces1 false), uu, uu, uu, uu, uu, uu, uu, uu, uu, uu, uu, uu, uu, uu, uu, uu, uu, uu], hp := emp }
theorem S26_eq (n : Nat × Nat) (size0 : Int) (pieces1 : List Int) : S26 n size0 pieces1 =
 ((bif (decide (size0 < 1) == false) then some (decide (size0 > 24))
 else some true)).bind fun b1' =>
 (bif b1' then some 1
 else (bif decide ((pieces1.length : Int) > 8) then some 3
 else (S75c76 n pieces1 size0).bind fun r2' =>
 (bif r2' then some 1
 else some 0))) := by kernel_rfl
theorem S26_run (n : Nat × Nat) (xs : pksDen pk26) : S26 n xs.1 xs.2.1 = runG (E26 n) noScope c26 an26 (rtG rk26) (fun _ _ => none) (rtG rk26) (st0 pk26 xs Tryd.f26.ntmps) := by kernel_rfl
noncomputable def P26 (n : Nat × Nat) := phiOf pk26 rk26 (fun xs => S26 n xs.1 xs.2.1)
theorem call26 : CallOK Tryd.prog 26 := callOK_of Tryd.func26 (by kernel_rfl) (by kernel_rfl)
theorem env26 (n : Nat × Nat) : EnvOK Tryd.prog (E26 n) := envOK0 (consPhi_ok (FC75c76 n) call75 noPhi_ok) rfl rfl
theorem par26 (n : Nat × Nat) : EnvPar (E26 n) := envPar0 (consPhi_par phiOf_Par1 noPhi_par) rfl
theorem FC26 (n : Nat × Nat) : FCs Tryd.prog 26 (P26 n) := phiOf_FCs fun xs r h vs hv => FC.of_runG tabOK eqsOK (env26 n) (par26 n) mixed (fun _ p _ => noScope_ok p.1 p.2) Tryd.func26 (c := c26) (an := an26) (pks := pk26) (rks := rk26) (by kernel_rfl) (by kernel_rfl) hv ((S26_run n xs).symm.trans h)
abbrev R97 := Int
noncomputable def c97 : Code := bodyOf Tryd.f97
noncomputable def an97 : Ann := .l
def pk97 : List PK := [.c (.int .i64), .c (.int .i64), .p (.sl (.int .i64))]
def rk97 : List RK := [.c (.int .i64) 5]
noncomputable def rt97 (st : St) : Option R97 := rtG rk97 st
noncomputable def E97 (n : Nat × Nat) : Env := { T := tab, phi := noPhi, eff := fun _ => false, fuel := n.1, hold := n.2 }
noncomputable def S97 (n : Nat × Nat) (i0 : Int) (j1 : Int) (v2 : List Int) : Option R97 := run (E97 n) c97 an97 rt97 (fun _ _ => none) rt97 { tm := [.c (.int .i64 i0), .c (.int .i64 j1), .iptr [.sl (.int .i64) v2 false], uu, uu, uu, uu, uu, uu, uu, uu, uu, uu, uu, uu], hp := emp }
theorem S97_eq (n : Nat × Nat) (i0 : Int) (j1 : Int) (v2 : List Int) : S97 n i0 j1 v2 =
 (idx v2 j1).bind fun x1' =>
 (idx v2 i0).bind fun x2' =>
 some (wr .i64 (x1' - x2')) := by kernel_rfl
theorem S97_run (n : Nat × Nat) (xs : pksDen pk97) : S97 n xs.1 xs.2.1 xs.2.2.1 = runG (E97 n) noScope c97 an97 (rtG rk97) (fun _ _ => none) (rtG rk97) (st0 pk97 xs Tryd.f97.ntmps) := by kernel_rfl
noncomputable def P97 (n : Nat × Nat) := phiOf pk97 rk97 (fun xs => S97 n xs.1 xs.2.1 xs.2.2.1)
theorem call97 : CallOK Tryd.prog 97 := callOK_of Tryd.func97 (by kernel_rfl) (by kernel_rfl)
theorem env97 (n : Nat × Nat) : EnvOK Tryd.prog (E97 n) := envOK0 noPhi_ok rfl rfl
theorem par97 (n : Nat × Nat) : EnvPar (E97 n) := envPar0 noPhi_par rfl
theorem FC97 (n : Nat × Nat) : FCs Tryd.prog 97 (P97 n) := phiOf_FCs fun xs r h vs hv => FC.of_runG tabOK eqsOK (env97 n) (par97 n) mixed (fun _ p _ => noScope_ok p.1 p.2) Tryd.func97 (c := c97) (an := an97) (pks := pk97) (rks := rk97) (by kernel_rfl) (by kernel_rfl) hv ((S97_run n xs).symm.trans h)
/- slices.insertionSortCmpFunc[int] -/
abbrev R105c97io1001 := (Unit) × (List Int) × (List Int) × Unit
noncomputable def c105c97io1001 : Code := bodyOf Tryd.f105
noncomputable def an105c97io1001 : Ann := (.s .l (.j [1000000000, 1000000001] (.j [0, 1, 2, 3, 8, 22, 23, 24, 25, 26, 27, 28, 29, 30, 31, 32, 33, 1000000000, 1000000001] (.s (.s .l (.j [0, 1, 2, 3, 8, 22, 23, 24, 25, 26, 27, 28, 29, 30, 31, 32, 33, 1000000000, 1000000001] .l .l)) (.s (.j [0, 1, 2, 3, 8, 22, 23, 24, 25, 26, 27, 28, 29, 30, 31, 32, 33, 1000000000, 1000000001] (.s .l (.j [0, 1, 2, 3, 8, 22, 23, 24, 25, 26, 27, 28, 29, 30, 31, 32, 33, 1000000000, 1000000001] (.j [0, 1, 2, 3, 8, 9, 22, 23, 24, 25, 26, 27, 28, 29, 30, 31, 32, 33, 1000000000, 1000000001] (.s (.s .l (.j [0, 1, 2, 3, 8, 9, 22, 23, 24, 25, 26, 27, 28, 29, 30, 31, 32, 33, 1000000000, 1000000001] .l .l)) (.s (.j [0, 1, 2, 3, 8, 9, 22, 23, 24, 25, 26, 27, 28, 29, 30, 31, 32, 33, 1000000000, 1000000001] .l .l) .l)) .l) .l)) .l) .l)) .l) .l))
def pk105c97io1001 : List QK := [.oa (.int .i64), .pl (.c (.int .i64)), .pl (.c (.int .i64)), .of 97 [(.sl (.int .i64))]]
def rk105c97io1001 : List RK := []
noncomputable def rt105c97io1001 (st : St) : Option R105c97io1001 := rtIO rk105c97io1001 (pk105c97io1001.flatMap QK.ods) st
noncomputable def E105c97io1001 (n : Nat × Nat) : Env := { T := tab, phi := (consPhi 97 (fun _ => true) (P97 n) noPhi), eff := fun _ => false, fuel := n.1, hold := n.2, pcl := [22] }
noncomputable def xb105c97io1001_2 (n : Nat × Nat) : Nat → St → Option R105c97io1001 := fun j s => bif Nat.beq j 0 then normC [1000000000, 1000000001] s rt105c97io1001 else (fun _ _ => none) j s
noncomputable def F105c97io1001_3 (n : Nat × Nat) : (St → Option R105c97io1001) → St → Option R105c97io1001 := fun K s => run (E105c97io1001 n) (cA (cA (cB c105c97io1001))) (Ann.fst (Ann.fst (Ann.snd an105c97io1001))) (fun s => normC [0, 1, 2, 3, 8, 22, 23, 24, 25, 26, 27, 28, 29, 30, 31, 32, 33, 1000000000, 1000000001] s K) (xb105c97io1001_2 n) rt105c97io1001 s
noncomputable def kq105c97io1001_6 (n : Nat × Nat) (m1 : Nat) : St → Option R105c97io1001 := run (E105c97io1001 n) (cB (cB (cA (cA (cB c105c97io1001))))) (Ann.snd (Ann.snd (Ann.fst (Ann.fst (Ann.snd an105c97io1001))))) (fun s => normC [0, 1, 2, 3, 8, 22, 23, 24, 25, 26, 27, 28, 29, 30, 31, 32, 33, 1000000000, 1000000001] s (loopN (F105c97io1001_3 n) m1)) (xb105c97io1001_2 n) rt105c97io1001
noncomputable def kc105c97io1001_7 (n : Nat × Nat) (m1 : Nat) : St → Option R105c97io1001 := fun s => normC [0, 1, 2, 3, 8, 22, 23, 24, 25, 26, 27, 28, 29, 30, 31, 32, 33, 1000000000, 1000000001] s (kq105c97io1001_6 n m1)
noncomputable def xb105c97io1001_8 (n : Nat × Nat) (m1 : Nat) : Nat → St → Option R105c97io1001 := fun j s => bif Nat.beq j 1 then normC [0, 1, 2, 3, 8, 22, 23, 24, 25, 26, 27, 28, 29, 30, 31, 32, 33, 1000000000, 1000000001] s (kq105c97io1001_6 n m1) else (xb105c97io1001_2 n) j s
noncomputable def xb105c97io1001_10 (n : Nat × Nat) (m1 : Nat) : Nat → St → Option R105c97io1001 := fun j s => bif Nat.beq j 2 then normC [0, 1, 2, 3, 8, 22, 23, 24, 25, 26, 27, 28, 29, 30, 31, 32, 33, 1000000000, 1000000001] s (kc105c97io1001_7 n m1) else (xb105c97io1001_8 n m1) j s
noncomputable def F105c97io1001_11 (n : Nat × Nat) (m1 : Nat) : (St → Option R105c97io1001) → St → Option R105c97io1001 := fun K s => run (E105c97io1001 n) (cA (cA (cB (cA (cA (cB (cA (cA (cB c105c97io1001))))))))) (Ann.fst (Ann.fst (Ann.snd (Ann.fst (Ann.fst (Ann.snd (Ann.fst (Ann.fst (Ann.snd an105c97io1001))))))))) (fun s => normC [0, 1, 2, 3, 8, 9, 22, 23, 24, 25, 26, 27, 28, 29, 30, 31, 32, 33, 1000000000, 1000000001] s K) (xb105c97io1001_10 n m1) rt105c97io1001 s
noncomputable def L105c97io1001_1 (n : Nat × Nat) (m : Nat) (a1 : Int) (b2 : Int) (i8 : Int) (u0 : List Int) (u1 : List Int) : Option R105c97io1001 := loopN (F105c97io1001_3 n) m { tm := [.own 1000000000 none false, .c (.int .i64 a1), .c (.int .i64 b2), .fn 97 [.ptr 1000000001 0], uu, uu, uu, uu, .c (.int .i64 i8), uu, uu, uu, uu, uu, uu, uu, uu, uu, uu, uu, uu, uu, uu, uu, uu, uu, uu, uu, uu, uu, uu, uu, uu, uu, uu, uu, uu, uu, uu, uu, uu, uu, uu, uu, uu, uu, uu, uu, uu, uu, uu, uu, uu], hp := (upd (upd emp 1000000001 (.box [.sl (.int .i64) u1 false])) 1000000000 (.arr (.int .i64) u0 false)) }
noncomputable def L105c97io1001_2 (n : Nat × Nat) (m1 : Nat) (m : Nat) (a1 : Int) (b2 : Int) (i8 : Int) (j9 : Int) (u0 : List Int) (u1 : List Int) : Option R105c97io1001 := loopN (F105c97io1001_11 n m1) m { tm := [.own 1000000000 none false, .c (.int .i64 a1), .c (.int .i64 b2), .fn 97 [.ptr 1000000001 0], uu, uu, uu, uu, .c (.int .i64 i8), .c (.int .i64 j9), uu, uu, uu, uu, uu, uu, uu, uu, uu, uu, uu, uu, uu, uu, uu, uu, uu, uu, uu, uu, uu, uu, uu, uu, uu, uu, uu, uu, uu, uu, uu, uu, uu, uu, uu, uu, uu, uu, uu, uu, uu, uu, uu], hp := (upd (upd emp 1000000001 (.box [.sl (.int .i64) u1 false])) 1000000000 (.arr (.int .i64) u0 false)) }
theorem L105c97io1001_1_eq (n : Nat × Nat) (m1 : Nat) (a1 : Int) (b2 : Int) (i8 : Int) (u0 : List Int) (u1 : List Int) : L105c97io1001_1 n (m1 + 1) a1 b2 i8 u0 u1 =
 (bif decide (i8 < b2) then L105c97io1001_2 n m1 n.1 a1 b2 i8 i8 u0 u1
 else some ((), u0, u1, ())) := by kernel_rfl
theorem L105c97io1001_2_eq (n : Nat × Nat) (m1 m2 : Nat) (a1 : Int) (b2 : Int) (i8 : Int) (j9 : Int) (u0 : List Int) (u1 : List Int) : L105c97io1001_2 n m1 (m2 + 1) a1 b2 i8 j9 u0 u1 =
 ((bif (decide (j9 > a1) == true) then (bif inB j9 u0.length then (idx u0 j9).bind fun x1' =>
 (bif inB (wr .i64 (j9 - 1)) u0.length then (idx u0 (wr .i64 (j9 - 1))).bind fun x2' =>
 (S97 n x1' x2' u1).bind fun r3' =>
 some (decide (r3' < 0))
 else none)
 else none)
 else some false)).bind fun b4' =>
 (bif b4' then (bif inB (wr .i64 (j9 - 1)) u0.length then (idx u0 (wr .i64 (j9 - 1))).bind fun x5' =>
 (bif inB j9 u0.length then (idx u0 j9).bind fun x6' =>
 (bif inB j9 u0.length then (idx u0 j9).bind fun x7' =>
 (bif inB (wr .i64 (j9 - 1)) (u0.set (Int.toNat j9) x5').length then (idx (u0.set (Int.toNat j9) x5') (wr .i64 (j9 - 1))).bind fun x8' =>
              L105c97io1001_2 n m1 m2 a1 b2 i8 (wr .i64 (j9 - 1)) ((u0.set (Int.toNat j9) x5').set (Int.toNat (wr .i64 (j9 - 1))) x6') u1
 else none)
 else none)
 else none)
 else none)
 else L105c97io1001_1 n m1 a1 b2 (wr .i64 (i8 + 1)) u0 u1) := by kernel_rfl
noncomputable def S105c97io1001 (n : Nat × Nat) (data0 : List Int) (a1 : Int) (b2 : Int) (cp_3_0 : List Int) : Option R105c97io1001 := run (E105c97io1001 n) c105c97io1001 an105c97io1001 rt105c97io1001 (fun _ _ => none) rt105c97io1001 { tm := [.own 1000000000 none false, .c (.int .i64 a1), .c (.int .i64 b2), .fn 97 [.ptr 1000000001 0], uu, uu, uu, uu, uu, uu, uu, uu, uu, uu, uu, uu, uu, uu, uu, uu, uu, uu, uu, uu, uu, uu, uu, uu, uu, uu, uu, uu, uu, uu, uu, uu, uu, uu, uu, uu, uu, uu, uu, uu, uu, uu, uu, uu, uu, uu, uu, uu, uu], hp := (upd (upd emp 1000000001 (.box [.sl (.int .i64) cp_3_0 false])) 1000000000 (.arr (.int .i64) data0 false)) }
theorem S105c97io1001_eq (n : Nat × Nat) (data0 : List Int) (a1 : Int) (b2 : Int) (cp_3_0 : List Int) : S105c97io1001 n data0 a1 b2 cp_3_0 =
    L105c97io1001_1 n n.1 a1 b2 (wr .i64 (a1 + 1)) data0 cp_3_0 := by kernel_rfl
theorem S105c97io1001_run (n : Nat × Nat) (xs : qksDen pk105c97io1001) : S105c97io1001 n xs.1 xs.2.1 xs.2.2.1 xs.2.2.2.1.1 = runG (E105c97io1001 n) noScope c105c97io1001 an105c97io1001 (rtIO rk105c97io1001 (pk105c97io1001.flatMap QK.ods)) (fun _ _ => none) (rtIO rk105c97io1001 (pk105c97io1001.flatMap QK.ods)) (st1 pk105c97io1001 xs Tryd.f105.ntmps) := by kernel_rfl
noncomputable def P105c97io1001 (n : Nat × Nat) := phioOf pk105c97io1001 rk105c97io1001 (pk105c97io1001.flatMap QK.ods) (fun xs => S105c97io1001 n xs.1 xs.2.1 xs.2.2.1 xs.2.2.2.1.1)
theorem call105 : CallOK Tryd.prog 105 := callOK_of Tryd.func105 (by kernel_rfl) (by kernel_rfl)
theorem env105c97io1001 (n : Nat × Nat) : EnvOK Tryd.prog (E105c97io1001 n) := envOK0 (consPhi_ok (FC97 n) call97 noPhi_ok) rfl rfl
theorem par105c97io1001 (n : Nat × Nat) : EnvPar (E105c97io1001 n) := envPar0 (consPhi_par phiOf_Par1 noPhi_par) rfl
theorem FC105c97io1001 (n : Nat × Nat) : FCios Tryd.prog 105 (pk105c97io1001.map QK.flag) (P105c97io1001 n) := phioOf_FCios fun xs r h vs hv => FCio.of_runG tabOK eqsOK (env105c97io1001 n) (par105c97io1001 n) mixed (fun _ p _ => noScope_ok p.1 p.2) Tryd.func105 (c := c105c97io1001) (an := an105c97io1001) (qks := pk105c97io1001) (rks := rk105c97io1001) (by kernel_rfl) (by kernel_rfl) hv ((S105c97io1001_run n xs).symm.trans h)
abbrev R106c97io10001 := (Unit) × (List Int) × (List Int) × Unit
def pk106c97io10001 : List QK := [.oa (.int .i64), .pl (.c (.int .i64)), .pl (.c (.int .i64)), .pl (.c (.int .i64)), .of 97 [(.sl (.int .i64))]]
def rk106c97io10001 : List RK := []
noncomputable def S106c97io10001 (n : Nat × Nat) (data0 : List Int) (a1 : Int) (m2 : Int) (b3 : Int) (cp_4_0 : List Int) : Option R106c97io10001 := none
noncomputable def P106c97io10001 (n : Nat × Nat) := phioOf pk106c97io10001 rk106c97io10001 (pk106c97io10001.flatMap QK.ods) (fun xs => S106c97io10001 n xs.1 xs.2.1 xs.2.2.1 xs.2.2.2.1 xs.2.2.2.2.1.1)
theorem call106 : CallOK Tryd.prog 106 := callOK_of Tryd.func106 (by kernel_rfl) (by kernel_rfl)
theorem FC106c97io10001 (n : Nat × Nat) : FCios Tryd.prog 106 (pk106c97io10001.map QK.flag) (P106c97io10001 n) := phioOf_FCios fun xs r h => by cases h
theorem parP106c97io10001 (n : Nat × Nat) : Pario1 (P106c97io10001 n) := by unfold P106c97io10001; exact phioOf_Pario1
end Go.Proofs.YtgmonagekfjnmaaDoor
