/-
  Vi: regions, operation by operation, in whatever order their edges allow.
-/
import Derived.Test.YtombednapelokaaViG
import Derived.Orders
import Derived.Tactics
set_option linter.unusedVariables false
set_option linter.unusedSimpArgs false
namespace Go.Vi
open Op

/-- Does an operation's guard want it? -/
def wantV (all : List Oper) (o : Oper) (st : St) : Option Bool :=
  match o.guard with
  | none => some true
  | some (j, want) =>
    match (all[j]?).bind (·.dst) with
    | none => none
    | some t =>
      match st.tm[t]? with
      | none => some false
      | some (.c (.bool b)) => some (b == want)
      | some (.tup []) => some false
      | _ => none

/-- What a step brings that hangs on its operands alone. -/
inductive LStep (E : Env) (all : List Oper) (o : Oper) (st : St) : V → List (Nat × O) → Prop where
  | pure {v : V} {obs : List (Nat × O)} : wantV all o st = some true → isEff E all o = false → Foot E o (opV st) st.hp v obs → (∀ p ∈ obs, p.1 < pinLo) → LStep E all o st v obs
  | skip : wantV all o st = some false → LStep E all o st (.tup []) []
  | pick {c a b : Operand} {p : Bool} {v : V} : wantV all o st = some true → o.op = .pick c a b → opV st c = some (.c (.bool p)) → opV st (bif p then a else b) = some v → v.isUndef = false → LStep E all o st v []

def nxt (st : St) (o : Oper) (v : V) (obs : List (Nat × O)) : St := { tm := (put st o.dst v).tm, hp := updAll st.hp obs }

inductive FStep (E : Env) (all : List Oper) (o : Oper) (st : St) : St → Prop where
  | loc {v : V} {obs : List (Nat × O)} : LStep E all o st v obs → FStep E all o st (nxt st o v obs)
  | eff {st' : St} : wantV all o st = some true → isEff E all o = true → EFoot E o st st' → FStep E all o st st'

def FRun (E : Env) (all : List Oper) : List Oper → St → St → Prop
  | [], st, st' => st = st'
  | o :: os, st, st' => ∃ s, FStep E all o st s ∧ FRun E all os s st'

/-- No slot names what these operations are going to make. -/
def Fresh (st : St) (os : List Oper) : Prop := ∀ q ∈ os, isMove q = false → ∀ d, q.dst = some d → ∀ (j t : Nat) (u : V), st.tm[t]? = some u → refs (d + 10000 * j) u = false

/-- Each slot is written once. -/
structure Ssa (E : Env) (all os : List Oper) : Prop where
  nd : (dstsOf os).Nodup
  lt : ∀ d ∈ dstsOf os, d < 10000
  has : ∀ o ∈ os, isEff E all o = false → o.dst ≠ none

section
variable {P : Program} {E : Env} {all : List Oper} {o p q : Oper} {x : Cx} {γ : Gam} {w : World} {a : Act} {st st' s1 s2 : St} {v vp vq : V} {obs obsp obsq : List (Nat × O)}

theorem opV_tmp {y : Operand} {u : V} {k : Nat} (h : opV st y = some u) (hr : refs k u = true) : ∃ t, y = .tmp t ∧ st.tm[t]? = some u := by
  cases y with
  | tmp t => exact ⟨t, rfl, h⟩
  | const c =>
    exfalso
    simp only [opV] at h
    have key : ∀ c : Value, ∀ x : C, constC c = some x → refs k (.c x) = true → False := fun c x _ hx => by cases hx
    cases c with
    | agg cs =>
      simp only [constV, Option.map_eq_some_iff] at h
      obtain ⟨_, _, rfl⟩ := h
      cases hr
    | _ =>
      simp only [constV, Option.map_eq_some_iff] at h
      obtain ⟨_, _, rfl⟩ := h
      cases hr
  | global g => cases h
  | func f => cases h; cases hr

theorem mem_reads {t : Nat} (h : Operand.tmp t ∈ o.op.operands.toList) : t ∈ readsOf all o := by
  unfold readsOf
  refine List.mem_append.2 (.inl (List.mem_filterMap.2 ⟨.tmp t, h, rfl⟩))

theorem mem_guard {j : Nat} {want : Bool} {t : Nat} (h : o.guard = some (j, want)) (ht : (all[j]?).bind (·.dst) = some t) : t ∈ readsOf all o := by
  unfold readsOf
  refine List.mem_append.2 (.inr ?_)
  rw [h]
  simp [ht]

/-- The slots that an operation reads read the same. -/
def SameR (all : List Oper) (o : Oper) (st st2 : St) : Prop := ∀ t ∈ readsOf all o, st2.tm[t]? = st.tm[t]?
/-- And what they name. -/
def SameH (all : List Oper) (o : Oper) (st st2 : St) : Prop := ∀ t ∈ readsOf all o, ∀ (u : V), st.tm[t]? = some u → ∀ k, refs k u = true → st2.hp k = st.hp k

theorem wantV_congr (h : SameR all o st s1) : wantV all o s1 = wantV all o st := by
  unfold wantV
  cases hg : o.guard with
  | none => rfl
  | some g =>
    obtain ⟨j, want⟩ := g
    cases ht : (all[j]?).bind (·.dst) with
    | none => simp only [ht]
    | some t => simp only [ht, h t (mem_guard hg ht)]

theorem opV_same {y : Operand} (h : SameR all o st s1) (hy : y ∈ o.op.operands.toList) : opV s1 y = opV st y :=
  opV_congr fun t ht => h t (mem_reads (ht ▸ hy))

theorem LStep.congr (hphi : EnvPar E) (h : LStep E all o st v obs) (hR : SameR all o st s1) (hH : SameH all o st s1) : LStep E all o s1 v obs := by
  cases h with
  | pure hw he hf hl =>
    refine .pure (by rw [wantV_congr hR]; exact hw) he ?_ hl
    have := hf.cong (opV s1) s1.hp ⟨fun y hy => opV_same hR hy, fun y hy u hu k hk => by
      obtain ⟨t, rfl, ht⟩ := opV_tmp hu hk
      exact hH t (mem_reads hy) u ht k hk⟩
    obtain ⟨v', obs', hk, hf'⟩ := evalP_foot hphi.1 this
    cases hk
    exact hf'
  | skip hw => exact .skip (by rw [wantV_congr hR]; exact hw)
  | pick hw ho hc hv hu =>
    rename_i c a b p
    have hops : o.op.operands.toList = [c, a, b] := by simp [ho, Op.operands]
    refine .pick (c := c) (a := a) (b := b) (p := p) (by rw [wantV_congr hR]; exact hw) ho ?_ ?_ hu
    · rw [opV_same hR (by rw [hops]; simp)]; exact hc
    · rw [opV_same hR (by rw [hops]; cases p <;> simp)]; exact hv

/-- A move makes nothing. -/
theorem move_obs {ρv : Val} {H : Heap} (hm : isMove o = true) (hs : evalP E o ρv H _ K0 = some (v, obs)) : obs = [] := by
  unfold isMove at hm
  have key : ∀ y, isNil y = false → (o.op = .move y ∨ o.op = .assign y) → obs = [] := by
    intro y hn ho
    have hs' : (match ρv y with | some v => bif v.isUndef then none else K0 v [] | none => none) = some (v, obs) := by
      rcases ho with ho | ho
      all_goals
        simp only [evalP, ho, hn, cond_false] at hs
        exact hs
    split at hs'
    · obtain ⟨_, hk⟩ := cond_none hs' rfl
      cases hk
      rfl
    · cases hs'
  split at hm
  · rename_i y ho; exact key y (by simpa using hm) (.inl ho)
  · rename_i y ho; exact key y (by simpa using hm) (.inr ho)
  · cases hm

theorem LStep.maker (h : LStep E all o st v obs) (hn : obs ≠ []) : isMove o = false := by
  cases hm : isMove o with
  | false => rfl
  | true =>
    cases h with
    | pure hw he hf => exact absurd (move_obs hm hf.self) hn
    | skip hw => exact absurd rfl hn
    | pick => exact absurd rfl hn

theorem ne_nil_of_mem {α : Type} {a : α} {l : List α} (h : a ∈ l) : l ≠ [] := fun e => by rw [e] at h; cases h

theorem LStep.prov (h : LStep E all o st v obs) : ∀ k, refs k v = true → (∃ t ∈ readsOf all o, ∃ u : V, st.tm[t]? = some u ∧ refs k u = true) ∨ (isMove o = false ∧ isKey o k) := by
  intro k hk
  cases h with
  | pure hw he hf hl =>
    rcases hf.prov k hk with ⟨y, hy, u, hu, hr⟩ | ⟨p, hp, he⟩
    · obtain ⟨t, rfl, ht⟩ := opV_tmp hu hr
      exact .inl ⟨t, mem_reads hy, u, ht, hr⟩
    · exact .inr ⟨(LStep.pure hw ‹isEff E all o = false› hf hl).maker (ne_nil_of_mem hp), he ▸ hf.keys p hp⟩
  | skip hw => cases hk
  | pick hw ho hc hv hu =>
    rename_i c a b p
    obtain ⟨t, hy, ht⟩ := opV_tmp hv hk
    refine .inl ⟨t, mem_reads ?_, v, ht, hk⟩
    rw [← hy]
    simp only [ho, Op.operands]
    cases p <;> simp

theorem LStep.lo (h : LStep E all o st v obs) : ∀ p ∈ obs, p.1 < pinLo := by
  cases h with
  | pure hw he hf hl => exact hl
  | skip hw => simp
  | pick => simp

theorem LStep.keys (h : LStep E all o st v obs) : ∀ p ∈ obs, isKey o p.1 := by
  cases h with
  | pure hw he hf => exact hf.keys
  | skip hw => simp
  | pick => simp

theorem LStep.has (hs : o ∈ all → True) (h : LStep E all o st v obs) (hn : obs ≠ []) : isEff E all o = false := by
  cases h with
  | pure hw he hf => exact he
  | skip hw => exact absurd rfl hn
  | pick => exact absurd rfl hn

theorem updAll_get (H : Heap) : ∀ (obs : List (Nat × O)) (j : Nat), updAll H obs j = match updAll emp obs j with | some ob => some ob | none => H j
  | [], j => rfl
  | (k, ob) :: r, j => by
    simp only [updAll, upd]
    cases Nat.beq j k
    · exact updAll_get H r j
    · rfl

theorem updAll_no (H : Heap) : ∀ (obs : List (Nat × O)) (j : Nat), (∀ p ∈ obs, p.1 ≠ j) → updAll H obs j = H j
  | [], j, _ => rfl
  | (k, ob) :: r, j, h => by
    have h1 : j ≠ k := fun e => h (k, ob) (by simp) e.symm
    simp only [updAll, upd, beq_false h1, cond_false]
    exact updAll_no H r j fun p hp => h p (by simp [hp])

theorem updAll_comm (H : Heap) (a b : List (Nat × O)) (h : ∀ p ∈ a, ∀ q ∈ b, p.1 ≠ q.1) : updAll (updAll H a) b = updAll (updAll H b) a := by
  funext j
  rw [updAll_get (updAll H a), updAll_get (updAll H b), updAll_get H a, updAll_get H b]
  cases ha : updAll emp a j with
  | none => rfl
  | some x =>
    cases hb : updAll emp b j with
    | none => rfl
    | some y =>
      exfalso
      have e1 : ¬ ∀ p ∈ a, p.1 ≠ j := fun hn => by rw [updAll_no emp a j hn] at ha; cases ha
      have e2 : ¬ ∀ p ∈ b, p.1 ≠ j := fun hn => by rw [updAll_no emp b j hn] at hb; cases hb
      simp only [Classical.not_forall, ne_eq, Classical.not_not] at e1 e2
      obtain ⟨p, hp, e1⟩ := e1
      obtain ⟨q, hq, e2⟩ := e2
      exact h p hp q hq (e1.trans e2.symm)

theorem put_tm_comm (st : St) (d e : Option Tmp) (u v : V) (h : ∀ t, d = some t → e ≠ some t) : (put (put st d u) e v).tm = (put (put st e v) d u).tm := by
  cases d with
  | none => rfl
  | some d =>
    cases e with
    | none => rfl
    | some e =>
      have : d ≠ e := fun he => h d rfl (by rw [he])
      simp only [put, List.set_comm _ _ this]

theorem mem_memN {d : Nat} {l : List Nat} : memN d l = true ↔ d ∈ l := by
  unfold memN
  rw [List.any_eq_true]
  constructor
  · rintro ⟨y, hy, he⟩
    rw [Nat.eq_of_beq_eq_true he]
    exact hy
  · intro h
    exact ⟨d, h, Nat.beq_refl d⟩

theorem disj_spec {a b : List Nat} (h : disjN a b = true) : ∀ d ∈ a, d ∉ b := by
  intro d hd hb
  have := List.all_eq_true.1 h d hd
  rw [mem_memN.2 hb] at this
  cases this

structure Indep (E : Env) (all : List Oper) (p q : Oper) : Prop where
  pd : ∀ d, p.dst = some d → q.dst ≠ some d ∧ d ∉ readsOf all q
  qd : ∀ d, q.dst = some d → d ∉ readsOf all p
  kind : (isEff E all p = false ∧ isEff E all q = false) ∨ (isMove p = true ∧ isLoc q = true) ∨ (isLoc p = true ∧ isMove q = true)

theorem indep_spec (h : indep E all p q = true) : Indep E all p q := by
  simp only [indep, Bool.and_eq_true, Bool.or_eq_true, Bool.not_eq_true'] at h
  obtain ⟨⟨⟨⟨h1, h2⟩, h3⟩, h4⟩, h5⟩ := h
  refine ⟨fun d hd => ?_, fun d hd => ?_, ?_⟩
  · have := disj_spec h1 d (by simp [hd])
    simp only [List.mem_append, not_or, Option.mem_toList] at this
    exact ⟨this.1, this.2⟩
  · exact disj_spec h2 d (by simp [hd])
  · rcases h5 with (h5 | h5) | h5
    · exact .inl h5
    · exact .inr (.inl h5)
    · exact .inr (.inr h5)

theorem set_ne {st : St} {d : Option Tmp} {v : V} {t : Nat} (h : d ≠ some t) : (put st d v).tm[t]? = st.tm[t]? := by
  cases d with
  | none => rfl
  | some d =>
    simp only [put, List.getElem?_set]
    rw [if_neg fun e => h (by rw [e])]

theorem move_eff (h : isMove o = true) : isEff E all o = false := by
  unfold isMove at h
  split at h
  · rename_i y ho; simp only [isEff, ho]
  · rename_i y ho; simp only [isEff, ho]
  · cases h

/-- A move looks at no memory. -/
theorem LStep.move (hphi : EnvPar E) (hm : isMove o = true) (h : LStep E all o st v obs) : obs = [] ∧ ∀ s1, SameR all o st s1 → LStep E all o s1 v [] := by
  cases h with
  | skip hw => exact ⟨rfl, fun s1 hR => .skip (by rw [wantV_congr hR]; exact hw)⟩
  | pick hw ho hc hv hu => simp [isMove, ho] at hm
  | pure hw he hf =>
    have hs := hf.self
    unfold isMove at hm
    have key : ∀ y, isNil y = false → (o.op = .move y ∨ o.op = .assign y) → obs = [] ∧ ∀ s1, SameR all o st s1 → LStep E all o s1 v [] := by
      intro y hn ho
      have hy : y ∈ o.op.operands.toList := by rcases ho with ho | ho <;> simp [ho, Op.operands]
      have hs' : (match opV st y with | some v => bif v.isUndef then none else K0 v [] | none => none) = some (v, obs) := by
        rcases ho with ho | ho
        all_goals
          simp only [evalP, ho, hn, cond_false] at hs
          exact hs
      split at hs'
      · rename_i v' hv
        obtain ⟨hu, hk⟩ := cond_none hs' rfl
        cases hk
        refine ⟨rfl, fun s1 hR => .pure (by rw [wantV_congr hR]; exact hw) he ?_ (by simp)⟩
        have : evalP E o (opV s1) s1.hp _ K0 = some (v, []) := by
          rcases ho with ho | ho
          all_goals
            simp only [evalP, ho, hn, cond_false, opV_same hR hy, hv, hu]
            rfl
        obtain ⟨v', obs', hk, hf'⟩ := evalP_foot hphi.1 this
        cases hk
        exact hf'
      · cases hs'
    split at hm
    · rename_i y ho; exact key y (by simpa using hm) (.inl ho)
    · rename_i y ho; exact key y (by simpa using hm) (.inr ho)
    · cases hm

theorem isKey_dst {d k : Nat} (hd : o.dst = some d) (h : isKey o k) : ∃ j, k = d + 10000 * j := by
  obtain ⟨j, hj⟩ := h
  exact ⟨j, by rw [hd] at hj; exact hj⟩

/-- No slot names an operation's keys. -/
def Fresh1 (st : St) (o : Oper) : Prop := isMove o = false → ∀ d, o.dst = some d → ∀ (j t : Nat) (u : V), st.tm[t]? = some u → refs (d + 10000 * j) u = false

theorem not_key (hf : Fresh1 st o) (hmk : isMove o = false) (hd : o.dst ≠ none) {t : Nat} {u : V} (hu : st.tm[t]? = some u) {k : Nat} (hk : refs k u = true) : ¬ isKey o k := by
  intro h
  cases hdd : o.dst with
  | none => exact hd hdd
  | some d =>
    obtain ⟨j, rfl⟩ := isKey_dst hdd h
    rw [hf hmk d hdd j t u hu] at hk
    cases hk

theorem keys_apart {d e : Nat} (hd : o.dst = some d) (he : p.dst = some e) (hde : d ≠ e) (hd1 : d < 10000) (he1 : e < 10000) {k k' : Nat} (h : isKey o k) (h' : isKey p k') : k ≠ k' := by
  obtain ⟨j, rfl⟩ := isKey_dst hd h
  obtain ⟨j', rfl⟩ := isKey_dst he h'
  omega

/-- Two operations that do not mind each other may change places. -/
theorem swap (hphi : EnvPar E) (hi : Indep E all p q) (hp : Fresh1 st p) (hq : Fresh1 st q) (hdp : isEff E all p = false → p.dst ≠ none) (hdq : isEff E all q = false → q.dst ≠ none)
    (hlp : ∀ d, p.dst = some d → d < 10000) (hlq : ∀ d, q.dst = some d → d < 10000) (h1 : FStep E all p st s1) (h2 : FStep E all q s1 s2) :
    ∃ s, FStep E all q st s ∧ FStep E all p s s2 := by
  have comm : ∀ t, p.dst = some t → q.dst ≠ some t := fun t ht => (hi.pd t ht).1
  -- slots that q reads are not p's own
  have rq : ∀ u, ∀ (s : St), s.tm = (put st p.dst u).tm → SameR all q s st := fun u s hs t ht => by
    rw [hs, set_ne]
    intro e
    exact (hi.pd t e).2 ht
  have rp : ∀ u, ∀ (s : St), s.tm = (put st q.dst u).tm → SameR all p st s := fun u s hs t ht => by
    rw [hs, set_ne]
    intro e
    exact hi.qd t e ht
  cases h1 with
  | loc l1 =>
    rename_i vp obsp
    cases h2 with
    | loc l2 =>
      rename_i vq obsq
      -- what q names is not new
      have hobp : obsp ≠ [] → p.dst ≠ none := fun hn => hdp (l1.has (fun _ => trivial) hn)
      have hobq : obsq ≠ [] → q.dst ≠ none := fun hn => hdq (l2.has (fun _ => trivial) hn)
      have l2' : LStep E all q st vq obsq := by
        refine l2.congr hphi (rq vp _ rfl) ?_
        intro t ht u hu k hk
        have hu' : st.tm[t]? = some u := by
          rw [rq vp (nxt st p vp obsp) rfl t ht]
          exact hu
        refine (updAll_no st.hp obsp k fun pr hpr e => ?_).symm
        exact not_key hp (l1.maker (ne_nil_of_mem hpr)) (hobp (ne_nil_of_mem hpr)) hu' hk (e ▸ l1.keys pr hpr)
      have l1' : LStep E all p (nxt st q vq obsq) vp obsp := by
        refine l1.congr hphi (rp vq _ rfl) ?_
        intro t ht u hu k hk
        refine updAll_no st.hp obsq k fun pr hpr e => ?_
        exact not_key hq (l2.maker (ne_nil_of_mem hpr)) (hobq (ne_nil_of_mem hpr)) hu hk (e ▸ l2.keys pr hpr)
      refine ⟨_, .loc l2', ?_⟩
      have : nxt (nxt st q vq obsq) p vp obsp = nxt (nxt st p vp obsp) q vq obsq := by
        have e1 := put_tm_comm st p.dst q.dst vp vq comm
        have e2 : updAll (updAll st.hp obsq) obsp = updAll (updAll st.hp obsp) obsq := by
          refine updAll_comm _ _ _ fun a ha b hb => ?_
          cases hpd : p.dst with
          | none => exact absurd hpd (hobp fun hn => by rw [hn] at hb; cases hb)
          | some d =>
            cases hqd : q.dst with
            | none => exact absurd hqd (hobq fun hn => by rw [hn] at ha; cases ha)
            | some e =>
              exact keys_apart hqd hpd (fun he => comm d hpd (by rw [hqd, he])) (hlq e hqd) (hlp d hpd) (l2.keys a ha) (l1.keys b hb)
        have e3 : ∀ (s : St) (d : Option Tmp) (v : V), (put s d v).tm = (put { tm := s.tm, hp := st.hp } d v).tm := fun s d v => by cases d <;> rfl
        simp only [nxt]
        rw [e3, e3 { tm := (put st p.dst vp).tm, hp := updAll st.hp obsp }, e2]
        congr 1
        have e4 : ∀ (d : Option Tmp) (v : V), ({ tm := (put st d v).tm, hp := st.hp } : St) = put st d v := fun d v => by cases d <;> rfl
        rw [e4, e4]
        exact e1.symm
      rw [← this]
      exact .loc l1'
    | eff hw he hf =>
      have hk : isMove p = true ∧ isLoc q = true := by
        rcases hi.kind with h | h | h
        · rw [h.2] at he; cases he
        · exact h
        · rw [move_eff h.2] at he; cases he
      obtain ⟨rfl, hmv⟩ := l1.move hphi hk.1
      obtain ⟨u, k, ob, rfl, hu, hl⟩ := evalE_loc hk.2 hf.self
      have hR := rq vp (nxt st p vp []) rfl
      have hev : evalE E q st St KS = some (hset (put st q.dst u) k ob) := hl st rfl fun y hy => opV_same hR hy
      obtain ⟨s', hs', hf'⟩ := evalE_foot hphi hev
      cases hs'
      refine ⟨_, .eff (by rw [wantV_congr hR]; exact hw) he hf', ?_⟩
      have l1' := hmv (hset (put st q.dst u) k ob) (rp u _ rfl)
      have : nxt (hset (put st q.dst u) k ob) p vp [] = hset (put (nxt st p vp []) q.dst u) k ob := by
        have e1 := put_tm_comm st p.dst q.dst vp u comm
        have e3 : ∀ (s : St) (d : Option Tmp) (v : V), put s d v = { tm := (put s d v).tm, hp := s.hp } := fun s d v => by cases d <;> rfl
        have e5 : ∀ (s s' : St) (d : Option Tmp) (v : V), s.tm = s'.tm → (put s d v).tm = (put s' d v).tm := fun s s' d v h => by cases d <;> simp [put, h]
        simp only [nxt, hset, updAll, put_hp]
        congr 1
        have a1 := e5 { tm := (put st q.dst u).tm, hp := Vi.upd st.hp k ob } (put st q.dst u) p.dst vp rfl
        have a2 := e5 (put st p.dst vp) { tm := (put st p.dst vp).tm, hp := st.hp } q.dst u rfl
        exact a1.trans (e1.symm.trans a2)
      rw [← this]
      exact .loc l1'
  | eff hw he hf =>
    have hk : isLoc p = true ∧ isMove q = true := by
      rcases hi.kind with h | h | h
      · rw [h.1] at he; cases he
      · rw [move_eff h.1] at he; cases he
      · exact h
    obtain ⟨u, k, ob, rfl, hu, hl⟩ := evalE_loc hk.1 hf.self
    cases h2 with
    | eff hw2 he2 hf2 => rw [move_eff hk.2] at he2; cases he2
    | loc l2 =>
      rename_i vq obsq
      obtain ⟨rfl, hmv⟩ := l2.move hphi hk.2
      have l2' := hmv st (rq u _ rfl)
      refine ⟨_, .loc l2', ?_⟩
      have hR := rp vq (nxt st q vq []) rfl
      have hev : evalE E p (nxt st q vq []) St KS = some (hset (put (nxt st q vq []) p.dst u) k ob) := hl _ rfl fun y hy => opV_same hR hy
      obtain ⟨s', hs', hf'⟩ := evalE_foot hphi hev
      cases hs'
      have : hset (put (nxt st q vq []) p.dst u) k ob = nxt (hset (put st p.dst u) k ob) q vq [] := by
        have e1 := put_tm_comm st p.dst q.dst u vq comm
        have e5 : ∀ (s s' : St) (d : Option Tmp) (v : V), s.tm = s'.tm → (put s d v).tm = (put s' d v).tm := fun s s' d v h => by cases d <;> simp [put, h]
        simp only [nxt, hset, updAll, put_hp]
        congr 1
        have a1 := e5 { tm := (put st p.dst u).tm, hp := Vi.upd st.hp k ob } (put st p.dst u) q.dst vq rfl
        have a2 := e5 (put st q.dst vq) { tm := (put st q.dst vq).tm, hp := st.hp } p.dst u rfl
        exact (a1.trans (e1.trans a2)).symm
      rw [← this]
      exact .eff (by rw [wantV_congr hR]; exact hw) he hf'

end
end Go.Vi
