/- Texts of this claim, joined: ViG to ViN. -/
import Derived.Orders
import Derived.Scope
import Derived.Tactics
import Derived.Test.YtkfkbebinhkdlaaDoorQTopPartsCard3
/-
  Vi: what an operation that changes the call's own leaves in the slots.
-/
set_option linter.unusedVariables false
set_option linter.unusedSimpArgs false
namespace Go.Vi
open Op
def KS : St → Option St := fun s => some s
/-- The slots name what was named, or what the operation's own slot stands for. -/
def Prov (o : Oper) (st st' : St) : Prop :=
  st'.tm.length = st.tm.length ∧ (∀ (t : Nat) (y : C), o.dst ≠ some t → st.tm[t]? = some (.c y) → st'.tm[t]? = some (.c y)) ∧ ∀ (t : Nat) (v : V), st'.tm[t]? = some v → ∀ k, refs k v = true → (∃ (t : Nat) (u : V), st.tm[t]? = some u ∧ refs k u = true) ∨ (o.dst ≠ none ∧ isKey o k)
structure EFoot (E : Env) (o : Oper) (st st' : St) : Prop where
  self : evalE E o st St KS = some st'
  prov : Prov o st st'
def PhioPar (E : Env) : Prop :=
  ∀ g flags vs (ρ : Type) (K : Ret → List Out → Option ρ) r, E.iop g = some flags → E.phio g vs ρ K = some r → ∃ ret outs, K ret outs = some r ∧ ∀ (ρ' : Type) (K' : Ret → List Out → Option ρ'), E.phio g vs ρ' K' = K' ret outs
def EnvPar (E : Env) : Prop := PhiPar E.phi ∧ PhioPar E
section
variable {E : Env} {o : Oper} {ρ : Type} {K : St → Option ρ} {r : ρ} {st st' : St} {H : Heap} {ρv : Val}
def EFooted (E : Env) (o : Oper) (st : St) {ρ : Type} (K : St → Option ρ) (r : ρ) : Prop := ∃ st', K st' = some r ∧ EFoot E o st st'
theorem put_len (st : St) (d : Option Tmp) (v : V) : (put st d v).tm.length = st.tm.length := by cases d <;> simp [put]
theorem put_get {st : St} {d : Option Tmp} {v u : V} {t : Nat} (h : (put st d v).tm[t]? = some u) : (d = some t ∧ u = v) ∨ st.tm[t]? = some u := by
  cases d with
  | none => exact .inr h
  | some d =>
    simp only [put, List.getElem?_set] at h
    split at h
    · rename_i hdt
      split at h
      · cases h; exact .inl ⟨by rw [hdt], rfl⟩
      · cases h
    · exact .inr h
theorem drop_len (st : St) (ks : List Nat) : (drop st ks).tm.length = st.tm.length := by
  cases ks with
  | nil => rfl
  | cons k ks => simp only [drop, cleanTm_length]
theorem drop_get {st : St} {ks : List Nat} {t : Nat} {v : V} (h : (drop st ks).tm[t]? = some v) : v = .undef ∨ st.tm[t]? = some v := by
  cases ks with
  | nil => exact .inr h
  | cons k ks =>
    simp only [drop, cleanTm_get, Option.map_eq_some_iff] at h
    obtain ⟨y, hy, hv⟩ := h
    cases hr : anyRefs (k :: ks) y with
    | true => rw [hr] at hv; exact .inl hv.symm
    | false => rw [hr] at hv; simp only [cond_false] at hv; subst hv; exact .inr hy
theorem drop_keep {st : St} {ks : List Nat} {t : Nat} {y : C} (h : st.tm[t]? = some (.c y)) : (drop st ks).tm[t]? = some (.c y) := by
  cases ks with
  | nil => exact h
  | cons k ks =>
    simp only [drop, cleanTm_get, h, Option.map_some]
    have : anyRefs (k :: ks) (.c y) = false := by
      simp [anyRefs, refs, refs1]
    rw [this]
    rfl
/-- Only the operation's own slot turns, and its value names nothing but its own key. -/
theorem layS_len (st : St) (ks : List Nat) : (layS st ks).tm.length = st.tm.length := by
  cases ks with
  | nil => rfl
  | cons k ks => simp only [layS, layTm_length]
theorem layS_keep {st : St} {ks : List Nat} {t : Nat} {y : C} (h : st.tm[t]? = some (.c y)) : (layS st ks).tm[t]? = some (.c y) := by
  cases ks with
  | nil => exact h
  | cons k ks =>
    simp only [layS, layTm_get, h, Option.map_some]
    have : anyRefs (k :: ks) (.c y) = false := by simp [anyRefs, refs, refs1]
    unfold layV
    rw [this]
    rfl
theorem layS_get {st : St} {ks : List Nat} {t : Nat} {v : V} (h : (layS st ks).tm[t]? = some v) : (∀ k, refs k v = false) ∨ st.tm[t]? = some v := by
  cases ks with
  | nil => exact .inr h
  | cons k ks =>
    simp only [layS, layTm_get, Option.map_eq_some_iff] at h
    obtain ⟨y, hy, hv⟩ := h
    unfold layV at hv
    cases hr : anyRefs (k :: ks) y with
    | true =>
      rw [hr] at hv
      simp only [cond_true] at hv
      split at hv
      · split at hv
        · subst hv; exact .inl fun _ => rfl
        · subst hv; exact .inl fun _ => rfl
      · subst hv; exact .inl fun _ => rfl
    | false => rw [hr] at hv; simp only [cond_false] at hv; subst hv; exact .inr hy
theorem prov_put2 {st1 : St} {v : V} {s : St} (h1 : st1.tm.length = st.tm.length) (h3 : ∀ (t : Nat) (y : C), st.tm[t]? = some (.c y) → st1.tm[t]? = some (.c y)) (h2 : ∀ (t : Nat) (u : V), st1.tm[t]? = some u → (∀ k, refs k u = false) ∨ st.tm[t]? = some u)
    (hs : s.tm = (put st1 o.dst v).tm) (hv : ∀ k, refs k v = true → isKey o k) : Prov o st s := by
  refine ⟨by rw [hs, put_len, h1], fun t y hd hy => ?_, fun t u hu k hk => ?_⟩
  · rw [hs]
    cases hd2 : o.dst with
    | none => exact h3 t y hy
    | some d =>
      simp only [put, List.getElem?_set]
      rw [if_neg (fun e => hd (by rw [hd2, e]))]
      exact h3 t y hy
  rw [hs] at hu
  rcases put_get hu with ⟨hd, rfl⟩ | hu
  · exact .inr ⟨by rw [hd]; simp, hv k hk⟩
  · rcases h2 t u hu with h | h
    · rw [h k] at hk; cases hk
    · exact .inl ⟨t, u, h, hk⟩
theorem prov_put {st1 : St} {v : V} {s : St} (h1 : st1.tm.length = st.tm.length) (h3 : ∀ (t : Nat) (y : C), st.tm[t]? = some (.c y) → st1.tm[t]? = some (.c y)) (h2 : ∀ (t : Nat) (u : V), st1.tm[t]? = some u → u = .undef ∨ st.tm[t]? = some u)
    (hs : s.tm = (put st1 o.dst v).tm) (hv : ∀ k, refs k v = true → isKey o k) : Prov o st s := by
  refine ⟨by rw [hs, put_len, h1], fun t y hd hy => ?_, fun t u hu k hk => ?_⟩
  · rw [hs]
    cases hd2 : o.dst with
    | none => exact h3 t y hy
    | some d =>
      simp only [put, List.getElem?_set]
      rw [if_neg (fun e => hd (by rw [hd2, e]))]
      exact h3 t y hy
  rw [hs] at hu
  rcases put_get hu with ⟨hd, rfl⟩ | hu
  · exact .inr ⟨by rw [hd]; simp, hv k hk⟩
  · rcases h2 t u hu with rfl | hu
    · cases hk
    · exact .inl ⟨t, u, hu, hk⟩
theorem prov_same {v : V} {s : St} (hs : s.tm = (put st o.dst v).tm) (hv : ∀ k, refs k v = true → isKey o k) : Prov o st s :=
  prov_put rfl (fun _ _ h => h) (fun t u h => .inr h) hs hv
theorem isKey_own {k : Nat} (h : refs k (.own (dstKey o.dst) none false) = true) : isKey o k := key0 (refs_own h)
theorem knotCds_refs {k j : Nat} : ∀ {caps : List V} {cds : List CD}, knotCds k caps = some cds → cdsRef j cds = true → refsAny j caps = true
  | [], cds, h, hr => by cases h; cases hr
  | v :: caps, cds, h, hr => by
    simp only [knotCds] at h
    split at h
    · rename_i c l h1 h2
      cases h
      simp only [cdsRef, Bool.or_eq_true] at hr
      simp only [refsAny, Bool.or_eq_true]
      refine hr.imp (fun hr1 => ?_) (knotCds_refs h2)
      clear hr
      cases v with
      | ptr i off =>
        cases off with
        | succ off => simp [knotCd] at h1
        | zero =>
          simp only [knotCd] at h1
          cases hb : Nat.beq i k with
          | true =>
            rw [hb, cond_true, Option.some.injEq] at h1
            subst h1
            cases hr1
          | false =>
            rw [hb, cond_false, Option.some.injEq] at h1
            subst h1
            exact hr1
      | fptr g cds' =>
        simp only [knotCd, Option.map_eq_some_iff] at h1
        obtain ⟨ks, h1, rfl⟩ := h1
        simp only [cdRef] at hr1
        simp only [refs1]
        clear h2
        induction cds' generalizing ks with
        | nil => cases h1; cases hr1
        | cons d ds ih =>
          cases d with
          | b i =>
            simp only [cdKeys, Option.map_eq_some_iff] at h1
            obtain ⟨l', hl, rfl⟩ := h1
            simp only [memN, List.any_cons, Bool.or_eq_true] at hr1
            simp only [cdsRef, cdRef, Bool.or_eq_true]
            rcases hr1 with hr | hr
            · have := Nat.eq_of_beq_eq_true hr
              subst this
              exact .inl (Nat.beq_refl _)
            · exact .inr (ih _ hl hr)
          | s => simp [cdKeys] at h1
          | v g l => simp [cdKeys] at h1
      | _ => simp [knotCd] at h1
    · cases h
theorem EF_knot {t : TypeId} {y z : Operand} (hf : memN t E.T.fns = true) (ho : o.op = .store t y z) (h : evalKnot o st y z ρ K = some r) : EFooted E o st K r := by
  simp only [evalKnot] at h
  split at h
  · rename_i k f caps h1 h2
    split at h
    · rename_i cds hH hcd
      obtain ⟨hd, h⟩ := cond_some h rfl
      refine ⟨_, h, by simp only [evalE, ho, hf, cond_true, evalKnot, h1, h2, hH, hcd, hd, KS], ?_⟩
      refine ⟨by rw [put_len]; simp [knotTm_length], fun s q hd hq => ?_, fun s v hs j hj => ?_⟩
      · have h5 : (knotTm k (.fptr f cds) st.tm)[s]? = some (.c q) := by
          rw [knotTm_get, hq]
          simp [knotV, refs, refs1]
        cases hd2 : o.dst with
        | none => exact h5
        | some d =>
          simp only [put, List.getElem?_set]
          rw [if_neg (fun e => hd (by rw [hd2, e]))]
          exact h5
      rcases put_get hs with ⟨hd, rfl⟩ | hs
      · cases hj
      · simp only [knotTm_get, Option.map_eq_some_iff] at hs
        obtain ⟨y0, hy0, hyk⟩ := hs
        unfold knotV at hyk
        split at hyk
        · rename_i i
          cases hb : Nat.beq i k with
          | false =>
            rw [hb, cond_false] at hyk
            subst hyk
            exact .inl ⟨s, _, hy0, hj⟩
          | true =>
            rw [hb, cond_true] at hyk
            subst hyk
            have h3 := knotCds_refs hcd (show cdsRef j cds = true from hj)
            cases z with
            | tmp t' => exact .inl ⟨t', _, h2, h3⟩
            | const v =>
              exfalso
              have h4 : constV v = some (V.fn f caps) := h2
              cases v <;> simp [constV, constC] at h4
            | global g =>
              replace h2 : (match (globs[g]? : Option (List (IntKind × Int))) with | some ns => some (V.iptr (ns.map fun p => .int p.1 p.2)) | none => none) = some (V.fn f caps) := h2
              split at h2 <;> cases h2
            | func g =>
              simp only [opV, Option.some.injEq, V.fn.injEq] at h2
              rw [← h2.2] at h3
              cases h3
        · cases hr : refs k y0 with
          | true => rw [hr, cond_true] at hyk; subst hyk; cases hj
          | false =>
            rw [hr, cond_false] at hyk
            subst hyk
            exact .inl ⟨s, _, hy0, hj⟩
    · cases h
  · cases h
theorem EF_osl {t : TypeId} {y z : Operand} (hf : memN t E.T.fns = false) (hio : isOwnV (opV st z) = true) (ho : o.op = .store t y z) (h : evalOsl E o st t y z ρ K = some r) : EFooted E o st K r := by
  unfold evalOsl at h
  split at h
  · rename_i k off k3 tt h1 h2
    split at h
    · rename_i e cs e' xs n hs hH hH3
      obtain ⟨hd, h⟩ := cond_some h rfl
      refine ⟨_, h, by (simp only [evalE, ho, hf, hio, cond_false, cond_true, evalOsl, h1, h2, hs, hH, hH3, hd, KS]; rfl), prov_put (st1 := { tm := cleanTm [k3, hk k off] st.tm, hp := st.hp }) (cleanTm_length _ _) (fun t y hy => ?_) (fun t u hu => ?_) rfl (fun k hk => by cases hk)⟩
      · exact drop_keep (ks := [k3, hk k off]) hy
      · exact drop_get (ks := [k3, hk k off]) hu
    · cases h
  · cases h
theorem EF_store {t : TypeId} {y z : Operand} (ho : o.op = .store t y z) (h : evalE E o st ρ K = some r) : EFooted E o st K r := by
  simp only [evalE, ho] at h
  cases hf : memN t E.T.fns with
  | true => rw [hf, cond_true] at h; exact EF_knot hf ho h
  | false =>
  rw [hf, cond_false] at h
  cases hio : isOwnV (opV st z) with
  | true => rw [hio, cond_true] at h; exact EF_osl hf hio ho h
  | false =>
  rw [hio, cond_false] at h
  split at h
  · rename_i s k off vs h1 h2 h3
    split at h
    · rename_i cs hH
      obtain ⟨hd, h⟩ := cond_some h rfl
      exact ⟨_, h, by simp only [evalE, ho, hf, hio, cond_false, h1, h2, h3, hH, hd, cond_true, KS], prov_same rfl (fun k hk => by cases hk)⟩
    · cases h
  · rename_i s k win i off vs h1 h2 h3
    split at h
    · rename_i e xs n hH
      obtain ⟨hd, h⟩ := cond_some h rfl
      obtain ⟨x, hx, h⟩ := Option.bind_eq_some_iff.1 h
      split at h
      · rename_i y' hy
        exact ⟨_, h, by simp only [evalE, ho, hf, hio, cond_false, h1, h2, h3, hH, hd, cond_true, hx, Option.bind_some, hy, KS], prov_same rfl (fun k hk => by cases hk)⟩
      · cases h
    · cases h
  · rename_i s k off n e i vs h1 h2 h3
    split at h
    · rename_i cs v hH
      obtain ⟨hd, h⟩ := cond_some h rfl
      split at h
      · rename_i cs' hset
        exact ⟨_, h, by simp only [evalE, ho, hf, hio, cond_false, h1, h2, h3, hH, hd, cond_true, hset, KS], prov_same rfl (fun k hk => by cases hk)⟩
      · cases h
    · cases h
  · cases h
theorem EF_mapUpdate {t : TypeId} {y z u : Operand} (ho : o.op = .mapUpdate t y z u) (h : evalE E o st ρ K = some r) : EFooted E o st K r := by
  simp only [evalE, ho] at h
  split at h
  · rename_i k kk n cs h1 h2 h3
    split at h
    · rename_i kk' e m kk2 e2 hH hm
      obtain ⟨hd, h⟩ := cond_some h rfl
      split at h
      · rename_i z' hz
        exact ⟨_, h, by simp only [evalE, ho, h1, h2, h3, hH, hm, hd, cond_true, hz, KS], prov_same rfl (fun k hk => by cases hk)⟩
      · cases h
    · cases h
  · cases h
theorem EF_buildSlice {t : TypeId} {n : Nat} {ps : Array (Nat × Operand)} (ho : o.op = .buildSlice t n ps) (h : evalE E o st ρ K = some r) : EFooted E o st K r := by
  simp only [evalE, ho] at h
  split at h
  · rename_i e hs
    split at h
    · rename_i xs hx
      obtain ⟨hd, h⟩ := cond_some h rfl
      exact ⟨_, h, by simp only [evalE, ho, hs, hx, hd, cond_true, KS], prov_put (drop_len _ _) (fun _ _ h => drop_keep h) (fun t u hu => drop_get hu) rfl (fun k hk => isKey_own hk)⟩
    · cases h
  · cases h
theorem EF_cut {t : TypeId} {y : Operand} {lo hi mx : Option Operand} (ho : o.op = .slice t y lo hi mx) (h : evalCut E o st t y lo hi mx ρ K = some r) : EFooted E o st K r := by
  simp only [evalCut] at h
  split at h
  · rename_i n e k off lo' hi' h1 h2 h3 h4 h5
    split at h
    · rename_i cs hH
      split at h
      · rename_i xs hx
        obtain ⟨hd, h⟩ := cond_some h rfl
        exact ⟨_, h, by simp only [evalE, ho, evalCut, h1, h2, h3, h4, h5, hH, hx, hd, cond_true, KS], prov_put (drop_len _ _) (fun _ _ h => drop_keep h) (fun t u hu => drop_get hu) rfl (fun k hk => by cases hk)⟩
      · cases h
    · cases h
  · rename_i n e cs lo' hi' h1 h2 h3 h4 h5
    split at h
    · rename_i xs hx
      obtain ⟨hd, h⟩ := cond_some h rfl
      exact ⟨_, h, by simp only [evalE, ho, evalCut, h1, h2, h3, h4, h5, hx, hd, cond_true, KS], prov_same rfl (fun k hk => by cases hk)⟩
    · cases h
  · cases h
theorem EF_append {c : Call} (ho : o.op = .call c) (hc : c.callee = .builtin .append) (h : evalE E o st ρ K = some r) : EFooted E o st K r := by
  simp only [evalE, ho, hc] at h
  split at h
  · rename_i x y t tx hx ht
    split at h
    · rename_i e e1 e2 ys2 h1 h2 h3
      split at h
      · rename_i ys k win h4 h5
        split at h
        · rename_i e' xs' n hH
          split at h
          · rename_i xs hxs
            obtain ⟨hd, h⟩ := cond_some h rfl
            exact ⟨_, h, by simp only [evalE, ho, hc, hx, ht, h1, h2, h3, h4, h5, hH, hxs, hd, cond_true, KS], prov_put (drop_len _ _) (fun _ _ h => drop_keep h) (fun t u hu => drop_get hu) rfl (fun k hk => isKey_own hk)⟩
          · cases h
        · cases h
      · cases h
    · cases h
  · cases h
theorem EF_copy {c : Call} (ho : o.op = .call c) (hc : c.callee = .builtin .copy) (h : evalE E o st ρ K = some r) : EFooted E o st K r := by
  simp only [evalE, ho, hc] at h
  split at h
  · rename_i x y t ts hx ht
    split at h
    · rename_i e0 k win tt e2 ys2 h1 h2 h3
      split at h
      · rename_i e xs n hH
        split at h
        · rename_i ys hys
          obtain ⟨hd, h⟩ := cond_some h rfl
          exact ⟨_, h, by simp only [evalE, ho, hc, hx, ht, h1, h2, h3, hH, hys, hd, cond_true, KS], prov_same rfl (fun k hk => by cases hk)⟩
        · cases h
      · cases h
    · cases h
  · cases h
theorem EF_delete {c : Call} (ho : o.op = .call c) (hc : c.callee = .builtin .delete) (h : evalE E o st ρ K = some r) : EFooted E o st K r := by
  simp only [evalE, ho, hc] at h
  split at h
  · rename_i x y t ts hx ht
    split at h
    · rename_i k kk n h1 h2
      split at h
      · rename_i kk' e es kk2 e2 hH hm
        obtain ⟨hd, h⟩ := cond_some h rfl
        exact ⟨_, h, by simp only [evalE, ho, hc, hx, ht, h1, h2, hH, hm, hd, cond_true, KS], prov_same rfl (fun k hk => by cases hk)⟩
      · cases h
    · cases h
  · cases h
theorem EF_clear {c : Call} (ho : o.op = .call c) (hc : c.callee = .builtin .clear) (h : evalE E o st ρ K = some r) : EFooted E o st K r := by
  simp only [evalE, ho, hc] at h
  split at h
  · rename_i x t ts hx ht
    split at h
    · rename_i k h1
      split at h
      · rename_i kk' e es kk2 e2 hH hm
        obtain ⟨hd, h⟩ := cond_some h rfl
        exact ⟨_, h, by simp only [evalE, ho, hc, hx, ht, h1, hH, hm, hd, cond_true, KS], prov_same rfl (fun k hk => by cases hk)⟩
      · cases h
    · cases h
  · cases h
theorem EF_next {y : Operand} (ho : o.op = .next y true) (h : evalE E o st ρ K = some r) : EFooted E o st K r := by
  simp only [evalE, ho] at h
  split at h
  · rename_i k h1
    split at h
    · rename_i s pos hH
      cases hlt : Nat.blt pos s.size with
      | true =>
        rw [hlt, cond_true] at h
        obtain ⟨q, hq, h⟩ := Option.bind_eq_some_iff.1 h
        obtain ⟨hd, h⟩ := cond_some h rfl
        exact ⟨_, h, by simp only [evalE, ho, h1, hH, hlt, cond_true, hq, Option.bind_some, hd, KS], prov_same rfl (fun k hk => by cases hk)⟩
      | false =>
        rw [hlt, cond_false] at h
        exact ⟨_, h, by simp only [evalE, ho, h1, hH, hlt, cond_false, KS], prov_same rfl (fun k hk => by cases hk)⟩
    · cases h
  · cases h
theorem EF_del {c : Call} {f : Operand} (hf : isDelF E.T f = true) (ho : o.op = .call c) (hc : c.callee = .value f) (h : evalDel o c st ρ K = some r) : EFooted E o st K r := by
  simp only [evalDel] at h
  split at h
  · rename_i x y z hx
    split at h
    · rename_i k i j h1 h2 h3
      split at h
      · rename_i xs n hH
        obtain ⟨hd, h⟩ := cond_some h rfl
        exact ⟨_, h, by simp only [evalE, ho, hc, hf, cond_true, evalDel, hx, h1, h2, h3, hH, hd, KS], prov_put (drop_len _ _) (fun _ _ h => drop_keep h) (fun t u hu => drop_get hu) rfl (fun k hk => isKey_own hk)⟩
      · cases h
    · cases h
  · cases h
theorem EF_callv {c : Call} {f : Operand} (hphi : EnvPar E) (ho : o.op = .call c) (hc : c.callee = .value f) (h : evalE E o st ρ K = some r) : EFooted E o st K r := by
  simp only [evalE, ho, hc] at h
  cases hdl : isDelF E.T f with
  | true =>
    rw [hdl] at h
    exact EF_del hdl ho hc h
  | false =>
  rw [hdl, cond_false] at h
  split at h
  · rename_i v hv
    split at h
    · rename_i g caps0
      split at h
      · rename_i vs hvs
        split at h
        rotate_left
        · rename_i flags hfl
          split at h
          · rename_i ks oth hio
            split at h
            rotate_left
            · cases h
            rename_i caps hg
            obtain ⟨ret, outs, h, hpar⟩ := hphi.2 _ _ _ _ _ _ hfl h
            obtain ⟨hd, h⟩ := cond_some h rfl
            obtain ⟨hp', hput, h, hCC⟩ := outsPutC_some h
            obtain ⟨hdd, h⟩ := cond_some h rfl
            have hl : ∀ (t : Nat) (u : V), (bif ret.any Ret1.hasSl || outs.any Out.hasSl then drop st oth else st).tm[t]? = some u → u = .undef ∨ st.tm[t]? = some u := by
              intro t u hu
              cases hb : ret.any Ret1.hasSl || outs.any Out.hasSl with
              | true => rw [hb] at hu; exact drop_get hu
              | false => rw [hb] at hu; exact .inr hu
            have hn : (bif ret.any Ret1.hasSl || outs.any Out.hasSl then drop st oth else st).tm.length = st.tm.length := by
              cases ret.any Ret1.hasSl || outs.any Out.hasSl
              · rfl
              · exact drop_len _ _
            have hkp : ∀ (t : Nat) (y : C), st.tm[t]? = some (.c y) → (bif ret.any Ret1.hasSl || outs.any Out.hasSl then drop st oth else st).tm[t]? = some (.c y) := by
              intro t y hy
              cases ret.any Ret1.hasSl || outs.any Out.hasSl
              · exact hy
              · exact drop_keep hy
            refine ⟨_, h, by simp only [evalE, ho, hc, hdl, cond_false, hv, hvs, hfl, hio, hg, hpar, hd, hCC, hdd, cond_true, KS], prov_put hn hkp hl rfl fun k hk => ?_⟩
            obtain ⟨p, hp, he⟩ := retAll_refs hk
            obtain ⟨j, hj⟩ := retAll_keys p hp
            exact ⟨j, he ▸ hj⟩
          · cases h
        rename_i hfl
        split at h
        rotate_left
        · cases h
        rename_i caps hg
        obtain ⟨ret, h, hpar⟩ := hphi.1 _ _ _ _ _ h
        obtain ⟨hd, h⟩ := cond_some h rfl
        have hl : ∀ (t : Nat) (u : V), (bif ret.any Ret1.hasSl then layS st ((V.fn g caps0).ownKey ++ c.args.toList.flatMap (opKey (opV st))) else st).tm[t]? = some u → (∀ k, refs k u = false) ∨ st.tm[t]? = some u := by
          intro t u hu
          cases hb : ret.any Ret1.hasSl with
          | true => rw [hb] at hu; exact layS_get hu
          | false => rw [hb] at hu; exact .inr hu
        have hn : (bif ret.any Ret1.hasSl then layS st ((V.fn g caps0).ownKey ++ c.args.toList.flatMap (opKey (opV st))) else st).tm.length = st.tm.length := by
          cases ret.any Ret1.hasSl
          · rfl
          · exact layS_len _ _
        have hkp : ∀ (t : Nat) (y : C), st.tm[t]? = some (.c y) → (bif ret.any Ret1.hasSl then layS st ((V.fn g caps0).ownKey ++ c.args.toList.flatMap (opKey (opV st))) else st).tm[t]? = some (.c y) := by
          intro t y hy
          cases ret.any Ret1.hasSl
          · exact hy
          · exact layS_keep hy
        refine ⟨_, h, by simp only [evalE, ho, hc, hdl, cond_false, hv, hg, hvs, hfl, hpar, hd, cond_true, KS], prov_put2 hn hkp hl rfl fun k hk => ?_⟩
        obtain ⟨p, hp, he⟩ := retAll_refs hk
        obtain ⟨j, hj⟩ := retAll_keys p hp
        exact ⟨j, he ▸ hj⟩
      · cases h
    · cases h
  · cases h
theorem evalE_foot (hphi : EnvPar E) (h : evalE E o st ρ K = some r) : EFooted E o st K r := by
  cases ho : o.op with
  | store t p y => exact EF_store ho h
  | mapUpdate t p q y => exact EF_mapUpdate ho h
  | next y b =>
    cases b with
    | true => exact EF_next ho h
    | false => simp only [evalE, ho] at h; cases h
  | buildSlice t n ps => exact EF_buildSlice ho h
  | slice t y lo hi mx => exact EF_cut ho (by simpa only [evalE, ho] using h)
  | call c =>
    cases hc : c.callee with
    | builtin b =>
      cases b with
      | append => exact EF_append ho hc h
      | copy => exact EF_copy ho hc h
      | delete => exact EF_delete ho hc h
      | clear => exact EF_clear ho hc h
      | _ => simp only [evalE, ho, hc] at h; cases h
    | value f => exact EF_callv hphi ho hc h
    | invoke rv m => simp only [evalE, ho, hc] at h; cases h
  | _ => simp only [evalE, ho] at h; cases h
/-! ### Stores and copies next to moves -/
theorem opV_congr {st st2 : St} {y : Operand} (h : ∀ t, y = .tmp t → st2.tm[t]? = st.tm[t]?) : opV st2 y = opV st y := by
  cases y with
  | tmp t => exact h t rfl
  | _ => rfl
theorem copy_len {α : Type} (win : Option (Nat × Nat)) (xs ys : List α) :
    (xs.take (wo win) ++ ys.take (min ys.length (view win xs).length) ++ xs.drop (wo win + min ys.length (view win xs).length)).length = xs.length := by
  have hv : (view win xs).length ≤ xs.length - wo win := by
    cases win with
    | none => simp [view, wo]
    | some p => simp [view, wo]; omega
  simp only [List.length_append, List.length_take, List.length_drop]
  omega
/-- What a store or a copy does hangs on its operands and on what there is. -/
theorem evalE_loc (hl : isLoc E.T o = true) (h : evalE E o st St KS = some st') : ∃ u k ob ob0, st' = hset (put st o.dst u) k ob ∧ (∀ j, refs j u = false) ∧ (st.hp k = some ob0 ∧ sameO ob0 ob) ∧ (∀ t y z, o.op = .store t y z → ∃ w, opV st y = some w ∧ refs k w = true) ∧
    ∀ st2, st2.hp = st.hp → (∀ y ∈ o.op.operands.toList, opV st2 y = opV st y) → evalE E o st2 St KS = some (hset (put st2 o.dst u) k ob) := by
  unfold isLoc at hl
  split at hl
  · rename_i t y z ho
    rw [Bool.and_eq_true, Bool.not_eq_true'] at hl
    obtain ⟨hl, hl2⟩ := hl
    simp only [evalE, ho, hl, cond_false] at h
    cases hio : isOwnV (opV st z) with
    | true =>
      exfalso
      rw [hio, cond_true] at h
      unfold evalOsl at h
      split at h
      · split at h
        · rename_i hs _ _
          rw [hs] at hl2
          cases hl2
        · cases h
      · cases h
    | false =>
    rw [hio, cond_false] at h
    have hy : y ∈ o.op.operands.toList := by simp [ho, Op.operands]
    have hz : z ∈ o.op.operands.toList := by simp [ho, Op.operands]
    split at h
    · rename_i s k off vs h1 h2 h3
      split at h
      · rename_i cs hH
        obtain ⟨hd, h⟩ := cond_some h rfl
        cases h
        refine ⟨_, _, _, _, rfl, fun _ => rfl, ⟨hH, trivial⟩, fun t' y' z' e => ?_, fun st2 hp hop => ?_⟩
        · rw [ho] at e; cases e; exact ⟨_, h2, by simp [refs, refs1]⟩
        simp only [evalE, ho, hl, hio, cond_false, hop y hy, hop z hz, hp, h1, h2, h3, hH, hd, cond_true, KS]
      · cases h
    · rename_i s k win i off vs h1 h2 h3
      split at h
      · rename_i e xs n hH
        obtain ⟨hd, h⟩ := cond_some h rfl
        obtain ⟨x, hx, h⟩ := Option.bind_eq_some_iff.1 h
        split at h
        · rename_i y' hy'
          cases h
          refine ⟨_, _, _, _, rfl, fun _ => rfl, ⟨hH, rfl, by cases win <;> simp [setW], rfl⟩, fun t' y' z' e => ?_, fun st2 hp hop => ?_⟩
          · rw [ho] at e; cases e; exact ⟨_, h2, by simp [refs, refs1]⟩
          simp only [evalE, ho, hl, hio, cond_false, hop y hy, hop z hz, hp, h1, h2, h3, hH, hd, cond_true, hx, Option.bind_some, hy', KS]
        · cases h
      · cases h
    · rename_i s k off n e i vs h1 h2 h3
      split at h
      · rename_i cs v hH
        obtain ⟨hd, h⟩ := cond_some h rfl
        split at h
        · rename_i cs' hset
          cases h
          refine ⟨_, _, _, _, rfl, fun _ => rfl, ⟨hH, trivial⟩, fun t' y' z' e => ?_, fun st2 hp hop => ?_⟩
          · rw [ho] at e; cases e; exact ⟨_, h2, by simp [refs, refs1]⟩
          simp only [evalE, ho, hl, hio, cond_false, hop y hy, hop z hz, hp, h1, h2, h3, hH, hd, cond_true, hset, KS]
        · cases h
      · cases h
    · cases h
  · rename_i c ho
    split at hl
    · rename_i hc
      have hops := call_ops ho hc
      simp only [evalE, ho, hc] at h
      split at h
      · rename_i x y t ts hx ht
        rw [hx] at hops
        have hmx : x ∈ o.op.operands.toList := by rw [hops]; simp
        have hmy : y ∈ o.op.operands.toList := by rw [hops]; simp
        split at h
        · rename_i e0 k win tt e2 ys2 h1 h2 h3
          split at h
          · rename_i e xs n hH
            split at h
            · rename_i ys hys
              obtain ⟨hd, h⟩ := cond_some h rfl
              cases h
              refine ⟨_, _, _, _, rfl, fun _ => rfl, ⟨hH, rfl, copy_len win xs ys, rfl⟩, fun t' y' z' e => ?_, fun st2 hp hop => ?_⟩
              · rw [ho] at e; cases e
              simp only [evalE, ho, hc, hx, ht, hop x hmx, hop y hmy, hp, h1, h2, h3, hH, hys, hd, cond_true, KS]
            · cases h
          · cases h
        · cases h
      · cases h
    · cases hl
  · cases hl
end
end Go.Vi
/-
  Vi: regions, operation by operation, in whatever order their edges allow.
-/
set_option linter.unusedVariables false
set_option linter.unusedSimpArgs false
namespace Go.Vi
open Op
/-- Does an operation's guard want it? -/
def wantV (all : List Oper) (o : Oper) (st : St) : Option Bool :=
  match o.guard with
  | none => some true
  | some (j, want) =>
    match (all[j]?).bind (·.dst) with
    | none => none
    | some t =>
      match st.tm[t]? with
      | none => some false
      | some (.c (.bool b)) => some (b == want)
      | some (.tup []) => some false
      | _ => none
/-- What a step brings that hangs on its operands alone. -/
inductive LStep (E : Env) (all : List Oper) (o : Oper) (st : St) : V → List (Nat × O) → Prop where
  | pure {v : V} {obs : List (Nat × O)} : wantV all o st = some true → isEff E all o = false → Foot E o (opV st) st.hp v obs → (∀ p ∈ obs, p.1 < oslLo) → LStep E all o st v obs
  | skip : wantV all o st = some false → LStep E all o st (.tup []) []
  | pick {c a b : Operand} {p : Bool} {v : V} : wantV all o st = some true → o.op = .pick c a b → opV st c = some (.c (.bool p)) → opV st (bif p then a else b) = some v → v.isUndef = false → LStep E all o st v []
def nxt (st : St) (o : Oper) (v : V) (obs : List (Nat × O)) : St := { tm := (put st o.dst v).tm, hp := updAll st.hp obs }
inductive FStep (E : Env) (all : List Oper) (o : Oper) (st : St) : St → Prop where
  | loc {v : V} {obs : List (Nat × O)} : LStep E all o st v obs → FStep E all o st (nxt st o v obs)
  | eff {st' : St} : wantV all o st = some true → isEff E all o = true → EFoot E o st st' → FStep E all o st st'
def FRun (E : Env) (all : List Oper) : List Oper → St → St → Prop
  | [], st, st' => st = st'
  | o :: os, st, st' => ∃ s, FStep E all o st s ∧ FRun E all os s st'
/-- No slot names what these operations are going to make. -/
def Fresh (st : St) (os : List Oper) : Prop := ∀ q ∈ os, isMove q = false → ∀ d, q.dst = some d → ∀ (j t : Nat) (u : V), st.tm[t]? = some u → refs (d + 10000 * j) u = false
/-- Each slot is written once. -/
structure Ssa (E : Env) (all os : List Oper) : Prop where
  nd : (dstsOf os).Nodup
  lt : ∀ d ∈ dstsOf os, d < 9999
  has : ∀ o ∈ os, isEff E all o = false → o.dst ≠ none
section
variable {P : Program} {E : Env} {all : List Oper} {o p q : Oper} {x : Cx} {γ : Gam} {w : World} {a : Act} {st st' s1 s2 : St} {v vp vq : V} {obs obsp obsq : List (Nat × O)}
theorem opV_tmp {y : Operand} {u : V} {k : Nat} (h : opV st y = some u) (hr : refs k u = true) : ∃ t, y = .tmp t ∧ st.tm[t]? = some u := by
  cases y with
  | tmp t => exact ⟨t, rfl, h⟩
  | const c =>
    exfalso
    simp only [opV] at h
    have key : ∀ c : Value, ∀ x : C, constC c = some x → refs k (.c x) = true → False := fun c x _ hx => by cases hx
    cases c with
    | agg cs =>
      simp only [constV, Option.map_eq_some_iff] at h
      obtain ⟨_, _, rfl⟩ := h
      cases hr
    | _ =>
      simp only [constV, Option.map_eq_some_iff] at h
      obtain ⟨_, _, rfl⟩ := h
      cases hr
  | global g => obtain ⟨cs, rfl⟩ := opV_global h; cases hr
  | func f => cases h; cases hr
theorem mem_reads {t : Nat} (h : Operand.tmp t ∈ o.op.operands.toList) : t ∈ readsOf all o := by
  unfold readsOf
  refine List.mem_append.2 (.inl (List.mem_filterMap.2 ⟨.tmp t, h, rfl⟩))
theorem mem_guard {j : Nat} {want : Bool} {t : Nat} (h : o.guard = some (j, want)) (ht : (all[j]?).bind (·.dst) = some t) : t ∈ readsOf all o := by
  unfold readsOf
  refine List.mem_append.2 (.inr ?_)
  rw [h]
  simp [ht]
/-- The slots that an operation reads read the same. -/
def SameR (all : List Oper) (o : Oper) (st st2 : St) : Prop := ∀ t ∈ readsOf all o, st2.tm[t]? = st.tm[t]?
/-- And what they name. -/
def SameH (all : List Oper) (o : Oper) (st st2 : St) : Prop := ∀ t ∈ readsOf all o, ∀ (u : V), st.tm[t]? = some u → ∀ k, refs k u = true → st2.hp k = st.hp k ∧ ∀ off, st2.hp (hk k off) = st.hp (hk k off)
theorem wantV_congr (h : SameR all o st s1) : wantV all o s1 = wantV all o st := by
  unfold wantV
  cases hg : o.guard with
  | none => rfl
  | some g =>
    obtain ⟨j, want⟩ := g
    cases ht : (all[j]?).bind (·.dst) with
    | none => simp only [ht]
    | some t => simp only [ht, h t (mem_guard hg ht)]
theorem opV_same {y : Operand} (h : SameR all o st s1) (hy : y ∈ o.op.operands.toList) : opV s1 y = opV st y :=
  opV_congr fun t ht => h t (mem_reads (ht ▸ hy))
theorem LStep.congr (hphi : EnvPar E) (h : LStep E all o st v obs) (hR : SameR all o st s1) (hH : SameH all o st s1) : LStep E all o s1 v obs := by
  cases h with
  | pure hw he hf hl =>
    refine .pure (by rw [wantV_congr hR]; exact hw) he ?_ hl
    have := hf.cong (opV s1) s1.hp ⟨fun y hy => opV_same hR hy, fun y hy u hu k hk => by
      obtain ⟨t, rfl, ht⟩ := opV_tmp hu hk
      exact (hH t (mem_reads hy) u ht k hk).1, fun y hy u hu k hk => by
      obtain ⟨t, rfl, ht⟩ := opV_tmp hu hk
      exact (hH t (mem_reads hy) u ht k hk).2⟩
    obtain ⟨v', obs', hk, hf'⟩ := evalP_foot hphi.1 this
    cases hk
    exact hf'
  | skip hw => exact .skip (by rw [wantV_congr hR]; exact hw)
  | pick hw ho hc hv hu =>
    rename_i c a b p
    have hops : o.op.operands.toList = [c, a, b] := by simp [ho, Op.operands]
    refine .pick (c := c) (a := a) (b := b) (p := p) (by rw [wantV_congr hR]; exact hw) ho ?_ ?_ hu
    · rw [opV_same hR (by rw [hops]; simp)]; exact hc
    · rw [opV_same hR (by rw [hops]; cases p <;> simp)]; exact hv
/-- A move makes nothing. -/
theorem move_obs {ρv : Val} {H : Heap} (hm : isMove o = true) (hs : evalP E o ρv H _ K0 = some (v, obs)) : obs = [] := by
  unfold isMove at hm
  have key : ∀ y, isNil y = false → (o.op = .move y ∨ o.op = .assign y) → obs = [] := by
    intro y hn ho
    have hs' : (match ρv y with | some v => bif v.isUndef then none else K0 v [] | none => none) = some (v, obs) := by
      rcases ho with ho | ho
      all_goals
        simp only [evalP, ho, hn, cond_false] at hs
        exact hs
    split at hs'
    · obtain ⟨_, hk⟩ := cond_none hs' rfl
      cases hk
      rfl
    · cases hs'
  split at hm
  · rename_i y ho; exact key y (by simpa using hm) (.inl ho)
  · rename_i y ho; exact key y (by simpa using hm) (.inr ho)
  · cases hm
theorem LStep.maker (h : LStep E all o st v obs) (hn : obs ≠ []) : isMove o = false := by
  cases hm : isMove o with
  | false => rfl
  | true =>
    cases h with
    | pure hw he hf => exact absurd (move_obs hm hf.self) hn
    | skip hw => exact absurd rfl hn
    | pick => exact absurd rfl hn
theorem ne_nil_of_mem {α : Type} {a : α} {l : List α} (h : a ∈ l) : l ≠ [] := fun e => by rw [e] at h; cases h
theorem LStep.prov (h : LStep E all o st v obs) : ∀ k, refs k v = true → (∃ t ∈ readsOf all o, ∃ u : V, st.tm[t]? = some u ∧ refs k u = true) ∨ (isMove o = false ∧ isKey o k) ∨ k % 10000 = 9999 := by
  intro k hk
  cases h with
  | pure hw he hf hl =>
    rcases hf.prov k hk with ⟨y, hy, u, hu, hr⟩ | ⟨p, hp, he⟩ | ⟨k0, off, rfl, _⟩
    · obtain ⟨t, rfl, ht⟩ := opV_tmp hu hr
      exact .inl ⟨t, mem_reads hy, u, ht, hr⟩
    · exact .inr (.inl ⟨(LStep.pure hw ‹isEff E all o = false› hf hl).maker (ne_nil_of_mem hp), he ▸ hf.keys p hp⟩)
    · exact .inr (.inr (hk_mod _ _))
  | skip hw => cases hk
  | pick hw ho hc hv hu =>
    rename_i c a b p
    obtain ⟨t, hy, ht⟩ := opV_tmp hv hk
    refine .inl ⟨t, mem_reads ?_, v, ht, hk⟩
    rw [← hy]
    simp only [ho, Op.operands]
    cases p <;> simp
theorem LStep.lo (h : LStep E all o st v obs) : ∀ p ∈ obs, p.1 < oslLo := by
  cases h with
  | pure hw he hf hl => exact hl
  | skip hw => simp
  | pick => simp
theorem LStep.keys (h : LStep E all o st v obs) : ∀ p ∈ obs, isKey o p.1 := by
  cases h with
  | pure hw he hf => exact hf.keys
  | skip hw => simp
  | pick => simp
theorem LStep.has (hs : o ∈ all → True) (h : LStep E all o st v obs) (hn : obs ≠ []) : isEff E all o = false := by
  cases h with
  | pure hw he hf => exact he
  | skip hw => exact absurd rfl hn
  | pick => exact absurd rfl hn
theorem updAll_get (H : Heap) : ∀ (obs : List (Nat × O)) (j : Nat), updAll H obs j = match updAll emp obs j with | some ob => some ob | none => H j
  | [], j => rfl
  | (k, ob) :: r, j => by
    simp only [updAll, upd]
    cases Nat.beq j k
    · exact updAll_get H r j
    · rfl
theorem updAll_no (H : Heap) : ∀ (obs : List (Nat × O)) (j : Nat), (∀ p ∈ obs, p.1 ≠ j) → updAll H obs j = H j
  | [], j, _ => rfl
  | (k, ob) :: r, j, h => by
    have h1 : j ≠ k := fun e => h (k, ob) (by simp) e.symm
    simp only [updAll, upd, beq_false h1, cond_false]
    exact updAll_no H r j fun p hp => h p (by simp [hp])
theorem updAll_comm (H : Heap) (a b : List (Nat × O)) (h : ∀ p ∈ a, ∀ q ∈ b, p.1 ≠ q.1) : updAll (updAll H a) b = updAll (updAll H b) a := by
  funext j
  rw [updAll_get (updAll H a), updAll_get (updAll H b), updAll_get H a, updAll_get H b]
  cases ha : updAll emp a j with
  | none => rfl
  | some x =>
    cases hb : updAll emp b j with
    | none => rfl
    | some y =>
      exfalso
      have e1 : ¬ ∀ p ∈ a, p.1 ≠ j := fun hn => by rw [updAll_no emp a j hn] at ha; cases ha
      have e2 : ¬ ∀ p ∈ b, p.1 ≠ j := fun hn => by rw [updAll_no emp b j hn] at hb; cases hb
      simp only [Classical.not_forall, ne_eq, Classical.not_not] at e1 e2
      obtain ⟨p, hp, e1⟩ := e1
      obtain ⟨q, hq, e2⟩ := e2
      exact h p hp q hq (e1.trans e2.symm)
theorem put_tm_comm (st : St) (d e : Option Tmp) (u v : V) (h : ∀ t, d = some t → e ≠ some t) : (put (put st d u) e v).tm = (put (put st e v) d u).tm := by
  cases d with
  | none => rfl
  | some d =>
    cases e with
    | none => rfl
    | some e =>
      have : d ≠ e := fun he => h d rfl (by rw [he])
      simp only [put, List.set_comm _ _ this]
theorem mem_memN {d : Nat} {l : List Nat} : memN d l = true ↔ d ∈ l := by
  unfold memN
  rw [List.any_eq_true]
  constructor
  · rintro ⟨y, hy, he⟩
    rw [Nat.eq_of_beq_eq_true he]
    exact hy
  · intro h
    exact ⟨d, h, Nat.beq_refl d⟩
theorem disj_spec {a b : List Nat} (h : disjN a b = true) : ∀ d ∈ a, d ∉ b := by
  intro d hd hb
  have := List.all_eq_true.1 h d hd
  rw [mem_memN.2 hb] at this
  cases this
structure Indep (E : Env) (all : List Oper) (Z : ZS) (p q : Oper) : Prop where
  pd : ∀ d, p.dst = some d → q.dst ≠ some d ∧ d ∉ readsOf all q
  qd : ∀ d, q.dst = some d → d ∉ readsOf all p
  kind : (isEff E all p = false ∧ isEff E all q = false) ∨ (isMove p = true ∧ isLoc E.T q = true) ∨ (isLoc E.T p = true ∧ isMove q = true) ∨ (quiet E.T Z.1 p = true ∧ isLoc E.T q = true) ∨ (isLoc E.T p = true ∧ quiet E.T Z.1 q = true) ∨ (apart Z p q = true ∧ isLoc E.T q = true) ∨ (isLoc E.T p = true ∧ apart Z q p = true) ∨ (zmv E all Z.1 p = true ∧ isApp q = true) ∨ (isApp p = true ∧ zmv E all Z.1 q = true)
/-- These slots name nothing. -/
def JZ1 (Z : List Nat) (st : St) : Prop := ∀ t ∈ Z, ∀ u : V, st.tm[t]? = some u → ∀ k, refs k u = false
/-- And these name no more than they named. -/
def JZ (Z : ZS) (st : St) : Prop := JZ1 Z.1 st ∧ ∀ x ∈ Z.2, ∀ u : V, st.tm[x.1]? = some u → ∀ k, refs k u = true → k ∈ x.2
theorem apart_spec {Z : ZS} (h : apart Z p q = true) : ∃ t a t' b z ka kb, p.op = .load t (.tmp a) ∧ q.op = .store t' (.tmp b) z ∧ (a, ka) ∈ Z.2 ∧ (b, kb) ∈ Z.2 ∧ (∀ k ∈ ka, k ∉ kb) ∧ ∀ k ∈ kb, k % 10000 ≠ 9999 := by
  unfold apart at h
  split at h
  · rename_i t a t' b z hp hq
    obtain ⟨x, hx, h⟩ := List.any_eq_true.1 h
    rw [Bool.and_eq_true] at h
    obtain ⟨y, hy, h2⟩ := List.any_eq_true.1 h.2
    simp only [Bool.and_eq_true] at h2
    have e1 := Nat.eq_of_beq_eq_true h.1
    have e2 := Nat.eq_of_beq_eq_true h2.1.1
    subst e1 e2
    refine ⟨t, x.1, t', y.1, z, x.2, y.2, hp, hq, hx, hy, disj_spec h2.1.2, fun k hk e => ?_⟩
    have := List.all_eq_true.1 h2.2 k hk
    rw [e] at this
    cases this
  · cases h
theorem apart_eff {Z : ZS} (h : apart Z p q = true) : isEff E all p = false := by
  obtain ⟨t, a, t', b, z, ka, kb, hp, _⟩ := apart_spec h
  simp only [isEff, hp]
theorem sameO_symm {a b : O} (h : sameO a b) : sameO b a := by
  cases a <;> cases b <;> first | exact h.elim | trivial | exact ⟨h.1.symm, h.2.1.symm, h.2.2.symm⟩
theorem quiet_eff {Z : List Nat} (h : quiet E.T Z o = true) : isEff E all o = false := by
  simp only [quiet, Bool.or_eq_true, zop, Bool.and_eq_true, Bool.not_eq_true'] at h
  rcases h with h | ⟨⟨h, _⟩, hsl⟩
  · unfold shapeOp at h
    split at h
    · rename_i ho; simp only [isEff, ho]
    · rename_i ho; simp only [isEff, ho]
    · cases h
  · unfold zkind at h
    split at h
    · rename_i ho; simp only [isEff, ho]
    · rename_i ho; simp only [isEff, ho]
    · rename_i ho; simp only [isEff, ho]
    · rename_i ho; simp only [isEff, ho]
    · rename_i ho; simp only [isEff, ho]
    · rename_i ho; simp only [isEff, ho]
    · rename_i ho; simp [isSl, ho] at hsl
    · cases h
theorem binop_K {T : Tab} {op : BinOp} {t : TypeId} {x y : Operand} {ρv : Val} {H : Heap} {ρ : Type} {K : V → Option ρ} {r : ρ} (h : binop T op t x y ρv H ρ K = some r) : ∃ v, K v = some r := by
  unfold binop intBin at h
  simp only [Bool.cond_eq_ite] at h
  repeat' split at h
  all_goals first | exact ⟨_, h⟩ | cases h
theorem K0_nil {v v' : V} {obs : List (Nat × O)} (h : K0 v [] = some (v', obs)) : obs = [] := by
  cases h
  rfl
theorem zkind_obs {ρv : Val} {H : Heap} (hz : zkind o = true) (hs : evalP E o ρv H _ K0 = some (v, obs)) : obs = [] := by
  unfold zkind at hz
  split at hz
  · rename_i y ho; exact move_obs (by simp [isMove, ho, hz]) hs
  · rename_i y ho; exact move_obs (by simp [isMove, ho, hz]) hs
  · rename_i t x y ho
    simp only [evalP, ho] at hs
    split at hs
    · split at hs
      · obtain ⟨_, hs⟩ := cond_some hs rfl; exact K0_nil hs
      · cases hs
    · split at hs
      · obtain ⟨_, hs⟩ := cond_some hs rfl
        obtain ⟨_, _, hs⟩ := Option.bind_eq_some_iff.1 hs
        exact K0_nil hs
      · cases hs
    · split at hs
      · obtain ⟨_, hs⟩ := cond_some hs rfl; exact K0_nil hs
      · cases hs
    · split at hs
      · obtain ⟨_, hs⟩ := cond_some hs rfl
        split at hs
        · obtain ⟨_, _, hs⟩ := Option.bind_eq_some_iff.1 hs
          exact K0_nil hs
        · cases hs
      · obtain ⟨_, hs⟩ := cond_some hs rfl
        split at hs
        · obtain ⟨_, _, hs⟩ := Option.bind_eq_some_iff.1 hs
          exact K0_nil hs
        · cases hs
      · cases hs
    · cases hs
  · rename_i t y ho
    simp only [evalP, ho] at hs
    cases hf : memN t E.T.fns with
    | true =>
      rw [hf, cond_true] at hs
      split at hs
      · exact K0_nil hs
      · cases hs
    | false =>
      rw [hf, cond_false] at hs
      split at hs
      · rename_i s k off _ _
        split at hs
        · rename_i cs _
          obtain ⟨_, hs⟩ := cond_some hs rfl
          cases hos : oslAt s cs off with
          | true =>
            rw [hos, cond_true] at hs
            split at hs
            · obtain ⟨_, hs⟩ := cond_some hs rfl
              exact K0_nil hs
            · cases hs
          | false =>
            rw [hos, cond_false] at hs
            split at hs
            · exact K0_nil hs
            · cases hs
        · cases hs
      · obtain ⟨_, hs⟩ := cond_some hs rfl
        split at hs
        · exact K0_nil hs
        · cases hs
      · split at hs
        · obtain ⟨_, hs⟩ := cond_some hs rfl
          obtain ⟨_, _, hs⟩ := Option.bind_eq_some_iff.1 hs
          split at hs
          · exact K0_nil hs
          · cases hs
        · cases hs
      · split at hs
        · obtain ⟨_, hs⟩ := cond_some hs rfl
          split at hs
          · obtain ⟨_, _, hs⟩ := Option.bind_eq_some_iff.1 hs
            exact K0_nil hs
          · cases hs
        · obtain ⟨_, hs⟩ := cond_some hs rfl
          split at hs
          · obtain ⟨_, _, hs⟩ := Option.bind_eq_some_iff.1 hs
            split at hs
            · exact K0_nil hs
            · cases hs
          · cases hs
        · cases hs
      · cases hs
  · rename_i s y f ho
    simp only [evalP, ho] at hs
    split at hs
    · exact K0_nil hs
    · exact K0_nil hs
    · obtain ⟨_, hs⟩ := cond_some hs rfl; exact K0_nil hs
    · cases hs
  · rename_i op t x y t' ho
    simp only [evalP, ho] at hs
    obtain ⟨_, hs⟩ := binop_K hs
    exact K0_nil hs
  · rename_i t x lo hi mx ho
    simp only [evalP, ho, Bool.cond_eq_ite] at hs
    repeat' split at hs
    all_goals first | exact K0_nil hs | cases hs
  · cases hz
/-- What looks at shapes alone does not mind a change of what is in them. -/
theorem shape_same {ρv : Val} {H : Heap} {k : Nat} {ob ob0 : O} (hz : shapeOp E.T o = true) (hH : H k = some ob0) (hs : sameO ob0 ob) (h : evalP E o ρv H _ K0 = some (v, obs)) :
    obs = [] ∧ evalP E o ρv (Vi.upd H k ob) _ K0 = some (v, []) := by
  have hup : ∀ j, Vi.upd H k ob j = if j = k then some ob else H j := by
    intro j
    by_cases hj : j = k
    · subst hj; rw [if_pos rfl]; exact upd_self _ _ _
    · rw [if_neg hj]; exact upd_ne _ _ hj
  unfold shapeOp at hz
  split at hz
  · rename_i t x y ho
    simp only [evalP, ho] at h ⊢
    split at h
    · rename_i j win tt kk n h1 h2
      try simp only [h1, h2]
      split at h
      · rename_i e xs nilE e' h3 h4
        obtain ⟨hd, h⟩ := cond_some h rfl
        have hv := K0_nil h
        subst hv
        refine ⟨rfl, ?_⟩
        rw [hup]
        by_cases hj : j = k
        · subst hj
          rw [if_pos rfl]
          rw [h3] at hH
          cases hH
          cases ob with
          | arr e2 xs2 n2 =>
            obtain ⟨rfl, hl, rfl⟩ := hs
            try simp only [h4]
            rw [view_len hl]
            first | exact h | (rw [hd]; exact h)
          | _ => exact hs.elim
        · rw [if_neg hj]
          try simp only [h3, h4, hd, cond_true]
          exact h
      · cases h
    · rename_i e xs tt kk n h1 h2
      try simp only [h1, h2]
      split at h
      · rename_i e' h4
        obtain ⟨hd, h⟩ := cond_some h rfl
        obtain ⟨z, hz2, h⟩ := Option.bind_eq_some_iff.1 h
        have hv := K0_nil h
        subst hv
        refine ⟨rfl, ?_⟩
        try simp only [h4, hd, cond_true, hz2, Option.bind_some]
        exact h
      · cases h
    · rename_i j off kk n h1 h2
      try simp only [h1, h2]
      split at h
      · rename_i len e h4
        obtain ⟨hd, h⟩ := cond_some h rfl
        have hv := K0_nil h
        subst hv
        refine ⟨rfl, ?_⟩
        try simp only [h4, hd, cond_true]
        exact h
      · cases h
    · rename_i cs kk n h1 h2
      try simp only [h1, h2]
      split at h
      · rename_i len kk' h4
        obtain ⟨hd, h⟩ := cond_some h rfl
        split at h
        · rename_i ns hns
          obtain ⟨z, hz2, h⟩ := Option.bind_eq_some_iff.1 h
          have hv := K0_nil h
          subst hv
          refine ⟨rfl, ?_⟩
          try simp only [h4, hd, cond_true, hns, hz2, Option.bind_some]
          exact h
        · cases h
      · rename_i len e hne h4
        obtain ⟨hd, h⟩ := cond_some h rfl
        split at h
        · rename_i xs hxs
          obtain ⟨z, hz2, h⟩ := Option.bind_eq_some_iff.1 h
          have hv := K0_nil h
          subst hv
          refine ⟨rfl, ?_⟩
          try simp only [h4]
          cases e <;> first | (exact absurd rfl (hne _)) | (simp only [hd, cond_true, hxs, hz2, Option.bind_some]; exact h)
        · cases h
      · cases h
    · cases h
  · rename_i op t x y t' ho
    split at hz
    case h_2 => cases hz
    rename_i kk hsh
    simp only [evalP, ho, binop] at h ⊢
    split at h
    · rename_i k1 a h1
      try simp only [h1]
      split at h
      · rename_i k2 b h2
        try simp only [h2]
        have hobs : obs = [] := by
          cases hsf : isShift op with
          | true =>
            rw [hsf, cond_true] at h
            unfold intBin at h
            split at h <;> first | exact K0_nil h | (obtain ⟨_, h⟩ := cond_none h rfl; exact K0_nil h) | cases h
          | false =>
            rw [hsf, cond_false] at h
            split at h
            · split at h
              · exact K0_nil h
              · unfold intBin at h
                split at h <;> first | exact K0_nil h | (obtain ⟨_, h⟩ := cond_none h rfl; exact K0_nil h) | cases h
            · cases h
        subst hobs
        exact ⟨rfl, h⟩
      · cases h
    · rename_i a h1
      try simp only [h1]
      split at h
      · rename_i b h2
        simp only [hsh] at h
        cases h
      · cases h
    · rename_i cs h1
      try simp only [h1]
      split at h
      · rename_i cs' h2
        try simp only [h2]
        split at h
        · rename_i b h3
          try simp only [h3]
          split at h
          · have := K0_nil h; subst this; exact ⟨rfl, h⟩
          · have := K0_nil h; subst this; exact ⟨rfl, h⟩
          · cases h
        · cases h
      · cases h
    · rename_i j tt h1
      exfalso
      obtain ⟨_, h⟩ := cond_some h rfl
      rw [hsh] at h
      split at h
      · rename_i h5; cases h5
      · cases h
    · exfalso
      obtain ⟨_, h⟩ := cond_some h rfl
      rw [hsh] at h
      cases h
    · rename_i s1 h1
      try simp only [h1]
      split at h
      · rename_i s2 h2
        try simp only [h2]
        split at h
        · obtain ⟨hd, h⟩ := cond_some h rfl
          have := K0_nil h
          subst this
          refine ⟨rfl, ?_⟩
          simp only [hd, cond_true]
          exact h
        · have := K0_nil h; subst this; exact ⟨rfl, h⟩
        · have := K0_nil h; subst this; exact ⟨rfl, h⟩
        · cases h
      · cases h
    · cases h
  · cases hz
theorem indep_spec {Z : ZS} (h : indep E all Z p q = true) : Indep E all Z p q := by
  simp only [indep, Bool.and_eq_true, Bool.or_eq_true, Bool.not_eq_true'] at h
  obtain ⟨⟨⟨⟨h1, h2⟩, h3⟩, h4⟩, h5⟩ := h
  refine ⟨fun d hd => ?_, fun d hd => ?_, ?_⟩
  · have := disj_spec h1 d (by simp [hd])
    simp only [List.mem_append, not_or, Option.mem_toList] at this
    exact ⟨this.1, this.2⟩
  · exact disj_spec h2 d (by simp [hd])
  · rcases h5 with (((((((h5 | h5) | h5) | h5) | h5) | h5) | h5) | h5) | h5
    · exact .inl h5
    · exact .inr (.inl h5)
    · exact .inr (.inr (.inl h5))
    · exact .inr (.inr (.inr (.inl h5)))
    · exact .inr (.inr (.inr (.inr (.inl h5))))
    · exact .inr (.inr (.inr (.inr (.inr (.inl h5)))))
    · exact .inr (.inr (.inr (.inr (.inr (.inr (.inl h5))))))
    · exact .inr (.inr (.inr (.inr (.inr (.inr (.inr (.inl h5)))))))
    · exact .inr (.inr (.inr (.inr (.inr (.inr (.inr (.inr h5)))))))
theorem set_ne {st : St} {d : Option Tmp} {v : V} {t : Nat} (h : d ≠ some t) : (put st d v).tm[t]? = st.tm[t]? := by
  cases d with
  | none => rfl
  | some d =>
    simp only [put, List.getElem?_set]
    rw [if_neg fun e => h (by rw [e])]
theorem move_eff (h : isMove o = true) : isEff E all o = false := by
  unfold isMove at h
  split at h
  · rename_i y ho; simp only [isEff, ho]
  · rename_i y ho; simp only [isEff, ho]
  · cases h
/-- A move looks at no memory. -/
theorem LStep.move (hphi : EnvPar E) (hm : isMove o = true) (h : LStep E all o st v obs) : obs = [] ∧ ∀ s1, SameR all o st s1 → LStep E all o s1 v [] := by
  cases h with
  | skip hw => exact ⟨rfl, fun s1 hR => .skip (by rw [wantV_congr hR]; exact hw)⟩
  | pick hw ho hc hv hu => simp [isMove, ho] at hm
  | pure hw he hf =>
    have hs := hf.self
    unfold isMove at hm
    have key : ∀ y, isNil y = false → (o.op = .move y ∨ o.op = .assign y) → obs = [] ∧ ∀ s1, SameR all o st s1 → LStep E all o s1 v [] := by
      intro y hn ho
      have hy : y ∈ o.op.operands.toList := by rcases ho with ho | ho <;> simp [ho, Op.operands]
      have hs' : (match opV st y with | some v => bif v.isUndef then none else K0 v [] | none => none) = some (v, obs) := by
        rcases ho with ho | ho
        all_goals
          simp only [evalP, ho, hn, cond_false] at hs
          exact hs
      split at hs'
      · rename_i v' hv
        obtain ⟨hu, hk⟩ := cond_none hs' rfl
        cases hk
        refine ⟨rfl, fun s1 hR => .pure (by rw [wantV_congr hR]; exact hw) he ?_ (by simp)⟩
        have : evalP E o (opV s1) s1.hp _ K0 = some (v, []) := by
          rcases ho with ho | ho
          all_goals
            simp only [evalP, ho, hn, cond_false, opV_same hR hy, hv, hu]
            rfl
        obtain ⟨v', obs', hk, hf'⟩ := evalP_foot hphi.1 this
        cases hk
        exact hf'
      · cases hs'
    split at hm
    · rename_i y ho; exact key y (by simpa using hm) (.inl ho)
    · rename_i y ho; exact key y (by simpa using hm) (.inr ho)
    · cases hm
theorem zop_refs {Z : List Nat} (hz : zop Z o = true) (hJ : JZ1 Z st) {y : Operand} (hy : y ∈ o.op.operands.toList) {u : V} (hu : opV st y = some u) : ∀ k, refs k u = false := by
  intro k
  cases hr : refs k u with
  | false => rfl
  | true =>
    exfalso
    obtain ⟨t, rfl, ht⟩ := opV_tmp hu hr
    simp only [zop, Bool.and_eq_true] at hz
    have := List.all_eq_true.1 hz.2 _ hy
    rw [hJ t (memN_of this) u ht k] at hr
    cases hr
/-- A quiet operation does not mind a store, or a copy. -/
theorem LStep.calm {Z : List Nat} (hphi : EnvPar E) (hq : quiet E.T Z o = true) (hJ : JZ1 Z st) (h : LStep E all o st v obs) :
    obs = [] ∧ ∀ (s1 : St) (k : Nat) (ob ob0 : O), SameR all o st s1 → st.hp k = some ob0 → sameO ob0 ob → s1.hp = Vi.upd st.hp k ob → LStep E all o s1 v [] := by
  have hne : ∀ c a b, o.op ≠ .pick c a b := by
    intro c a b e
    simp [quiet, shapeOp, zop, zkind, e] at hq
  cases h with
  | skip hw => exact ⟨rfl, fun s1 k ob ob0 hR _ _ _ => .skip (by rw [wantV_congr hR]; exact hw)⟩
  | pick hw ho hc hv hu => exact absurd ho (hne _ _ _)
  | pure hw he hf =>
    have hs := hf.self
    have hq' := hq
    simp only [quiet, Bool.or_eq_true] at hq'
    rcases hq' with hq' | hq'
    rotate_left
    · replace hq' := (Bool.and_eq_true _ _ ▸ hq').1
      have hobs : obs = [] := zkind_obs (by simp only [zop, Bool.and_eq_true] at hq'; exact hq'.1) hs
      refine ⟨hobs, fun s1 k ob ob0 hR hH hsO h1 => .pure (by rw [wantV_congr hR]; exact hw) he ?_ (by simp)⟩
      have h3 := hf.cong (opV s1) s1.hp ⟨fun y hy => opV_same hR hy, fun y hy u hu k hk => (by
        rw [zop_refs hq' hJ hy hu k] at hk
        cases hk), fun y hy u hu k hk => (by
        rw [zop_refs hq' hJ hy hu k] at hk
        cases hk)⟩
      rw [hobs] at h3
      obtain ⟨v', obs', hk, hf'⟩ := evalP_foot hphi.1 h3
      cases hk
      exact hf'
    · have hobs : obs = [] := by
        unfold shapeOp at hq'
        split at hq'
        · rename_i ho; exact zkind_obs (by simp [zkind, ho]) hs
        · rename_i op t x y t' ho
          simp only [evalP, ho, binop] at hs
          split at hq'
          case h_2 => cases hq'
          rename_i kk hsh
          split at hs
          · split at hs
            · cases hsf : isShift op with
              | true =>
                rw [hsf, cond_true] at hs
                unfold intBin at hs
                split at hs <;> first | exact K0_nil hs | (obtain ⟨_, hs⟩ := cond_none hs rfl; exact K0_nil hs) | cases hs
              | false =>
                rw [hsf, cond_false] at hs
                split at hs
                · split at hs
                  · exact K0_nil hs
                  · unfold intBin at hs
                    split at hs <;> first | exact K0_nil hs | (obtain ⟨_, hs⟩ := cond_none hs rfl; exact K0_nil hs) | cases hs
                · cases hs
            · cases hs
          · split at hs
            · simp only [hsh] at hs; cases hs
            · cases hs
          · split at hs
            · split at hs
              · split at hs
                · exact K0_nil hs
                · exact K0_nil hs
                · cases hs
              · cases hs
            · cases hs
          · obtain ⟨_, hs⟩ := cond_some hs rfl
            rw [hsh] at hs
            split at hs
            · rename_i h5; cases h5
            · cases hs
          · obtain ⟨_, hs⟩ := cond_some hs rfl
            rw [hsh] at hs
            cases hs
          · split at hs
            · split at hs
              · obtain ⟨_, hs⟩ := cond_some hs rfl
                exact K0_nil hs
              · exact K0_nil hs
              · exact K0_nil hs
              · cases hs
            · cases hs
          · cases hs
        · cases hq'
      refine ⟨hobs, fun s1 k ob ob0 hR hH hsO h1 => .pure (by rw [wantV_congr hR]; exact hw) he ?_ (by simp)⟩
      have h2 : evalP E o (opV s1) st.hp _ K0 = some (v, obs) := by
        have := hf.cong (opV s1) st.hp ⟨fun y hy => opV_same hR hy, fun y hy u hu k hk => rfl, fun y hy u hu k hk off => rfl⟩
        exact this
      obtain ⟨_, h3⟩ := shape_same hq' hH hsO h2
      rw [← h1] at h3
      obtain ⟨v', obs', hk, hf'⟩ := evalP_foot hphi.1 h3
      cases hk
      exact hf'
/-- What is made of slots that name nothing looks at no memory. -/
theorem LStep.zval {Z : List Nat} (hphi : EnvPar E) (hq : zop Z o = true) (hJ : JZ1 Z st) (h : LStep E all o st v obs) :
    obs = [] ∧ ∀ s1 : St, SameR all o st s1 → LStep E all o s1 v [] := by
  cases h with
  | skip hw => exact ⟨rfl, fun s1 hR => .skip (by rw [wantV_congr hR]; exact hw)⟩
  | pick hw ho hc hv hu => simp [zop, zkind, ho] at hq
  | pure hw he hf =>
    have hobs : obs = [] := zkind_obs (by simp only [zop, Bool.and_eq_true] at hq; exact hq.1) hf.self
    refine ⟨hobs, fun s1 hR => .pure (by rw [wantV_congr hR]; exact hw) he ?_ (by simp)⟩
    have h3 := hf.cong (opV s1) s1.hp ⟨fun y hy => opV_same hR hy, fun y hy u hu k hk => (by
      rw [zop_refs hq hJ hy hu k] at hk
      cases hk), fun y hy u hu k hk => (by
      rw [zop_refs hq hJ hy hu k] at hk
      cases hk)⟩
    rw [hobs] at h3
    obtain ⟨v', obs', hk, hf'⟩ := evalP_foot hphi.1 h3
    cases hk
    exact hf'
/-- A load does not mind a store at another place. -/
theorem LStep.aside (hphi : EnvPar E) {t : TypeId} {a : Tmp} (ho : o.op = .load t (.tmp a)) (h : LStep E all o st v obs) :
    obs = [] ∧ ∀ (s1 : St) (k : Nat) (ob : O), SameR all o st s1 → (∀ u, st.tm[a]? = some u → refs k u = false) → k % 10000 ≠ 9999 → s1.hp = Vi.upd st.hp k ob → LStep E all o s1 v [] := by
  cases h with
  | skip hw => exact ⟨rfl, fun s1 k ob hR _ _ _ => .skip (by rw [wantV_congr hR]; exact hw)⟩
  | pick hw ho' hc hv hu => rw [ho] at ho'; cases ho'
  | pure hw he hf =>
    have hobs : obs = [] := zkind_obs (by simp [zkind, ho]) hf.self
    refine ⟨hobs, fun s1 k ob hR hk h9 h1 => .pure (by rw [wantV_congr hR]; exact hw) he ?_ (by simp)⟩
    have h3 := hf.cong (opV s1) s1.hp ⟨fun y hy => opV_same hR hy, fun y hy u hu k' hk' => by
      have hne : k' ≠ k := by
        intro e
        subst e
        have hy' : y = .tmp a := by simpa [ho, Op.operands] using hy
        subst hy'
        rw [hk u hu] at hk'
        cases hk'
      rw [h1, upd_ne _ _ hne], fun y hy u hu k' hk' off => by
      have hne : Vi.hk k' off ≠ k := fun e => h9 (e ▸ hk_mod k' off)
      rw [h1, upd_ne _ _ hne]⟩
    rw [hobs] at h3
    obtain ⟨v', obs', hk2, hf'⟩ := evalP_foot hphi.1 h3
    cases hk2
    exact hf'
theorem isKey_dst {d k : Nat} (hd : o.dst = some d) (h : isKey o k) : ∃ j, k = d + 10000 * j := by
  obtain ⟨j, hj⟩ := h
  exact ⟨j, by rw [hd] at hj; exact hj⟩
/-- No slot names an operation's keys. -/
def Fresh1 (st : St) (o : Oper) : Prop := isMove o = false → ∀ d, o.dst = some d → ∀ (j t : Nat) (u : V), st.tm[t]? = some u → refs (d + 10000 * j) u = false
theorem not_key (hf : Fresh1 st o) (hmk : isMove o = false) (hd : o.dst ≠ none) {t : Nat} {u : V} (hu : st.tm[t]? = some u) {k : Nat} (hk : refs k u = true) : ¬ isKey o k := by
  intro h
  cases hdd : o.dst with
  | none => exact hd hdd
  | some d =>
    obtain ⟨j, rfl⟩ := isKey_dst hdd h
    rw [hf hmk d hdd j t u hu] at hk
    cases hk
theorem keys_apart {d e : Nat} (hd : o.dst = some d) (he : p.dst = some e) (hde : d ≠ e) (hd1 : d < 10000) (he1 : e < 10000) {k k' : Nat} (h : isKey o k) (h' : isKey p k') : k ≠ k' := by
  obtain ⟨j, rfl⟩ := isKey_dst hd h
  obtain ⟨j', rfl⟩ := isKey_dst he h'
  omega
/-! ### Elements put behind, and moves of what names nothing -/
theorem zmv_spec {Z : List Nat} (h : zmv E all Z o = true) : isEff E all o = false ∧ zop Z o = true ∧ o.guard = none ∧ ∃ d, o.dst = some d ∧ d ∈ Z := by
  simp only [zmv, Bool.and_eq_true, Bool.not_eq_true', Option.isNone_iff_eq_none] at h
  obtain ⟨⟨⟨h1, h2⟩, h3⟩, h4⟩ := h
  refine ⟨h1, h2, h3, ?_⟩
  split at h4
  · rename_i d hd; exact ⟨d, hd, mem_memN.1 h4⟩
  · cases h4
theorem zmv_reads {Z : List Nat} (h : zmv E all Z o = true) : ∀ t ∈ readsOf all o, t ∈ Z := by
  obtain ⟨h1, h2, h3, _⟩ := zmv_spec h
  intro t ht
  unfold readsOf at ht
  rw [h3] at ht
  simp only [List.append_nil, List.mem_filterMap] at ht
  obtain ⟨y, hy, hyt⟩ := ht
  simp only [zop, Bool.and_eq_true] at h2
  have h4 := List.all_eq_true.1 h2.2 y hy
  split at hyt
  · cases hyt; exact mem_memN.1 h4
  · cases hyt
theorem noRef_iff {k : Nat} : ∀ {tm : List V}, noRef k tm = true ↔ ∀ (t : Nat) (u : V), tm[t]? = some u → refs k u = false
  | [] => by simp [noRef]
  | v :: r => by
    simp only [noRef, Bool.and_eq_true, Bool.not_eq_true']
    rw [noRef_iff (tm := r)]
    constructor
    · rintro ⟨h1, h2⟩ t u hu
      cases t with
      | zero => simp at hu; subst hu; exact h1
      | succ t => exact h2 t u (by simpa using hu)
    · intro h
      exact ⟨h 0 v (by simp), fun t u hu => h (t + 1) u (by simpa using hu)⟩
/-- What it does hangs on its operands and on what there is. -/
theorem evalE_app (ha : isApp o = true) (h : evalE E o st St KS = some st') : ∃ k ob, st' = hset (put (drop st [k]) o.dst (.own (dstKey o.dst) none false)) (dstKey o.dst) ob ∧ dead (drop st [k]) o.dst (dstKey o.dst) = true ∧
    ∀ st2, st2.hp = st.hp → (∀ y ∈ o.op.operands.toList, opV st2 y = opV st y) → dead (drop st2 [k]) o.dst (dstKey o.dst) = true → evalE E o st2 St KS = some (hset (put (drop st2 [k]) o.dst (.own (dstKey o.dst) none false)) (dstKey o.dst) ob) := by
  unfold isApp at ha
  split at ha
  · rename_i c ho
    split at ha
    · rename_i hc
      have hops := call_ops ho hc
      simp only [evalE, ho, hc] at h
      split at h
      · rename_i x y t tx hx ht
        rw [hx] at hops
        have hmx : x ∈ o.op.operands.toList := by rw [hops]; simp
        have hmy : y ∈ o.op.operands.toList := by rw [hops]; simp
        split at h
        · rename_i e ex e2 ys2 h1 h2 h3
          split at h
          · rename_i ys k win hys hxv
            split at h
            · rename_i e' xs' nilE hH
              split at h
              · rename_i xs hxs
                obtain ⟨hd, h⟩ := cond_some h rfl
                cases h
                simp only [Bool.and_eq_true] at hd
                refine ⟨k, _, rfl, hd.1.1, fun st2 hp hop hd2 => ?_⟩
                simp only [evalE, ho, hc, hx, ht, hop x hmx, hop y hmy, hp, h1, h2, h3, hys, hxv, hH, hxs, hd2, hd.1.2, hd.2, Bool.and_self, cond_true, KS]
              · cases h
            · cases h
          · cases h
        · cases h
      · cases h
    · cases ha
  · cases ha
theorem drop_same {st : St} {k t : Nat} {u : V} (h : st.tm[t]? = some u) (hu : refs k u = false) : (drop st [k]).tm[t]? = some u := by
  simp only [drop, cleanTm_get, h, Option.map_some]
  have : anyRefs [k] u = false := by simp [anyRefs, hu]
  rw [this]
  rfl
theorem drop_put {st : St} {k d : Nat} {v : V} (hv : refs k v = false) : drop (put st (some d) v) [k] = put (drop st [k]) (some d) v := by
  have e : cleanTm [k] (st.tm.set d v) = (cleanTm [k] st.tm).set d v := by
    apply List.ext_getElem?
    intro t
    rw [cleanTm_get, List.getElem?_set, List.getElem?_set, cleanTm_get, cleanTm_length]
    have hv2 : anyRefs [k] v = false := by simp [anyRefs, hv]
    split
    · split
      · simp [hv2]
      · rfl
    · rfl
  simp only [drop, put, e]
/-- Nothing that names nothing is touched. -/
theorem app_keep (ha : isApp o = true) (h : evalE E o st St KS = some st') {t : Nat} (ht : o.dst ≠ some t) {u : V} (hu : st.tm[t]? = some u) (hr : ∀ k, refs k u = false) : st'.tm[t]? = some u := by
  obtain ⟨k, ob, rfl, _, _⟩ := evalE_app ha h
  show (put (drop st [k]) o.dst _).tm[t]? = some u
  rw [set_ne ht]
  exact drop_same hu (hr k)
theorem app_keep2 (ha : isApp o = true) (h : evalE E o st St KS = some st') {t : Nat} (ht : o.dst ≠ some t) {u : V} (hu : st'.tm[t]? = some u) : u = .undef ∨ st.tm[t]? = some u := by
  obtain ⟨k, ob, rfl, _, _⟩ := evalE_app ha h
  have hu : (put (drop st [k]) o.dst _).tm[t]? = some u := hu
  rw [set_ne ht] at hu
  exact drop_get hu
theorem app_len (ha : isApp o = true) (h : evalE E o st St KS = some st') : st'.tm.length = st.tm.length := by
  obtain ⟨k, ob, rfl, _, _⟩ := evalE_app ha h
  have e : ∀ (s : St) (d : Option Tmp) (v : V), (put s d v).tm.length = s.tm.length := fun s d v => by cases d <;> simp [put]
  exact (e _ _ _).trans (drop_len _ _)
/-- It comes to the same beside a slot that names nothing. -/
theorem app_put (ha : isApp o = true) (h : evalE E o st St KS = some st') {d : Nat} (hd : o.dst ≠ some d) (hrd : ∀ y ∈ o.op.operands.toList, y ≠ .tmp d) {v : V} (hv : ∀ k, refs k v = false) : evalE E o (put st (some d) v) St KS = some (put st' (some d) v) := by
  obtain ⟨k, ob, rfl, hdead, hev⟩ := evalE_app ha h
  have hdead2 : dead (drop (put st (some d) v) [k]) o.dst (dstKey o.dst) = true := by
    rw [drop_put (hv k)]
    simp only [dead, Bool.and_eq_true] at hdead ⊢
    refine ⟨hdead.1, noRef_iff.2 fun t u hu => ?_⟩
    have h2 := noRef_iff.1 hdead.2
    cases hod : o.dst with
    | none =>
      rw [hod] at hu h2
      have hu : (put (drop st [k]) (some d) v).tm[t]? = some u := hu
      rcases put_get hu with ⟨_, rfl⟩ | hu
      · exact hv _
      · exact h2 t u hu
    | some e =>
      rw [hod] at hu h2 hd
      rcases put_get hu with ⟨_, rfl⟩ | hu
      · rfl
      · rcases put_get hu with ⟨_, rfl⟩ | hu
        · exact hv _
        · by_cases het : e = t
          · subst het
            rename_i hu1 _
            exact (by
              have : (put (put (drop st [k]) (some d) v) (some e) .undef).tm[e]? = some u := hu1
              simp only [put, List.getElem?_set] at this
              split at this
              · split at this
                · cases this; rfl
                · cases this
              · rename_i hne; first | exact absurd trivial hne | exact absurd rfl hne)
          · exact h2 t u (by rw [set_ne (fun hh => het (Option.some.inj hh))]; exact hu)
  have := hev (put st (some d) v) rfl (fun y hy => by
    cases y with
    | tmp t =>
      have : t ≠ d := fun e => hrd _ hy (by rw [e])
      simp only [opV]
      rw [set_ne (fun e => this (Option.some.inj e).symm)]
    | _ => rfl) hdead2
  rw [this, drop_put (hv k)]
  congr 1
  have e1 : put (put (drop st [k]) (some d) v) o.dst (.own (dstKey o.dst) none false) = put (put (drop st [k]) o.dst (.own (dstKey o.dst) none false)) (some d) v := by
    cases hod : o.dst with
    | none => rfl
    | some e =>
      rw [hod] at hd
      have : d ≠ e := fun hh => hd (by rw [hh])
      simp only [put, List.set_comm _ _ this]
  rw [e1]
  rfl
theorem zop_val {Z : List Nat} (hphi : EnvPar E) (hz : zop Z o = true) (hJ : JZ1 Z st) (h : LStep E all o st v obs) : ∀ k, refs k v = false := by
  intro k
  cases h with
  | skip hw => rfl
  | pick hw ho hc hv hu => simp [zop, zkind, ho] at hz
  | pure hw he hf =>
    cases hr : refs k v with
    | false => rfl
    | true =>
      exfalso
      rcases hf.prov k hr with ⟨y, hy, u', hu', hr'⟩ | ⟨p, hp, _⟩ | ⟨k0, off, _, y, hy, u', hu', hr'⟩
      · rw [zop_refs hz hJ hy hu' k] at hr'
        cases hr'
      · rw [zkind_obs (by simp only [zop, Bool.and_eq_true] at hz; exact hz.1) hf.self] at hp
        cases hp
      · rw [zop_refs hz hJ hy hu' k0] at hr'
        cases hr'
theorem reads_op {t : Nat} (h : t ∉ readsOf all o) : ∀ y ∈ o.op.operands.toList, y ≠ .tmp t := fun y hy e => by
  subst e
  exact h (mem_reads hy)
theorem swap_app1 {Z : ZS} (hphi : EnvPar E) (hi : Indep E all Z p q) (hJ : JZ Z st) (hz : zmv E all Z.1 p = true) (ha : isApp q = true) {vp : V} {obsp : List (Nat × O)} (l1 : LStep E all p st vp obsp) (hw : wantV all q (nxt st p vp obsp) = some true) (he : isEff E all q = true) (hf : EFoot E q (nxt st p vp obsp) s2) :
    ∃ s, FStep E all q st s ∧ FStep E all p s s2 := by
  obtain ⟨hm, hzo, _, d, hd, hdZ⟩ := zmv_spec hz
  obtain ⟨hobs, hmv⟩ := l1.zval hphi hzo hJ.1
  subst hobs
  have hvp := zop_val hphi hzo hJ.1 l1
  have hqd : q.dst ≠ some d := (hi.pd d hd).1
  have hqr := reads_op (hi.pd d hd).2
  have e0 : nxt st p vp [] = put st (some d) vp := by simp only [nxt, hd, updAll]; rfl
  rw [e0] at hf hw
  have hev := hf.self
  by_cases hlen : d < st.tm.length
  · have hold : st.tm[d]? = some (st.tm[d]) := List.getElem?_eq_getElem hlen
    have hor : ∀ k, refs k (st.tm[d]) = false := hJ.1 d hdZ _ hold
    have h1 := app_put ha hev hqd hqr hor
    have e1 : put (put st (some d) vp) (some d) (st.tm[d]) = st := by
      simp only [put, List.set_set]
      have : st.tm.set d (st.tm[d]) = st.tm := List.set_getElem_self hlen
      rw [this]
    rw [e1] at h1
    obtain ⟨s', hs', hf'⟩ := evalE_foot hphi h1
    cases hs'
    have hvd : s2.tm[d]? = some vp := app_keep ha hev hqd (by simp only [put, List.getElem?_set]; simp [hlen]) hvp
    have hR : SameR all p st (put s2 (some d) (st.tm[d])) := fun t ht => by
      have htZ := zmv_reads hz t ht
      have hqt : q.dst ≠ some t := fun e => hi.qd t e ht
      by_cases htd : d = t
      · subst htd
        have : d < s2.tm.length := by rw [app_len ha hev]; simpa [put] using hlen
        simp only [put, List.getElem?_set]
        simp [this, hold]
      · rw [set_ne (fun e => htd (Option.some.inj e))]
        cases hu : st.tm[t]? with
        | none =>
          have h3 : s2.tm.length ≤ t := by
            rw [app_len ha hev]
            have := List.getElem?_eq_none_iff.1 hu
            simpa [put] using this
          exact List.getElem?_eq_none h3
        | some u => exact app_keep ha hev hqt (by rw [set_ne (fun e => htd (Option.some.inj e))]; exact hu) (hJ.1 t htZ u hu)
    have hRq : SameR all q (put st (some d) vp) st := fun t ht => by
      rw [set_ne (fun e => (hi.pd d hd).2 (by rw [Option.some.inj e]; exact ht))]
    refine ⟨_, .eff (by rw [wantV_congr hRq]; exact hw) he hf', ?_⟩
    have := FStep.loc (hmv _ hR)
    have e2 : nxt (put s2 (some d) (st.tm[d])) p vp [] = s2 := by
      simp only [nxt, hd, updAll, put, List.set_set]
      have hl2 : d < s2.tm.length := by
        rcases Nat.lt_or_ge d s2.tm.length with h | h
        · exact h
        · rw [List.getElem?_eq_none h] at hvd; cases hvd
      have h4 : s2.tm[d] = vp := by rw [List.getElem?_eq_getElem hl2] at hvd; exact Option.some.inj hvd
      have : s2.tm.set d vp = s2.tm := by rw [← h4]; exact List.set_getElem_self hl2
      rw [this]
    rw [e2] at this
    exact this
  · have e1 : ∀ (s : St) (v : V), s.tm.length = st.tm.length → put s (some d) v = s := fun s v h => by
      simp only [put]
      rw [List.set_eq_of_length_le (by rw [h]; exact Nat.le_of_not_lt hlen)]
    rw [e1 st vp rfl] at hf hw hev
    obtain ⟨s', hs', hf'⟩ := evalE_foot hphi hev
    cases hs'
    refine ⟨_, .eff hw he hf', ?_⟩
    have hl := app_len ha hev
    have hR : SameR all p st s2 := fun t ht => by
      have htZ := zmv_reads hz t ht
      have hqt : q.dst ≠ some t := fun e => hi.qd t e ht
      cases hu : st.tm[t]? with
      | none => exact List.getElem?_eq_none (by rw [hl]; exact List.getElem?_eq_none_iff.1 hu)
      | some u => exact app_keep ha hev hqt hu (hJ.1 t htZ u hu)
    have := FStep.loc (hmv _ hR)
    have e2 : nxt s2 p vp [] = s2 := by
      have := e1 s2 vp hl
      simp only [nxt, hd, updAll]
      exact this
    rw [e2] at this
    exact this
theorem swap_app2 {Z : ZS} (hphi : EnvPar E) (hi : Indep E all Z p q) (hJ : JZ Z st) (hJ1 : JZ Z s1) (ha : isApp p = true) (hz : zmv E all Z.1 q = true) (hw : wantV all p st = some true) (he : isEff E all p = true) (hf : EFoot E p st s1) {vq : V} {obsq : List (Nat × O)} (l2 : LStep E all q s1 vq obsq) :
    ∃ s, FStep E all q st s ∧ FStep E all p s (nxt s1 q vq obsq) := by
  obtain ⟨hm, hzo, _, d, hd, hdZ⟩ := zmv_spec hz
  obtain ⟨hobs, hmv⟩ := l2.zval hphi hzo hJ1.1
  subst hobs
  have hvq := zop_val hphi hzo hJ1.1 l2
  have hpd : p.dst ≠ some d := fun e => (hi.pd d e).1 hd
  have hpr := reads_op (hi.qd d hd)
  have hev := hf.self
  have hR : SameR all q s1 st := fun t ht => by
    have htZ := zmv_reads hz t ht
    have hpt : p.dst ≠ some t := fun e => (hi.pd t e).2 ht
    cases hu : st.tm[t]? with
    | none => exact (List.getElem?_eq_none (by rw [app_len ha hev]; exact List.getElem?_eq_none_iff.1 hu)).symm
    | some u => exact (app_keep ha hev hpt hu (hJ.1 t htZ u hu)).symm
  refine ⟨_, .loc (hmv st hR), ?_⟩
  have h1 := app_put ha hev hpd hpr hvq
  have e0 : ∀ s : St, nxt s q vq [] = put s (some d) vq := fun s => by simp only [nxt, hd, updAll]; rfl
  rw [e0, e0]
  obtain ⟨s', hs', hf'⟩ := evalE_foot hphi h1
  cases hs'
  have hRp : SameR all p st (put st (some d) vq) := fun t ht => by
    rw [set_ne (fun e => hi.qd d hd (by rw [Option.some.inj e]; exact ht))]
  exact .eff (by rw [wantV_congr hRp]; exact hw) he hf'
/-- Two operations that do not mind each other may change places. -/
theorem swap {Z : ZS} (hphi : EnvPar E) (hi : Indep E all Z p q) (hJ : JZ Z st) (hJ1 : JZ Z s1) (hp : Fresh1 st p) (hq : Fresh1 st q) (hdp : isEff E all p = false → p.dst ≠ none) (hdq : isEff E all q = false → q.dst ≠ none)
    (hlp : ∀ d, p.dst = some d → d < 9999) (hlq : ∀ d, q.dst = some d → d < 9999) (h1 : FStep E all p st s1) (h2 : FStep E all q s1 s2) :
    ∃ s, FStep E all q st s ∧ FStep E all p s s2 := by
  have comm : ∀ t, p.dst = some t → q.dst ≠ some t := fun t ht => (hi.pd t ht).1
  -- slots that q reads are not p's own
  have rq : ∀ u, ∀ (s : St), s.tm = (put st p.dst u).tm → SameR all q s st := fun u s hs t ht => by
    rw [hs, set_ne]
    intro e
    exact (hi.pd t e).2 ht
  have rp : ∀ u, ∀ (s : St), s.tm = (put st q.dst u).tm → SameR all p st s := fun u s hs t ht => by
    rw [hs, set_ne]
    intro e
    exact hi.qd t e ht
  cases h1 with
  | loc l1 =>
    rename_i vp obsp
    cases h2 with
    | loc l2 =>
      rename_i vq obsq
      -- what q names is not new
      have hobp : obsp ≠ [] → p.dst ≠ none := fun hn => hdp (l1.has (fun _ => trivial) hn)
      have hobq : obsq ≠ [] → q.dst ≠ none := fun hn => hdq (l2.has (fun _ => trivial) hn)
      have l2' : LStep E all q st vq obsq := by
        refine l2.congr hphi (rq vp _ rfl) ?_
        intro t ht u hu k hk
        have hu' : st.tm[t]? = some u := by
          rw [rq vp (nxt st p vp obsp) rfl t ht]
          exact hu
        refine ⟨(updAll_no st.hp obsp k fun pr hpr e => ?_).symm, fun off => (updAll_no st.hp obsp (Vi.hk k off) fun pr hpr e => ?_).symm⟩
        rotate_left
        · have := l1.lo pr hpr
          have := hk_lo k off
          omega
        exact not_key hp (l1.maker (ne_nil_of_mem hpr)) (hobp (ne_nil_of_mem hpr)) hu' hk (e ▸ l1.keys pr hpr)
      have l1' : LStep E all p (nxt st q vq obsq) vp obsp := by
        refine l1.congr hphi (rp vq _ rfl) ?_
        intro t ht u hu k hk
        refine ⟨updAll_no st.hp obsq k fun pr hpr e => ?_, fun off => updAll_no st.hp obsq (Vi.hk k off) fun pr hpr e => ?_⟩
        rotate_left
        · have := l2.lo pr hpr
          have := hk_lo k off
          omega
        exact not_key hq (l2.maker (ne_nil_of_mem hpr)) (hobq (ne_nil_of_mem hpr)) hu hk (e ▸ l2.keys pr hpr)
      refine ⟨_, .loc l2', ?_⟩
      have : nxt (nxt st q vq obsq) p vp obsp = nxt (nxt st p vp obsp) q vq obsq := by
        have e1 := put_tm_comm st p.dst q.dst vp vq comm
        have e2 : updAll (updAll st.hp obsq) obsp = updAll (updAll st.hp obsp) obsq := by
          refine updAll_comm _ _ _ fun a ha b hb => ?_
          cases hpd : p.dst with
          | none => exact absurd hpd (hobp fun hn => by rw [hn] at hb; cases hb)
          | some d =>
            cases hqd : q.dst with
            | none => exact absurd hqd (hobq fun hn => by rw [hn] at ha; cases ha)
            | some e =>
              exact keys_apart hqd hpd (fun he => comm d hpd (by rw [hqd, he])) (Nat.lt_trans (hlq e hqd) (by decide)) (Nat.lt_trans (hlp d hpd) (by decide)) (l2.keys a ha) (l1.keys b hb)
        have e3 : ∀ (s : St) (d : Option Tmp) (v : V), (put s d v).tm = (put { tm := s.tm, hp := st.hp } d v).tm := fun s d v => by cases d <;> rfl
        simp only [nxt]
        rw [e3, e3 { tm := (put st p.dst vp).tm, hp := updAll st.hp obsp }, e2]
        congr 1
        have e4 : ∀ (d : Option Tmp) (v : V), ({ tm := (put st d v).tm, hp := st.hp } : St) = put st d v := fun d v => by cases d <;> rfl
        rw [e4, e4]
        exact e1.symm
      rw [← this]
      exact .loc l1'
    | eff hw he hf =>
      by_cases hza : zmv E all Z.1 p = true ∧ isApp q = true
      · exact swap_app1 hphi hi hJ hza.1 hza.2 l1 hw he hf
      have hk : (isMove p = true ∨ quiet E.T Z.1 p = true ∨ apart Z p q = true) ∧ isLoc E.T q = true := by
        rcases hi.kind with h | h | h | h | h | h | h | h | h
        rotate_right 2
        · exact absurd h hza
        · rw [(zmv_spec h.2).1] at he; cases he
        · rw [h.2] at he; cases he
        · exact ⟨.inl h.1, h.2⟩
        · rw [move_eff h.2] at he; cases he
        · exact ⟨.inr (.inl h.1), h.2⟩
        · rw [quiet_eff h.2] at he; cases he
        · exact ⟨.inr (.inr h.1), h.2⟩
        · rw [apart_eff h.2] at he; cases he
      obtain ⟨u, k, ob, ob0, rfl, hu, hsO, hkey, hl⟩ := evalE_loc hk.2 hf.self
      have hobs : obsp = [] := by
        rcases hk.1 with hm | hm | hm
        · exact (l1.move hphi hm).1
        · exact (l1.calm hphi hm hJ.1).1
        · obtain ⟨t, a, t', b, z, ka, kb, ho, _⟩ := apart_spec hm
          exact (l1.aside hphi ho).1
      subst hobs
      have hmv : ∀ s1 : St, SameR all p st s1 → s1.hp = Vi.upd st.hp k ob → LStep E all p s1 vp [] := by
        intro s1 hR h1
        rcases hk.1 with hm | hm | hm
        · exact (l1.move hphi hm).2 s1 hR
        · exact (l1.calm hphi hm hJ.1).2 s1 k ob ob0 hR hsO.1 hsO.2 h1
        · obtain ⟨t, a, t', b, z, ka, kb, ho, hoq, hka, hkb, hd⟩ := apart_spec hm
          obtain ⟨w, hw1, hw2⟩ := hkey _ _ _ hoq
          refine (l1.aside hphi ho).2 s1 k ob hR (fun u hu => ?_) (hd.2 k (hJ1.2 _ hkb w hw1 k hw2)) h1
          cases hr : refs k u with
          | false => rfl
          | true => exact absurd (hJ1.2 _ hkb w hw1 k hw2) (hd.1 k (hJ.2 _ hka u hu k hr))
      have hR := rq vp (nxt st p vp []) rfl
      have hev : evalE E q st St KS = some (hset (put st q.dst u) k ob) := hl st rfl fun y hy => opV_same hR hy
      obtain ⟨s', hs', hf'⟩ := evalE_foot hphi hev
      cases hs'
      refine ⟨_, .eff (by rw [wantV_congr hR]; exact hw) he hf', ?_⟩
      have l1' := hmv (hset (put st q.dst u) k ob) (rp u _ rfl) (by cases q.dst <;> rfl)
      have : nxt (hset (put st q.dst u) k ob) p vp [] = hset (put (nxt st p vp []) q.dst u) k ob := by
        have e1 := put_tm_comm st p.dst q.dst vp u comm
        have e3 : ∀ (s : St) (d : Option Tmp) (v : V), put s d v = { tm := (put s d v).tm, hp := s.hp } := fun s d v => by cases d <;> rfl
        have e5 : ∀ (s s' : St) (d : Option Tmp) (v : V), s.tm = s'.tm → (put s d v).tm = (put s' d v).tm := fun s s' d v h => by cases d <;> simp [put, h]
        simp only [nxt, hset, updAll, put_hp]
        congr 1
        have a1 := e5 { tm := (put st q.dst u).tm, hp := Vi.upd st.hp k ob } (put st q.dst u) p.dst vp rfl
        have a2 := e5 (put st p.dst vp) { tm := (put st p.dst vp).tm, hp := st.hp } q.dst u rfl
        exact a1.trans (e1.symm.trans a2)
      rw [← this]
      exact .loc l1'
  | eff hw he hf =>
    by_cases hza : isApp p = true ∧ zmv E all Z.1 q = true
    · cases h2 with
      | eff hw2 he2 hf2 => rw [(zmv_spec hza.2).1] at he2; cases he2
      | loc l2 => exact swap_app2 hphi hi hJ hJ1 hza.1 hza.2 hw he hf l2
    have hk : isLoc E.T p = true ∧ (isMove q = true ∨ quiet E.T Z.1 q = true ∨ apart Z q p = true) := by
      rcases hi.kind with h | h | h | h | h | h | h | h | h
      rotate_right 2
      · rw [(zmv_spec h.1).1] at he; cases he
      · exact absurd h hza
      · rw [h.1] at he; cases he
      · rw [move_eff h.1] at he; cases he
      · exact ⟨h.1, .inl h.2⟩
      · rw [quiet_eff h.1] at he; cases he
      · exact ⟨h.1, .inr (.inl h.2)⟩
      · rw [apart_eff h.1] at he; cases he
      · exact ⟨h.1, .inr (.inr h.2)⟩
    obtain ⟨u, k, ob, ob0, rfl, hu, hsO, hkey, hl⟩ := evalE_loc hk.1 hf.self
    cases h2 with
    | eff hw2 he2 hf2 =>
      rcases hk.2 with hm | hm | hm
      · rw [move_eff hm] at he2; cases he2
      · rw [quiet_eff hm] at he2; cases he2
      · rw [apart_eff hm] at he2; cases he2
    | loc l2 =>
      rename_i vq obsq
      have hobs : obsq = [] := by
        rcases hk.2 with hm | hm | hm
        · exact (l2.move hphi hm).1
        · exact (l2.calm hphi hm hJ1.1).1
        · obtain ⟨t, a, t', b, z, ka, kb, ho, _⟩ := apart_spec hm
          exact (l2.aside hphi ho).1
      subst hobs
      have e0 : st.hp = Vi.upd (hset (put st p.dst u) k ob).hp k ob0 := by
        have e1 : (hset (put st p.dst u) k ob).hp = Vi.upd st.hp k ob := by cases p.dst <;> rfl
        rw [e1]
        funext j
        by_cases hj : j = k
        · subst hj; rw [upd_self]; exact hsO.1
        · rw [upd_ne _ _ hj, upd_ne _ _ hj]
      have l2' : LStep E all q st vq [] := by
        rcases hk.2 with hm | hm | hm
        · exact (l2.move hphi hm).2 st (rq u _ rfl)
        rotate_left
        · obtain ⟨t, a, t', b, z, ka, kb, ho, hop, hka, hkb, hd⟩ := apart_spec hm
          obtain ⟨w, hw1, hw2⟩ := hkey _ _ _ hop
          refine (l2.aside hphi ho).2 st k ob0 (rq u _ rfl) (fun u' hu' => ?_) (hd.2 k (hJ.2 _ hkb w hw1 k hw2)) e0
          cases hr : refs k u' with
          | false => rfl
          | true => exact absurd (hJ.2 _ hkb w hw1 k hw2) (hd.1 k (hJ1.2 _ hka u' hu' k hr))
        · have e1 : (hset (put st p.dst u) k ob).hp = Vi.upd st.hp k ob := by cases p.dst <;> rfl
          refine (l2.calm hphi hm hJ1.1).2 st k ob0 ob (rq u _ rfl) (by rw [e1]; exact upd_self _ _ _) (sameO_symm hsO.2) ?_
          rw [e1]
          funext j
          by_cases hj : j = k
          · subst hj; rw [upd_self]; exact hsO.1
          · rw [upd_ne _ _ hj, upd_ne _ _ hj]
      refine ⟨_, .loc l2', ?_⟩
      have hR := rp vq (nxt st q vq []) rfl
      have hev : evalE E p (nxt st q vq []) St KS = some (hset (put (nxt st q vq []) p.dst u) k ob) := hl _ rfl fun y hy => opV_same hR hy
      obtain ⟨s', hs', hf'⟩ := evalE_foot hphi hev
      cases hs'
      have : hset (put (nxt st q vq []) p.dst u) k ob = nxt (hset (put st p.dst u) k ob) q vq [] := by
        have e1 := put_tm_comm st p.dst q.dst u vq comm
        have e5 : ∀ (s s' : St) (d : Option Tmp) (v : V), s.tm = s'.tm → (put s d v).tm = (put s' d v).tm := fun s s' d v h => by cases d <;> simp [put, h]
        simp only [nxt, hset, updAll, put_hp]
        congr 1
        have a1 := e5 { tm := (put st p.dst u).tm, hp := Vi.upd st.hp k ob } (put st p.dst u) q.dst vq rfl
        have a2 := e5 (put st q.dst vq) { tm := (put st q.dst vq).tm, hp := st.hp } p.dst u rfl
        exact (a1.trans (e1.trans a2)).symm
      rw [← this]
      exact .eff (by rw [wantV_congr hR]; exact hw) he hf'
end
end Go.Vi
/-
  Vi: regions: each step is sound; drawn orders.
-/
set_option linter.unusedVariables false
set_option linter.unusedSimpArgs false
namespace Go.Vi
open Op
section
variable {P : Program} {E : Env} {all : List Oper} {o p q : Oper} {x : Cx} {γ : Gam} {w : World} {a : Act} {st st' s1 s2 : St} {v vp vq : V} {obs obsp obsq : List (Nat × O)}
variable {ops : Array Oper} {Q : Exit → Act → World → Prop}
theorem wanted_of {b : Bool} (hr : RS x γ st a w) (h : wantV ops.toList o st = some b) : Region.wanted o (yielded ops a.tmps) = b := by
  unfold wantV at h
  unfold Region.wanted
  cases hg : o.guard with
  | none =>
    rw [hg] at h
    cases h
    rfl
  | some g =>
    obtain ⟨j, want⟩ := g
    rw [hg] at h
    simp only at h ⊢
    cases ht : (ops.toList[j]?).bind (·.dst) with
    | none => rw [ht] at h; cases h
    | some t =>
      rw [ht] at h
      simp only at h
      have hj : (ops[j]?).bind (·.dst) = some t := by rw [← ht]; simp
      cases hv : st.tm[t]? with
      | none =>
        rw [hv] at h
        cases h
        have : a.tmps[t]? = none := by
          rw [Array.getElem?_eq_none_iff, ← hr.len]
          exact List.getElem?_eq_none_iff.1 hv
        unfold yielded
        rw [hj, Option.bind_some, this]
        rfl
      | some v =>
        rw [hv] at h
        have hlt : t < a.tmps.size := by
          rw [← hr.len]
          rcases Nat.lt_or_ge t st.tm.length with h1 | h1
          · exact h1
          · rw [List.getElem?_eq_none h1] at hv
            cases hv
        have hVR := hr.tm t v hv
        have hget : a.tmps[t]? = some (a.tmps.getD t undef) := by
          simp [Array.getD, hlt]
        have hy : yielded ops a.tmps j = match a.tmps.getD t undef with | .bool b => some b | _ => none := by
          unfold yielded
          rw [hj]
          simp only [Option.bind_some, hget]
          cases a.tmps.getD t undef <;> rfl
        rw [hy]
        split at h
        · rename_i he
          cases he
        · rename_i b' he
          cases he
          have : a.tmps.getD t undef = .bool b' := hVR
          rw [this]
          cases h
          cases b' <;> cases want <;> rfl
        · rename_i he
          cases he
          obtain ⟨us, h1, h2⟩ := hVR
          have : us = [] := by
            cases us with
            | nil => rfl
            | cons u us => exact h2.elim
          subst this
          rw [h1]
          cases h
          rfl
        · cases h
theorem Fresh1.dead (hf : Fresh1 st o) (hmk : isMove o = false) (hd : o.dst ≠ none) {k : Nat} (hlo : k < oslLo) (hk : isKey o k) : dead st o.dst k = true := by
  unfold Vi.dead
  rw [show Nat.blt k oslLo = true from Nat.ble_eq_true_of_le hlo, Bool.true_and]
  cases hdd : o.dst with
  | none => exact absurd hdd hd
  | some d =>
    obtain ⟨j, rfl⟩ := isKey_dst hdd hk
    have key : ∀ (tm : List V), (∀ (t : Nat) (u : V), tm[t]? = some u → refs (d + 10000 * j) u = false) → noRef (d + 10000 * j) tm = true := by
      intro tm
      induction tm with
      | nil => intro _; rfl
      | cons y r ih =>
        intro h
        simp only [noRef, Bool.and_eq_true, Bool.not_eq_true']
        exact ⟨h 0 y (by simp), ih fun t u hu => h (t + 1) u (by simpa using hu)⟩
    refine key _ fun t u hu => ?_
    rcases put_get hu with ⟨_, rfl⟩ | hu
    · rfl
    · exact hf hmk d hdd j t u hu
/-- A step of a region, as the machine takes it. -/
theorem FStep.wp (hT : TabOK P E.T) (hE : EqsOK P E.T) (hphi : EnvOK P E) (h : FStep E ops.toList o st st') (hr : RS x γ st a w) (hf : Fresh1 st o) (hd : isEff E ops.toList o = false → o.dst ≠ none)
    {K : Act → World → Prop} (hK : ∀ γ' a' w', RS x γ' st' a' w' → K a' w') : if Region.wanted o (yielded ops a.tmps) then o.wp P a w K Q else K (a.put o.dst undef) w := by
  cases h with
  | eff hw he hfo =>
    rw [wanted_of hr hw, if_pos rfl]
    obtain ⟨s, hs, hop⟩ := evalE_eff hT hphi hfo.self hr
    cases hs
    exact OpTo.wp (hop.mono fun u w' ⟨γ', h⟩ => hK γ' _ _ h)
  | loc hl =>
    rename_i v obs
    cases hl with
    | pure hw he hfo hl =>
      rw [wanted_of hr hw, if_pos rfl]
      obtain ⟨v', obs', hk, hop⟩ := evalP_good hT hE hphi.1 hfo.self hr.inv hr.ops'
      cases hk
      refine OpTo.wp (hop.mono fun u w' hres => ?_)
      obtain ⟨γ', h⟩ := hr.step (dst := o.dst) (List.all_eq_true.2 fun p hp => hf.dead (by cases hm : isMove o with | false => rfl | true => rw [move_obs hm hfo.self] at hp; cases hp) (hd he) (hl p hp) (hfo.keys p hp)) hres
      exact hK γ' _ _ h
    | skip hw =>
      rw [wanted_of hr hw]
      have hres : Res x γ st.hp w (.tup []) [] undef w := Res.same hr.inv ⟨[], rfl, trivial⟩
      obtain ⟨γ', h⟩ := hr.step (dst := o.dst) rfl hres
      exact hK γ' _ _ h
    | pick hw ho hc hv hu =>
      rename_i c y z p
      rw [wanted_of hr hw, if_pos rfl]
      have e1 := VR_bool (hr.ops' _ _ hc)
      have hres : Res x γ st.hp w v [] (a.eval (bif p then y else z)) w := Res.same hr.inv (hr.ops' _ _ hv)
      refine OpTo.wp (.inl ⟨a.eval (bif p then y else z), w, ?_, ?_⟩)
      · simp only [execOp, ho, e1, asBool, Sem.run_bind, Sem.run_pure, Result.andThen_ok]
        cases p <;> rfl
      · obtain ⟨γ', h⟩ := hr.step (dst := o.dst) rfl hres
        exact hK γ' _ _ h
theorem FStep.wpOp (hT : TabOK P E.T) (hE : EqsOK P E.T) (hphi : EnvOK P E) {i : Nat} (hi : ops.toList[i]? = some o) (h : FStep E ops.toList o st st') (hr : RS x γ st a w) (hf : Fresh1 st o) (hd : isEff E ops.toList o = false → o.dst ≠ none)
    {K : Act → World → Prop} (hK : ∀ γ' a' w', RS x γ' st' a' w' → K a' w') : wpOp P ops Q i K a w := by
  unfold Go.wpOp
  have : ops[i]? = some o := by rw [← hi]; simp
  rw [this]
  simp only
  have h1 := FStep.wp (Q := Q) hT hE hphi h hr hf hd hK
  split
  · rename_i hw
    rw [if_pos hw] at h1
    exact .inl h1
  · rename_i hw
    rw [if_neg hw] at h1
    exact h1
/-! ### What is named and what is new stay apart -/
theorem mem_dstsOf {d : Nat} {l : List Oper} : d ∈ dstsOf l ↔ ∃ o ∈ l, o.dst = some d := by
  unfold dstsOf
  rw [List.mem_filterMap]
theorem FStep.prov (h : FStep E all o st st') : ∀ (t : Nat) (u : V), st'.tm[t]? = some u → ∀ k, refs k u = true → (∃ (t : Nat) (u : V), st.tm[t]? = some u ∧ refs k u = true) ∨ (isMove o = false ∧ o.dst ≠ none ∧ isKey o k) ∨ k % 10000 = 9999 := by
  cases h with
  | eff hw he hf =>
    intro t u hu k hk
    rcases hf.prov.2.2 t u hu k hk with h | h
    · exact .inl h
    · refine .inr (.inl ⟨?_, h⟩)
      cases hm : isMove o with
      | false => rfl
      | true => rw [move_eff hm] at he; cases he
  | loc hl =>
    rename_i v obs
    intro t u hu k hk
    rcases put_get hu with ⟨hd, rfl⟩ | hu
    · rcases hl.prov k hk with ⟨t, _, u, hu, hr⟩ | h | h
      · exact .inl ⟨t, u, hu, hr⟩
      · exact .inr (.inl ⟨h.1, by rw [hd]; simp, h.2⟩)
      · exact .inr (.inr h)
    · exact .inl ⟨t, u, hu, hk⟩
/-- A step keeps what the others are going to make unnamed. -/
theorem FStep.fresh (h : FStep E all o st st') {os : List Oper} (hf : Fresh st os) (hlt : ∀ d, o.dst = some d → d < 9999) (hlt' : ∀ d ∈ dstsOf os, d < 9999) (hnd : ∀ d, o.dst = some d → d ∉ dstsOf os) : Fresh st' os := by
  intro q hq hmk d hd j t u hu
  cases hr : refs (d + 10000 * j) u with
  | false => rfl
  | true =>
    exfalso
    rcases h.prov t u hu _ hr with ⟨t', u', hu', hr'⟩ | ⟨_, hod, j', hj'⟩ | h9
    rotate_right
    · have h2 : @LT.lt Nat _ d 9999 := hlt' d (mem_dstsOf.2 ⟨q, hq, hd⟩)
      omega
    · rw [hf q hq hmk d hd j t' u' hu'] at hr'
      cases hr'
    · cases hdd : o.dst with
      | none => exact hod hdd
      | some e =>
        rw [hdd] at hj'
        have hm : d ∈ dstsOf os := mem_dstsOf.2 ⟨q, hq, hd⟩
        have h1 : @LT.lt Nat _ e 9999 := hlt e hdd
        have h2 : @LT.lt Nat _ d 9999 := hlt' d hm
        have : @Eq Nat d e := by
          simp only [dstKey] at hj'
          omega
        subst this
        exact hnd d hdd hm
theorem Fresh.one {os : List Oper} (h : Fresh st os) (ho : o ∈ os) : Fresh1 st o := fun hm d hd j t u hu => h o ho hm d hd j t u hu
theorem Ssa.perm {l l' : List Oper} (h : Ssa E all l) (hp : List.Perm l l') : Ssa E all l' :=
  ⟨(hp.filterMap _).nodup_iff.1 h.nd, fun d hd => h.lt d ((hp.filterMap _).mem_iff.2 hd), fun o ho => h.has o (hp.mem_iff.2 ho)⟩
theorem Ssa.tail {l : List Oper} (h : Ssa E all (o :: l)) : Ssa E all l ∧ (∀ d, o.dst = some d → d < 9999 ∧ d ∉ dstsOf l) := by
  have e : dstsOf (o :: l) = (match o.dst with | some d => d :: dstsOf l | none => dstsOf l) := by
    unfold dstsOf
    rw [List.filterMap_cons]
    cases o.dst <;> rfl
  cases hd : o.dst with
  | none =>
    rw [hd] at e
    simp only at e
    exact ⟨⟨e ▸ h.nd, fun d hd => h.lt d (e ▸ hd), fun q hq => h.has q (by simp [hq])⟩, fun d hd => by cases hd⟩
  | some d =>
    rw [hd] at e
    simp only at e
    have hnd := h.nd
    rw [e] at hnd
    have hn := List.nodup_cons.1 hnd
    refine ⟨⟨hn.2, fun d hd => h.lt d (by rw [e]; simp [hd]), fun q hq => h.has q (by simp [hq])⟩, fun d' hd' => ?_⟩
    cases hd'
    exact ⟨h.lt d (by rw [e]; simp), hn.1⟩
theorem Fresh.sub {l l' : List Oper} (h : Fresh st l) (hs : ∀ o ∈ l', o ∈ l) : Fresh st l' := fun q hq => h q (hs q hq)
/-- What an operation must be like, that the slots may go on naming nothing. -/
def ZGood (E : Env) (all : List Oper) (Z : ZS) (o : Oper) : Prop := Z = ([], []) ∨ ((∀ d, o.dst = some d → (d ∈ Z.1 → zop Z.1 o = true) ∧ ∀ x ∈ Z.2, x.1 ≠ d) ∧ (isEff E all o = true → isLoc E.T o = true ∨ isApp o = true))
theorem FStep.keepZ {Z : ZS} (hphi : EnvPar E) (h : FStep E all o st st') (hz : ZGood E all Z o) (hJ : JZ Z st) : JZ Z st' := by
  rcases hz with rfl | ⟨hz1, hz2⟩
  · exact ⟨fun t ht => (by cases ht), fun x hx => (by cases hx)⟩
  cases h with
  | loc hl =>
    rename_i v obs
    refine ⟨?_, fun x hx u hu k hk => ?_⟩
    rotate_left
    · rcases put_get hu with ⟨hd, rfl⟩ | hu
      · exact absurd rfl ((hz1 x.1 hd).2 x hx)
      · exact hJ.2 x hx u hu k hk
    intro t ht u hu k
    rcases put_get hu with ⟨hd, rfl⟩ | hu
    · have hz := (hz1 t hd).1 ht
      cases hl with
      | skip hw => rfl
      | pick hw ho hc hv hu => simp [zop, zkind, ho] at hz
      | pure hw he hf =>
        cases hr : refs k u with
        | false => rfl
        | true =>
          exfalso
          rcases hf.prov k hr with ⟨y, hy, u', hu', hr'⟩ | ⟨p, hp, _⟩ | ⟨k0, off, _, y, hy, u', hu', hr'⟩
          · rw [zop_refs hz hJ.1 hy hu' k] at hr'
            cases hr'
          · rw [zkind_obs (by simp only [zop, Bool.and_eq_true] at hz; exact hz.1) hf.self] at hp
            cases hp
          · rw [zop_refs hz hJ.1 hy hu' k0] at hr'
            cases hr'
    · exact hJ.1 t ht u hu k
  | eff hw he hf =>
    rcases hz2 he with hz2 | hz2
    rotate_left
    · have hk : ∀ (t : Nat) (u : V), o.dst ≠ some t → st'.tm[t]? = some u → ∀ k, refs k u = true → st.tm[t]? = some u := fun t u hd hu k hk => by
        rcases app_keep2 hz2 hf.self hd hu with rfl | h
        · cases hk
        · exact h
      refine ⟨fun t ht u hu k => ?_, fun x hx u hu k hkr => ?_⟩
      · cases hr : refs k u with
        | false => rfl
        | true =>
          have hd : o.dst ≠ some t := fun e => by
            have hzo := (hz1 t e).1 ht
            simp only [zop, Bool.and_eq_true] at hzo
            have := hzo.1
            unfold isApp at hz2
            split at hz2
            · rename_i c ho; simp [zkind, ho] at this
            · cases hz2
          rw [hJ.1 t ht u (hk t u hd hu k hr) k] at hr
          cases hr
      · exact hJ.2 x hx u (hk x.1 u (fun e => (hz1 x.1 e).2 x hx rfl) hu k hkr) k hkr
    obtain ⟨u0, k0, ob, ob0, rfl, hu0, _, _, _⟩ := evalE_loc hz2 hf.self
    refine ⟨fun t ht u hu k => ?_, fun x hx u hu k hk => ?_⟩
    · have hu : (put st o.dst u0).tm[t]? = some u := hu
      rcases put_get hu with ⟨hd, rfl⟩ | hu
      · exact hu0 k
      · exact hJ.1 t ht u hu k
    · have hu : (put st o.dst u0).tm[x.1]? = some u := hu
      rcases put_get hu with ⟨hd, rfl⟩ | hu
      · rw [hu0 k] at hk; cases hk
      · exact hJ.2 x hx u hu k hk
/-- An operation that minds none of those ahead of it may come first. -/
theorem bubble {Z : ZS} (hphi : EnvPar E) : ∀ (L1 : List Oper) {L2 : List Oper} {st : St}, FRun E all (L1 ++ o :: L2) st st' → (∀ p ∈ L1, indep E all Z p o = true) → Fresh st (L1 ++ o :: L2) → Ssa E all (L1 ++ o :: L2) → (∀ q ∈ L1 ++ o :: L2, ZGood E all Z q) → JZ Z st →
    ∃ s, FStep E all o st s ∧ FRun E all (L1 ++ L2) s st'
  | [], L2, st, h, _, _, _, _, _ => h
  | p :: L1, L2, st, h, hi, hf, hs, hzg, hJ => by
    obtain ⟨s1, hp, h⟩ := h
    have hJ1 := hp.keepZ hphi (hzg p (by simp)) hJ
    have hs' : Ssa E all (p :: (L1 ++ o :: L2)) := hs
    obtain ⟨ht, hpd⟩ := hs'.tail
    have hfr : Fresh s1 (L1 ++ o :: L2) := hp.fresh (hf.sub fun q hq => by simp only [List.cons_append, List.mem_cons]; exact .inr hq) (fun d hd => (hpd d hd).1) ht.lt (fun d hd => (hpd d hd).2)
    obtain ⟨s, ho, hrest⟩ := bubble hphi L1 h (fun q hq => hi q (by simp [hq])) hfr ht (fun q hq => hzg q (by simp only [List.cons_append, List.mem_cons]; exact .inr hq)) hJ1
    have hom : o ∈ L1 ++ o :: L2 := by simp
    obtain ⟨s', h1, h2⟩ := swap hphi (indep_spec (hi p (by simp))) hJ hJ1 (hf.one (by simp)) (hf.one (by simp)) (hs.has p (by simp)) (hs.has o (by simp)) (fun d hd => (hpd d hd).1)
      (fun d hd => ht.lt d (mem_dstsOf.2 ⟨o, hom, hd⟩)) hp ho
    exact ⟨s', h1, s, h2, hrest⟩
/-! ### The edges -/
def rowOf (o : Oper) (acc : List Nat) : Nat :=
  o.after.toList.foldl (fun s e => bif Region.binds .any e then Nat.lor s (Nat.lor (2 ^ e.on) (acc.getD e.on 0)) else s) 0
theorem bit_lor (a b i : Nat) : Nat.testBit (Nat.lor a b) i = (Nat.testBit a i || Nat.testBit b i) := Nat.testBit_or a b i
theorem rowOf_mem {o : Oper} {acc : List Nat} {b : Nat} (h : Nat.testBit (rowOf o acc) b = true) : ∃ e ∈ o.after.toList, Region.binds .any e = true ∧ (b = e.on ∨ Nat.testBit (acc.getD e.on 0) b = true) := by
  unfold rowOf at h
  have key : ∀ (l : List Edge) (s : Nat), Nat.testBit (l.foldl (fun s e => bif Region.binds .any e then Nat.lor s (Nat.lor (2 ^ e.on) (acc.getD e.on 0)) else s) s) b = true → Nat.testBit s b = true ∨ ∃ e ∈ l, Region.binds .any e = true ∧ (b = e.on ∨ Nat.testBit (acc.getD e.on 0) b = true) := by
    intro l
    induction l with
    | nil => intro s h; exact .inl h
    | cons e l ih =>
      intro s h
      simp only [List.foldl_cons] at h
      rcases ih _ h with h | ⟨e', he', h⟩
      · cases hb : Region.binds .any e with
        | true =>
          rw [hb] at h
          simp only [cond_true, bit_lor, Bool.or_eq_true] at h
          rcases h with h | h | h
          · exact .inl h
          · refine .inr ⟨e, by simp, hb, .inl ?_⟩
            rw [Nat.testBit_two_pow] at h
            exact (of_decide_eq_true h).symm
          · exact .inr ⟨e, by simp, hb, .inr h⟩
        | false =>
          rw [hb] at h
          exact .inl h
      · exact .inr ⟨e', by simp [he'], h⟩
  rcases key _ _ h with h | h
  · simp at h
  · exact h
theorem befores_spec : ∀ (l : List Oper) (acc : List Nat), ∃ res, befores l acc = acc ++ res ∧ res.length = l.length ∧
    ∀ (j : Nat) (o : Oper), l[j]? = some o → (befores l acc)[acc.length + j]? = some (rowOf o ((befores l acc).take (acc.length + j)))
  | [], acc => ⟨[], by simp [befores], rfl, by simp⟩
  | o :: l, acc => by
    obtain ⟨res, h1, h2, h3⟩ := befores_spec l (acc ++ [rowOf o acc])
    have e : befores (o :: l) acc = befores l (acc ++ [rowOf o acc]) := rfl
    refine ⟨rowOf o acc :: res, by rw [e, h1]; simp, by simp [h2], ?_⟩
    intro j o' hj
    rw [e]
    cases j with
    | zero =>
      simp at hj
      subst hj
      rw [h1]
      simp
    | succ j =>
      have := h3 j o' (by simpa using hj)
      simp only [List.length_append, List.length_cons, List.length_nil] at this
      have e2 : acc.length + (0 + 1) + j = acc.length + (j + 1) := by omega
      rw [e2] at this
      exact this
theorem befores_row {l : List Oper} {j : Nat} {o : Oper} (hj : l[j]? = some o) {b : Nat} (hb : Nat.testBit ((befores l []).getD j 0) b = true) :
    ∃ e ∈ o.after.toList, Region.binds .any e = true ∧ (b = e.on ∨ Nat.testBit ((befores l []).getD e.on 0) b = true) := by
  obtain ⟨res, h1, h2, h3⟩ := befores_spec l []
  have h := h3 j o hj
  simp only [List.length_nil, Nat.zero_add] at h
  have hb' : Nat.testBit (rowOf o ((befores l []).take j)) b = true := by
    have : (befores l []).getD j 0 = rowOf o ((befores l []).take j) := by
      simp only [List.getD, h, Option.getD_some]
    rw [← this]
    exact hb
  obtain ⟨e, he, hbn, h⟩ := rowOf_mem hb'
  refine ⟨e, he, hbn, h.imp id fun h => ?_⟩
  simp only [List.getD, List.getElem?_take] at h ⊢
  split at h
  · exact h
  · simp at h
theorem drawRows_spec {befs : List Nat} {Z : ZS} : ∀ (l : List Oper) (j : Nat), drawRows E all Z befs j l = true → ∀ (i : Nat) (q : Oper), l[i]? = some q → drawRow E all Z q (befs.getD (j + i) 0) 0 (all.take (j + i)) = true
  | [], _, _, i, q, h => by simp at h
  | o :: l, j, h, i, q, hi => by
    simp only [drawRows, Bool.and_eq_true] at h
    cases i with
    | zero =>
      simp at hi
      subst hi
      exact h.1
    | succ i =>
      have := drawRows_spec l (j + 1) h.2 i q (by simpa using hi)
      have e : j + 1 + i = j + (i + 1) := by omega
      rw [e] at this
      exact this
theorem drawRow_spec {bef : Nat} {Z : ZS} : ∀ (l : List Oper) (i0 : Nat), drawRow E all Z q bef i0 l = true → ∀ (i : Nat) (p : Oper), l[i]? = some p → Nat.testBit bef (i0 + i) = true ∨ indep E all Z p q = true
  | [], _, _, i, p, h => by simp at h
  | o :: l, i0, h, i, p, hi => by
    simp only [drawRow, Bool.and_eq_true, Bool.or_eq_true] at h
    cases i with
    | zero =>
      simp at hi
      subst hi
      rcases h.1 with h1 | h1
      · exact .inl h1
      · exact .inr h1
    | succ i =>
      have := drawRow_spec l (i0 + 1) h.2 i p (by simpa using hi)
      have e : i0 + 1 + i = i0 + (i + 1) := by omega
      rw [e] at this
      exact this
theorem backOK_spec : ∀ (l : List Oper) (j : Nat), backOK j l = true → ∀ (i : Nat) (o : Oper), l[i]? = some o → ∀ e ∈ o.after.toList, Region.binds .any e = true → e.on < j + i
  | [], _, _, i, o, h => by simp at h
  | p :: l, j, h, i, o, hi => by
    simp only [backOK, Bool.and_eq_true] at h
    cases i with
    | zero =>
      simp at hi
      subst hi
      intro e he hb
      have := List.all_eq_true.1 h.1 e he
      simp only [hb, Bool.not_true, Bool.false_or] at this
      exact Nat.le_of_ble_eq_true this
    | succ i =>
      intro e he hb
      have := backOK_spec l (j + 1) h.2 i o (by simpa using hi) e he hb
      omega
/-- Of two operations, in the order of the text: the edges order them, or they do not mind each other. -/
theorem drawOK_spec {Z : ZS} (h : drawOK E all Z = true) {i j : Nat} {p q : Oper} (hij : i < j) (hp : all[i]? = some p) (hq : all[j]? = some q) : Nat.testBit ((befores all []).getD j 0) i = true ∨ indep E all Z p q = true := by
  simp only [drawOK, Bool.and_eq_true] at h
  have h1 := drawRows_spec all 0 h.2 j q hq
  rw [Nat.zero_add] at h1
  have h2 := drawRow_spec (all.take j) 0 h1 i p (by rw [List.getElem?_take, if_pos hij]; exact hp)
  rwa [Nat.zero_add] at h2
/-! ### Drawn orders -/
def rem (listed : Array Bool) (n : Nat) : List Nat := (List.range n).filter fun i => !listed.getD i true
theorem rem_mem {listed : Array Bool} {n i : Nat} : i ∈ rem listed n ↔ i < n ∧ listed.getD i true = false := by
  unfold rem
  rw [List.mem_filter, List.mem_range, Bool.not_eq_true']
theorem rem_sorted (listed : Array Bool) (n : Nat) : (rem listed n).Pairwise (· < ·) := List.Pairwise.filter _ List.pairwise_lt_range
theorem getD_set {listed : Array Bool} {i j : Nat} (hi : i < listed.size) : (listed.setIfInBounds i true).getD j true = if j = i then true else listed.getD j true := by
  simp only [Array.getD_eq_getD_getElem?, Array.getElem?_setIfInBounds]
  by_cases h : i = j
  · subst h
    simp [hi]
  · rw [if_neg h, if_neg fun e => h e.symm]
theorem rem_set {listed : Array Bool} {n i : Nat} {L1 L2 : List Nat} (hi : i < listed.size) (h : rem listed n = L1 ++ i :: L2) : rem (listed.setIfInBounds i true) n = L1 ++ L2 := by
  have hp := rem_sorted listed n
  rw [h] at hp
  have h1 : rem (listed.setIfInBounds i true) n = (rem listed n).filter fun j => decide (j ≠ i) := by
    unfold rem
    rw [List.filter_filter]
    congr 1
    funext j
    rw [getD_set hi]
    by_cases hj : j = i
    · simp [hj]
    · simp [hj]
  rw [h1, h, List.filter_append, List.filter_cons]
  rw [List.pairwise_append] at hp
  have e1 : L1.filter (fun j => decide (j ≠ i)) = L1 := List.filter_eq_self.2 fun j hj => by
    have := hp.2.2 j hj i (by simp)
    simp
    omega
  have e2 : L2.filter (fun j => decide (j ≠ i)) = L2 := List.filter_eq_self.2 fun j hj => by
    have := (List.pairwise_cons.1 hp.2.1).1 j hj
    simp
    omega
  rw [e1, e2]
  simp
/-- A region whose order is drawn. -/
theorem FRun.wpAny (hT : TabOK P E.T) (hE : EqsOK P E.T) (hphi : EnvOK P E) (hpar : EnvPar E) {Z : ZS} (hdr : drawOK E ops.toList Z = true) (hzg : ∀ q ∈ ops.toList, ZGood E ops.toList Z q) : ∀ (fuel : Nat) (listed : Array Bool) {γ : Gam} {st : St} {a : Act} {w : World},
    listed.size = ops.size → (rem listed ops.size).length = fuel → (∀ j, j < ops.size → listed.getD j true = true → ∀ b, Nat.testBit ((befores ops.toList []).getD j 0) b = true → listed.getD b true = true) →
    FRun E ops.toList ((rem listed ops.size).filterMap fun i => ops.toList[i]?) st st' → RS x γ st a w → Fresh st ((rem listed ops.size).filterMap fun i => ops.toList[i]?) →
    Ssa E ops.toList ((rem listed ops.size).filterMap fun i => ops.toList[i]?) → JZ Z st → (∀ γ' a' w', RS x γ' st' a' w' → Q .normal a' w') → wpAny P .any ops Q fuel listed a w := by
  intro fuel
  induction fuel with
  | zero =>
    intro listed γ st a w hsz hl hcl h hr hf hs hJ hQ
    have he : rem listed ops.size = [] := List.length_eq_zero_iff.1 hl
    rw [he] at h
    have h : st = st' := h
    subst h
    refine ⟨?_, hQ γ a w hr⟩
    cases hr : Region.ready .any ops listed with
    | nil => rfl
    | cons i l =>
      exfalso
      have hi : i ∈ Region.ready .any ops listed := by rw [hr]; simp
      unfold Region.ready at hi
      rw [List.mem_filter, Bool.and_eq_true, Bool.not_eq_true'] at hi
      have : i ∈ rem listed ops.size := rem_mem.2 ⟨List.mem_range.1 hi.1, hi.2.1⟩
      rw [he] at this
      cases this
  | succ fuel ih =>
    intro listed γ st a w hsz hl hcl h hr hf hs hJ hQ
    refine ⟨fun hre => ?_, fun i hi => ?_⟩
    · exfalso
      cases hrem : rem listed ops.size with
      | nil => rw [hrem] at hl; cases hl
      | cons i L =>
        have hi : i ∈ rem listed ops.size := by rw [hrem]; simp
        have hi' := rem_mem.1 hi
        have hsorted := rem_sorted listed ops.size
        rw [hrem] at hsorted
        have hlow : ∀ j, j < i → listed.getD j true = true := by
          intro j hj
          cases hb : listed.getD j true with
          | true => rfl
          | false =>
            have : j ∈ rem listed ops.size := rem_mem.2 ⟨by omega, hb⟩
            rw [hrem] at this
            rcases List.mem_cons.1 this with rfl | this
            · omega
            · have := (List.pairwise_cons.1 hsorted).1 j this
              omega
        have : i ∈ Region.ready .any ops listed := by
          unfold Region.ready
          rw [List.mem_filter, Bool.and_eq_true, Bool.not_eq_true']
          refine ⟨List.mem_range.2 hi'.1, hi'.2, ?_⟩
          have hget : ops[i]? = some ops[i] := Array.getElem?_eq_getElem hi'.1
          rw [hget]
          simp only [Option.map_some, Option.getD_some]
          rw [← Array.all_toList, List.all_eq_true]
          intro e he
          cases hb : Region.binds .any e with
          | false => rfl
          | true =>
            simp only [drawOK, Bool.and_eq_true] at hdr
            have hlt := backOK_spec ops.toList 0 hdr.1 i ops[i] (by simp [hi'.1]) e he hb
            have h1 := hlow e.on (by omega)
            have h2 : e.on < listed.size := by omega
            simp only [Bool.not_true, Bool.false_or]
            simp only [Array.getD_eq_getD_getElem?, Array.getElem?_eq_getElem h2, Option.getD_some] at h1 ⊢
            exact h1
        rw [hre] at this
        cases this
    · unfold Region.ready at hi
      rw [List.mem_filter, Bool.and_eq_true, Bool.not_eq_true'] at hi
      obtain ⟨hir, hun, hed⟩ := hi
      have hlt : i < ops.size := List.mem_range.1 hir
      have hget : ops.toList[i]? = some ops[i] := by simp [hlt]
      have hget' : ops[i]? = some ops[i] := Array.getElem?_eq_getElem hlt
      rw [hget'] at hed
      simp only [Option.map_some, Option.getD_some] at hed
      rw [← Array.all_toList, List.all_eq_true] at hed
      have hbefs : ∀ b, Nat.testBit ((befores ops.toList []).getD i 0) b = true → listed.getD b true = true := by
        intro b hb
        obtain ⟨e, he, hbn, hbe⟩ := befores_row hget hb
        have h1 := hed e he
        simp only [hbn, Bool.not_true, Bool.false_or] at h1
        have h2 : e.on < listed.size := by
          rcases Nat.lt_or_ge e.on listed.size with h2 | h2
          · exact h2
          · simp [Array.getD, Nat.not_lt.2 h2] at h1
        have h3 : listed.getD e.on true = true := by
          simp only [Array.getD_eq_getD_getElem?, Array.getElem?_eq_getElem h2, Option.getD_some] at h1 ⊢
          exact h1
        rcases hbe with rfl | hbe
        · exact h3
        · exact hcl e.on (by omega) h3 b hbe
      have hmem : i ∈ rem listed ops.size := rem_mem.2 ⟨hlt, hun⟩
      obtain ⟨L1, L2, hL⟩ := List.append_of_mem hmem
      have hsorted := rem_sorted listed ops.size
      rw [hL, List.pairwise_append] at hsorted
      have hisz : i < listed.size := by omega
      have hset := rem_set hisz hL
      have hfm : (rem listed ops.size).filterMap (fun i => ops.toList[i]?) = L1.filterMap (fun i => ops.toList[i]?) ++ ops[i] :: L2.filterMap (fun i => ops.toList[i]?) := by
        rw [hL, List.filterMap_append, List.filterMap_cons, hget]
      rw [hfm] at h hf hs
      have hind : ∀ p ∈ L1.filterMap (fun i => ops.toList[i]?), indep E ops.toList Z p ops[i] = true := by
        intro p hp
        obtain ⟨k, hk, hkp⟩ := List.mem_filterMap.1 hp
        have hki := hsorted.2.2 k hk i (by simp)
        rcases drawOK_spec hdr hki hkp hget with h1 | h1
        · exfalso
          have h2 := hbefs k h1
          have h3 := (rem_mem.1 (show k ∈ rem listed ops.size by rw [hL]; simp [hk])).2
          rw [h2] at h3
          cases h3
        · exact h1
      have hzl : ∀ q ∈ L1.filterMap (fun i => ops.toList[i]?) ++ ops[i] :: L2.filterMap (fun i => ops.toList[i]?), ZGood E ops.toList Z q := by
        intro q hq
        rw [← hfm] at hq
        obtain ⟨k, _, hk⟩ := List.mem_filterMap.1 hq
        exact hzg q (List.mem_of_getElem? hk)
      obtain ⟨s, hstep, hrun⟩ := bubble hpar _ h hind hf hs hzl hJ
      have hJ3 := hstep.keepZ hpar (hzg _ (List.mem_of_getElem? hget)) hJ
      have hperm : List.Perm (L1.filterMap (fun i => ops.toList[i]?) ++ ops[i] :: L2.filterMap (fun i => ops.toList[i]?)) (ops[i] :: (L1.filterMap (fun i => ops.toList[i]?) ++ L2.filterMap (fun i => ops.toList[i]?))) := List.perm_middle
      have hs2 := hs.perm hperm
      obtain ⟨hs3, hd3⟩ := hs2.tail
      have hf2 : Fresh st (ops[i] :: (L1.filterMap (fun i => ops.toList[i]?) ++ L2.filterMap (fun i => ops.toList[i]?))) := hf.sub fun q hq => hperm.mem_iff.2 hq
      have hf3 := hstep.fresh (hf2.sub fun q hq => by simp only [List.mem_cons]; exact .inr hq) (fun d hd => (hd3 d hd).1) hs3.lt (fun d hd => (hd3 d hd).2)
      refine FStep.wpOp hT hE hphi hget hstep hr (hf2.one (by simp)) (hs2.has _ (by simp)) fun γ' a' w' hr' => ?_
      have hfm2 : (rem (listed.setIfInBounds i true) ops.size).filterMap (fun i => ops.toList[i]?) = L1.filterMap (fun i => ops.toList[i]?) ++ L2.filterMap (fun i => ops.toList[i]?) := by
        rw [hset, List.filterMap_append]
      refine ih (listed.setIfInBounds i true) (γ := γ') (st := s) (by simp [hsz]) ?_ ?_ (by rw [hfm2]; exact hrun) hr' (by rw [hfm2]; exact hf3) (by rw [hfm2]; exact hs3) hJ3 hQ
      · rw [hset]
        rw [hL] at hl
        simp only [List.length_append, List.length_cons] at hl ⊢
        omega
      · intro j hj hlj b hb
        rw [getD_set hisz] at hlj ⊢
        split
        · rfl
        · rename_i hbi
          split at hlj
          · rename_i hji
            subst hji
            exact hbefs b hb
          · exact hcl j hj hlj b hb
/-- The operations in the order of a list. -/
theorem FRun.wpOps (hT : TabOK P E.T) (hE : EqsOK P E.T) (hphi : EnvOK P E) : ∀ (l : List Nat) {γ : Gam} {st : St} {a : Act} {w : World}, (∀ i ∈ l, i < ops.size) →
    FRun E ops.toList (l.filterMap fun i => ops.toList[i]?) st st' → RS x γ st a w → Fresh st (l.filterMap fun i => ops.toList[i]?) →
    Ssa E ops.toList (l.filterMap fun i => ops.toList[i]?) → (∀ γ' a' w', RS x γ' st' a' w' → Q .normal a' w') → wpOps P ops Q l a w
  | [], γ, st, a, w, _, h, hr, _, _, hQ => by
    have h : st = st' := h
    subst h
    exact hQ γ a w hr
  | i :: l, γ, st, a, w, hlt, h, hr, hf, hs, hQ => by
    have hi : i < ops.size := hlt i (by simp)
    have hget : ops.toList[i]? = some ops[i] := by simp [hi]
    rw [List.filterMap_cons, hget] at h hf hs
    obtain ⟨s, hstep, hrun⟩ := h
    obtain ⟨hs3, hd3⟩ := hs.tail
    have hf3 := hstep.fresh (hf.sub fun q hq => by simp only [List.mem_cons]; exact .inr hq) (fun d hd => (hd3 d hd).1) hs3.lt (fun d hd => (hd3 d hd).2)
    rw [wpOps_cons]
    exact FStep.wpOp hT hE hphi hget hstep hr (hf.one (by simp)) (hs.has _ (by simp)) fun γ' a' w' hr' =>
      FRun.wpOps hT hE hphi l (fun j hj => hlt j (by simp [hj])) hrun hr' hf3 hs3 hQ
end
end Go.Vi
/-
  Vi: regions: what the interpreter says of a region comes true.
-/
set_option linter.unusedVariables false
set_option linter.unusedSimpArgs false
namespace Go.Vi
open Op
/-- One state knows no more than the other. -/
structure Sub (st st' : St) : Prop where
  len : st.tm.length = st'.tm.length
  tm : ∀ (t : Nat) (v : V), st.tm[t]? = some v → v = .undef ∨ st'.tm[t]? = some v
  hp : ∀ (t : Nat) (v : V), st.tm[t]? = some v → ∀ k, refs k v = true → st'.hp k = st.hp k
  pin : ∀ k, oslLo ≤ k → st'.hp k = st.hp k
theorem Sub.refl (st : St) : Sub st st := ⟨rfl, fun _ _ h => .inr h, fun _ _ _ _ _ => rfl, fun _ _ => rfl⟩
section
variable {P : Program} {E : Env} {all : List Oper} {o p q : Oper} {x : Cx} {γ γ' : Gam} {w : World} {a : Act} {st st' s1 s2 : St} {v vp vq : V} {obs obsp obsq : List (Nat × O)}
variable {ops : Array Oper} {Q : Exit → Act → World → Prop} {H H' : Heap}
theorem VR1.keyr {A : Nat → Prop} : ∀ (y : V) (u : Value), (∀ k, refs1 k y = true → γ' k = γ k ∧ H' k = H k) → VR1 γ w A H y u → VR1 γ' w A H' y u := by
  intro y u hk h
  cases y with
  | ptr k off =>
    obtain ⟨b, c, h1, h2⟩ := h
    exact ⟨b, c, (hk k (Nat.beq_refl k)).1.trans h1, h2⟩
  | own k win t =>
    obtain ⟨i, e, xs, nilE, h1, h2, h3⟩ := h
    exact ⟨i, e, xs, nilE, (hk k (Nat.beq_refl k)).1.trans h1, (hk k (Nat.beq_refl k)).2.trans h2, h3⟩
  | eptr k win i off =>
    obtain ⟨b, c, e, xs, nilE, h1, h2, h3⟩ := h
    exact ⟨b, c, e, xs, nilE, (hk k (Nat.beq_refl k)).1.trans h1, (hk k (Nat.beq_refl k)).2.trans h2, h3⟩
  | aptr k off n e i =>
    obtain ⟨b, c, h1, h2⟩ := h
    exact ⟨b, c, (hk k (Nat.beq_refl k)).1.trans h1, h2⟩
  | map k =>
    obtain ⟨b, c, h1, h2⟩ := h
    exact ⟨b, c, (hk k (Nat.beq_refl k)).1.trans h1, h2⟩
  | undef => trivial
  | c y => exact h
  | agg cs => exact h
  | iptr cs => exact h
  | tup vs => exact h
  | fn f vs => exact h
  | fpb f css => exact h
  | fptr f cds =>
    obtain ⟨b, us, h1, h2, h3⟩ := h
    exact ⟨b, us, h1, h2, CDR.keys (fun k hk' => (hk k hk').1) h3⟩
theorem All2.keyr {A : Nat → Prop} : ∀ {xs : List V} {vs : List Value}, (∀ k, refsAny k xs = true → γ' k = γ k ∧ H' k = H k) → All2 (VR1 γ w A H) xs vs → All2 (VR1 γ' w A H') xs vs
  | [], [], _, _ => trivial
  | y :: xs, v :: vs, hr, h => ⟨VR1.keyr y v (fun k hk => hr k (by simp [refsAny, hk])) h.1, All2.keyr (fun k hk => hr k (by simp [refsAny, hk])) h.2⟩
  | [], _ :: _, _, h => h.elim
  | _ :: _, [], _, h => h.elim
theorem VR.keyr {A : Nat → Prop} (y : V) (u : Value) (hk : ∀ k, refs k y = true → γ' k = γ k ∧ H' k = H k) (h : VR γ w A H y u) : VR γ' w A H' y u := by
  cases y with
  | tup vs => obtain ⟨us, h1, h2⟩ := h; exact ⟨us, h1, h2.keyr hk⟩
  | fn f vs => obtain ⟨us, h1, h2⟩ := h; exact ⟨us, h1, h2.keyr hk⟩
  | undef => trivial
  | c y => exact h
  | agg cs => exact h
  | iptr cs => exact h
  | ptr k off => exact VR1.keyr (w := w) (A := A) (.ptr k off) u hk h
  | own k win t => exact VR1.keyr (w := w) (A := A) (.own k win t) u hk h
  | eptr k win i off => exact VR1.keyr (w := w) (A := A) (.eptr k win i off) u hk h
  | aptr k off n e i => exact VR1.keyr (w := w) (A := A) (.aptr k off n e i) u hk h
  | map k => exact VR1.keyr (w := w) (A := A) (.map k) u hk h
  | fptr f cds => exact VR1.keyr (w := w) (A := A) (H := H) (.fptr f cds) u hk h
  | fpb f css => exact h
/-- What knows less is true as well. -/
theorem RS.sub (hr : RS x γ st' a w) (h : Sub st st') : ∃ γ', RS x γ' st a w := by
  refine Classical.byCases (p := True) (fun _ => ?_) (fun h => absurd trivial h)
  let γ' : Gam := fun k => open Classical in if (∃ (t : Nat) (v : V), st.tm[t]? = some v ∧ refs k v = true) ∨ oslLo ≤ k then γ k else none
  have hsub : ∀ k i, γ' k = some i → γ k = some i ∧ st'.hp k = st.hp k := by
    intro k i hk
    simp only [γ'] at hk
    split at hk
    · rename_i hex
      rcases hex with ⟨t, v, hv, hr⟩ | hlo
      · exact ⟨hk, h.hp t v hv k hr⟩
      · exact ⟨hk, h.pin k hlo⟩
    · cases hk
  have hav : ∀ b, Av x γ w b → Av x γ' w b ∧ w.heap[b]? = w.heap[b]? := fun b hb => Av.del (fun k i hk => ⟨k, (hsub k i hk).1⟩) b hb
  refine ⟨γ', ⟨⟨hr.inv.size, hr.inv.os, hr.inv.tape, hr.inv.output, hr.inv.blk, ?_, ?_, ?_, ?pin, ?lnk⟩, ?_, ?_, hr.nod⟩⟩
  case lnk =>
    intro k cs off b c ob h1 h2 h3 h4
    obtain ⟨h5, h6⟩ := hsub k _ h3
    have h7 := h.pin (hk k off) (hk_lo k off)
    obtain ⟨i, e1, e2⟩ := hr.inv.lnk k cs off b c ob (h6.trans h1) h2 h5 (h7.trans h4)
    refine ⟨i, ?_, e2.mono rfl h7.symm⟩
    simp only [γ']
    rw [if_pos (.inr (hk_lo k off))]
    exact e1
  case pin =>
    intro k i hp hH
    have hlo := Nat.le_trans osl_pin (x.pinlo k i hp)
    simp only [γ']
    rw [if_pos (.inr hlo)]
    exact hr.inv.pin k i hp (by rw [h.pin k hlo]; exact hH)
  · intro k i hk
    obtain ⟨h1, h2⟩ := hsub k i hk
    obtain ⟨ob, h3, h4⟩ := hr.inv.own k i h1
    exact ⟨ob, by rw [← h2]; exact h3, objR.mono hav ob i (fun _ _ _ => rfl) h4⟩
  · intro k b c hk
    exact hr.inv.rng k b c (hsub k _ hk).1
  · intro k k' b c c' hk hk'
    exact hr.inv.inj k k' b c c' (hsub k _ hk).1 (hsub k' _ hk').1
  · rw [h.len]; exact hr.len
  · intro t v hv
    rcases h.tm t v hv with rfl | hv'
    · trivial
    · refine VR.keyr v _ (fun k hk => ⟨?_, (h.hp t v hv k hk).symm⟩) (VR.mono hav v _ (hr.tm t v hv'))
      simp only [γ']
      rw [if_pos (.inl ⟨t, v, hv, hk⟩)]
theorem Sub.opV (h : Sub st st') {y : Operand} {v : V} (hv : opV st y = some v) (hu : v ≠ .undef) : opV st' y = some v := by
  cases y with
  | tmp t => exact (h.tm t v hv).resolve_left hu
  | _ => exact hv
theorem updAll_eq {H H' : Heap} {obs : List (Nat × O)} {k : Nat} (h : H' k = H k ∨ ∃ p ∈ obs, p.1 = k) : updAll H' obs k = updAll H obs k := by
  rw [updAll_get H', updAll_get H]
  cases hb : updAll emp obs k with
  | some ob => rfl
  | none =>
    rcases h with h | ⟨p, hp, he⟩
    · exact h
    · exfalso
      have key : ∀ (obs : List (Nat × O)), p ∈ obs → updAll emp obs k ≠ none := by
        intro obs
        induction obs with
        | nil => intro h; cases h
        | cons a r ih =>
          intro h
          obtain ⟨k', ob⟩ := a
          simp only [updAll, upd]
          cases hkk : Nat.beq k k' with
          | true => simp
          | false =>
            simp only [cond_false]
            rcases List.mem_cons.1 h with rfl | h
            · simp only at he
              subst he
              rw [Nat.beq_refl] at hkk
              cases hkk
            · exact ih h
      exact key obs hp hb
theorem FRun.append : ∀ {l1 : List Oper} {l2 : List Oper} {st : St}, FRun E all l1 st s1 → FRun E all l2 s1 st' → FRun E all (l1 ++ l2) st st'
  | [], l2, st, h1, h2 => by
    have h1 : st = s1 := h1
    subst h1
    exact h2
  | o :: l1, l2, st, ⟨s, h, h1⟩, h2 => ⟨s, h, FRun.append h1 h2⟩
theorem noEff_mem {l : List Oper} (h : noEff E all l = true) : ∀ o ∈ l, isEff E all o = false := by
  intro o ho
  have := List.all_eq_true.1 h o ho
  simpa using this
theorem FStep.frame (h : FStep E all o st st') (he : isEff E all o = false) : st'.tm.length = st.tm.length ∧ (∀ t : Nat, o.dst ≠ some t → st'.tm[t]? = st.tm[t]?) ∧ ∀ k, (isMove o = false → o.dst ≠ none → ¬ isKey o k) → (isEff E all o = false → o.dst ≠ none) → st'.hp k = st.hp k := by
  cases h with
  | eff hw he' hf => rw [he] at he'; cases he'
  | loc hl =>
    refine ⟨put_len _ _ _, fun t ht => set_ne ht, fun k hk hd => ?_⟩
    exact updAll_no _ _ _ fun p hp e => hk (hl.maker (ne_nil_of_mem hp)) (hd he) (e ▸ hl.keys p hp)
theorem FRun.pins : ∀ {os : List Oper} {st : St}, FRun E all os st st' → (∀ o ∈ os, isEff E all o = false) → ∀ k, oslLo ≤ k → st'.hp k = st.hp k
  | [], st, h, _, k, _ => by
    have h : st = st' := h
    subst h
    rfl
  | o :: os, st, ⟨s, h, hr⟩, he, k, hk => by
    rw [FRun.pins hr (fun q hq => he q (by simp [hq])) k hk]
    cases h with
    | eff hw he' hf => rw [he o (by simp)] at he'; cases he'
    | loc hl =>
      refine updAll_no _ _ _ fun p hp e => ?_
      have := hl.lo p hp
      omega
theorem FRun.frame : ∀ {os : List Oper} {st : St}, FRun E all os st st' → (∀ o ∈ os, isEff E all o = false) → st'.tm.length = st.tm.length ∧ (∀ t : Nat, t ∉ dstsOf os → st'.tm[t]? = st.tm[t]?) ∧
    ∀ k, (∀ o ∈ os, isMove o = false → o.dst ≠ none → ¬ isKey o k) → (∀ o ∈ os, isEff E all o = false → o.dst ≠ none) → st'.hp k = st.hp k
  | [], st, h, _ => by
    have h : st = st' := h
    subst h
    exact ⟨rfl, fun _ _ => rfl, fun _ _ _ => rfl⟩
  | o :: os, st, ⟨s, h, hr⟩, he => by
    obtain ⟨a1, a2, a3⟩ := h.frame (he o (by simp))
    obtain ⟨b1, b2, b3⟩ := FRun.frame hr fun q hq => he q (by simp [hq])
    refine ⟨b1.trans a1, fun t ht => ?_, fun k hk hd => ?_⟩
    · have h1 : t ∉ dstsOf os := fun hm => by
        obtain ⟨q, hq, hqd⟩ := mem_dstsOf.1 hm
        exact ht (mem_dstsOf.2 ⟨q, by simp [hq], hqd⟩)
      have h2 : o.dst ≠ some t := fun hd => ht (mem_dstsOf.2 ⟨o, by simp, hd⟩)
      rw [b2 t h1, a2 t h2]
    · rw [b3 k (fun q hq => hk q (by simp [hq])) (fun q hq => hd q (by simp [hq])), a3 k (hk o (by simp)) (hd o (by simp))]
theorem FRun.fresh : ∀ {os : List Oper} {os2 : List Oper} {st : St}, FRun E all os st st' → Fresh st (os ++ os2) → Ssa E all (os ++ os2) → Fresh st' os2
  | [], os2, st, h, hf, _ => by
    have h : st = st' := h
    subst h
    exact hf
  | o :: os, os2, st, ⟨s, h, hr⟩, hf, hs => by
    have hs' : Ssa E all (o :: (os ++ os2)) := hs
    obtain ⟨ht, hd⟩ := hs'.tail
    exact FRun.fresh hr (h.fresh (hf.sub fun q hq => by simp only [List.cons_append, List.mem_cons]; exact .inr hq) (fun d hd' => (hd d hd').1) ht.lt fun d hd' => (hd d hd').2) ht
theorem Ssa.append {l1 l2 : List Oper} (h : Ssa E all (l1 ++ l2)) : Ssa E all l1 ∧ Ssa E all l2 ∧ ∀ d ∈ dstsOf l1, d ∉ dstsOf l2 := by
  have e : dstsOf (l1 ++ l2) = dstsOf l1 ++ dstsOf l2 := by unfold dstsOf; rw [List.filterMap_append]
  have hnd := h.nd
  rw [e, List.nodup_append] at hnd
  refine ⟨⟨hnd.1, fun d hd => h.lt d (by rw [e]; simp [hd]), fun o ho => h.has o (by simp [ho])⟩, ⟨hnd.2.1, fun d hd => h.lt d (by rw [e]; simp [hd]), fun o ho => h.has o (by simp [ho])⟩, fun d h1 h2 => hnd.2.2 d h1 d h2 rfl⟩
/-- A run behind a guard that does not want it. -/
theorem skipRun {j tj : Nat} {want c : Bool} (htj : (all[j]?).bind (·.dst) = some tj) (hc : (c == want) = false) : ∀ (grp : List Oper) (seen : List Nat) {st : St}, nest all j want seen grp = true → st.tm[tj]? = some (.c (.bool c)) →
    (∀ t ∈ seen, st.tm[t]? = some (.tup []) ∨ st.tm[t]? = none) → tj ∉ dstsOf grp → (∀ t ∈ seen, t ∉ dstsOf grp) → (dstsOf grp).Nodup → ∃ s, FRun E all grp st s ∧ (∀ t : Nat, t ∉ dstsOf grp → s.tm[t]? = st.tm[t]?) ∧ s.hp = st.hp ∧ s.tm.length = st.tm.length
  | [], seen, st, _, _, _, _, _, _ => ⟨st, rfl, fun _ _ => rfl, rfl, rfl⟩
  | o :: grp, seen, st, hn, ht, hs, htg, hsd, hnd => by
    simp only [nest, Bool.and_eq_true] at hn
    obtain ⟨hg, hn⟩ := hn
    cases hd : o.dst with
    | none => rw [hd] at hn; cases hn
    | some d =>
      rw [hd] at hn
      simp only at hn
      have e : dstsOf (o :: grp) = d :: dstsOf grp := by unfold dstsOf; rw [List.filterMap_cons, hd]
      rw [e] at htg hsd hnd
      simp only [List.mem_cons, not_or] at htg
      obtain ⟨hnd1, hnd2⟩ := List.nodup_cons.1 hnd
      have hw : wantV all o st = some false := by
        unfold wantV
        cases hgd : o.guard with
        | none => rw [hgd] at hg; cases hg
        | some g =>
          obtain ⟨j', w'⟩ := g
          rw [hgd] at hg
          simp only [Bool.or_eq_true, Bool.and_eq_true] at hg
          simp only
          rcases hg with ⟨h1, h2⟩ | h1
          · have h1 := Nat.eq_of_beq_eq_true h1
            have h2 : w' = want := by cases w' <;> cases want <;> first | rfl | cases h2
            subst h1 h2
            rw [htj]
            simp only [ht]
            exact congrArg some hc
          · cases hj' : (all[j']?).bind (·.dst) with
            | none => rw [hj'] at h1; cases h1
            | some t =>
              rw [hj'] at h1
              simp only at h1 ⊢
              rcases hs t (mem_memN.1 h1) with h2 | h2 <;> rw [h2]
      have hstep : FStep E all o st (nxt st o (.tup []) []) := .loc (.skip hw)
      have hget : ∀ t : Nat, t ≠ d → (nxt st o (.tup []) []).tm[t]? = st.tm[t]? := fun t hne => set_ne (by rw [hd]; intro e; cases e; exact hne rfl)
      obtain ⟨s, h1, h2, h3, h4⟩ := skipRun htj hc grp (d :: seen) (st := nxt st o (.tup []) []) hn (by rw [hget tj htg.1]; exact ht) (fun t hm => by
        by_cases htd : t = d
        · subst htd
          simp only [nxt, hd, put, List.getElem?_set]
          by_cases hl : t < st.tm.length <;> simp [hl]
        · rw [hget t htd]
          exact hs t ((List.mem_cons.1 hm).resolve_left htd)) htg.2 (fun t hm => by
        rcases List.mem_cons.1 hm with rfl | hm
        · exact hnd1
        · exact fun hx => hsd t hm (by simp [hx])) hnd2
      refine ⟨s, ⟨_, hstep, h1⟩, fun t hn => ?_, h3, h4.trans (put_len _ _ _)⟩
      rw [e] at hn
      simp only [List.mem_cons, not_or] at hn
      rw [h2 t hn.2, hget t hn.1]
theorem undefs_get : ∀ (l : List Oper) (tm : List V) (t : Nat), (undefs tm l)[t]? = if t ∈ dstsOf l then (tm[t]?).map fun _ => .undef else tm[t]?
  | [], tm, t => by simp [undefs, dstsOf]
  | o :: l, tm, t => by
    simp only [undefs]
    rw [undefs_get l]
    cases hd : o.dst with
    | none =>
      have e : dstsOf (o :: l) = dstsOf l := by unfold dstsOf; rw [List.filterMap_cons, hd]
      rw [e]
    | some d =>
      have e : dstsOf (o :: l) = d :: dstsOf l := by unfold dstsOf; rw [List.filterMap_cons, hd]
      rw [e]
      simp only [List.getElem?_set, List.mem_cons]
      by_cases h1 : t = d
      · subst h1
        by_cases h2 : t < tm.length
        · simp [h2]
        · simp [h2]
      · have : ¬ d = t := fun h => h1 h.symm
        simp [h1, this]
theorem undefs_len : ∀ (l : List Oper) (tm : List V), (undefs tm l).length = tm.length
  | [], _ => rfl
  | o :: l, tm => by
    simp only [undefs]
    rw [undefs_len l]
    cases o.dst <;> simp
theorem put_self {d : Nat} (h : d < st.tm.length) (v : V) : (put st (some d) v).tm[d]? = some v := by simp [put, h]
theorem getB_some {y : Operand} {b : Bool} (h : getB st y = some b) : opV st y = some (.c (.bool b)) := by
  unfold getB at h
  split at h
  · rename_i b' hb
    cases h
    exact hb
  · cases h
/-- What is known of the guard that one goes by. -/
def CtxOK (all os : List Oper) (ctx : Option (Nat × Bool)) (st : St) : Prop :=
  ∀ j want, ctx = some (j, want) → ∃ t, (all[j]?).bind (·.dst) = some t ∧ st.tm[t]? = some (.c (.bool want)) ∧ t ∉ dstsOf os
theorem CtxOK.want {os : List Oper} {ctx : Option (Nat × Bool)} (h : CtxOK all os ctx st) (hg : guardIs ctx o = true) : wantV all o st = some true := by
  have hg : o.guard = ctx := by simpa [guardIs] using hg
  unfold wantV
  rw [hg]
  cases ctx with
  | none => rfl
  | some g =>
    obtain ⟨j, want⟩ := g
    obtain ⟨t, h1, h2, h3⟩ := h j want rfl
    simp only [h1, h2]
    cases want <;> rfl
theorem mem_dsts_of {d : Nat} {l : List Oper} (ho : o ∈ l) (hd : o.dst = some d) : d ∈ dstsOf l := mem_dstsOf.2 ⟨o, ho, hd⟩
/-- The interpreter's run of a region, operation by operation. -/
theorem runOps_flat (hphi : EnvPar E) : ∀ (m : Nat) (ctx : Option (Nat × Bool)) (os : List Oper) (st st' : St) (ρ : Type) (K : St → Option ρ) (r : ρ), runOps E all ctx m os st ρ K = some r → Sub st st' → Fresh st' os → Ssa E all os →
    CtxOK all os ctx st' → (noEff E all os = true ∨ st = st') → ∃ s s', K s = some r ∧ FRun E all os st' s' ∧ Sub s s' := by
  intro m
  induction m with
  | zero => intro ctx os st st' ρ K r h; cases h
  | succ m ih =>
    intro ctx os st st' ρ K r h hsub hf hs hctx hph
    cases os with
    | nil => exact ⟨st, st', h, rfl, hsub⟩
    | cons o os =>
      obtain ⟨hst, hsd⟩ := hs.tail
      rw [runOps] at h
      simp only [fTm_eq] at h
      cases hg : guardIs ctx o with
      | true =>
        rw [hg] at h
        simp only [cond_true] at h
        have hw := hctx.want (o := o) hg
        have hctx' : ∀ s : St, (∀ t : Nat, o.dst ≠ some t → s.tm[t]? = st'.tm[t]?) → CtxOK all os ctx s := by
          intro s hs' j want he
          obtain ⟨t, h1, h2, h3⟩ := hctx j want he
          refine ⟨t, h1, ?_, fun hm => h3 ?_⟩
          · rw [hs' t fun hd => h3 (mem_dsts_of (by simp) hd)]
            exact h2
          · obtain ⟨q, hq, hqd⟩ := mem_dstsOf.1 hm
            exact mem_dsts_of (by simp [hq]) hqd
        unfold evalOp at h
        simp only [fTm_eq] at h
        cases he : isEff E all o with
        | true =>
          rw [he] at h
          simp only [cond_true] at h
          rcases hph with hn | rfl
          · have := noEff_mem hn o (by simp)
            rw [he] at this
            cases this
          · obtain ⟨s1, h1, hf1⟩ := evalE_foot hphi h
            have hstep : FStep E all o st s1 := .eff hw he hf1
            have hfr := hstep.fresh (hf.sub fun q hq => by simp only [List.mem_cons]; exact .inr hq) (fun d hd => (hsd d hd).1) hst.lt fun d hd => (hsd d hd).2
            have hctx1 : CtxOK all os ctx s1 := by
              intro j want he
              obtain ⟨t, h1, h2, h3⟩ := hctx j want he
              refine ⟨t, h1, hf1.prov.2.1 t _ (fun hd => h3 (mem_dsts_of (by simp) hd)) h2, fun hm => h3 ?_⟩
              obtain ⟨q, hq, hqd⟩ := mem_dstsOf.1 hm
              exact mem_dsts_of (by simp [hq]) hqd
            obtain ⟨s, s', a1, a2, a3⟩ := ih ctx os s1 s1 ρ K r h1 (Sub.refl s1) hfr hst hctx1 (.inr rfl)
            exact ⟨s, s', a1, ⟨s1, hstep, a2⟩, a3⟩
        | false =>
          rw [he] at h
          simp only [cond_false] at h
          obtain ⟨v, obs, hk, hfo⟩ := evalP_foot hphi.1 h
          obtain ⟨hdd, hk⟩ := cond_some hk rfl
          have hag : Agree o.op.operands.toList (opV st) (opV st') st.hp st'.hp := by
            refine ⟨fun y hy => ?_, fun y hy u hu k hr => ?_, fun y hy u hu k hr off => hsub.pin _ (hk_lo k off)⟩
            · cases y with
              | tmp t =>
                simp only [opV]
                cases hv : st.tm[t]? with
                | none =>
                  have := List.getElem?_eq_none_iff.1 hv
                  exact List.getElem?_eq_none_iff.2 (by rw [← hsub.len]; exact this)
                | some u =>
                  exact (hsub.tm t u hv).resolve_left fun hu => hfo.dfd t hy (by rw [← hu]; exact hv)
              | _ => rfl
            · obtain ⟨t, rfl, ht⟩ := opV_tmp hu hr
              exact hsub.hp t u ht k hr
          have hev := hfo.cong _ _ hag
          obtain ⟨v', obs', hk', hfo'⟩ := evalP_foot hphi.1 hev
          cases hk'
          have hlo : ∀ p ∈ obs, p.1 < oslLo := fun p hp => (dead_spec (List.all_eq_true.1 hdd p hp)).1
          have hstep : FStep E all o st' (nxt st' o v obs) := .loc (.pure hw he hfo' hlo)
          have hsub' : Sub (nxt st o v obs) (nxt st' o v obs) := by
            refine ⟨by simp only [nxt, put_len, hsub.len], fun t u hu => ?_, fun t u hu k hr => ?_, fun k hk => updAll_eq (.inl (hsub.pin k hk))⟩
            · rcases put_get hu with ⟨hd, rfl⟩ | hu'
              · refine .inr ?_
                have hlt : t < st.tm.length := by
                  rcases Nat.lt_or_ge t st.tm.length with h1 | h1
                  · exact h1
                  · have : (nxt st o u obs).tm[t]? = none := List.getElem?_eq_none (by simp only [nxt, put_len]; exact h1)
                    rw [this] at hu
                    cases hu
                rw [nxt, hd]
                exact put_self (by rw [← hsub.len]; exact hlt) u
              · by_cases hd : o.dst = some t
                · have hlt : t < st.tm.length := (List.getElem?_eq_some_iff.1 hu').1
                  refine .inr ?_
                  have e1 : (nxt st o v obs).tm[t]? = some v := by
                    rw [nxt, hd]
                    exact put_self hlt v
                  rw [e1] at hu
                  cases hu
                  rw [nxt, hd]
                  exact put_self (by rw [← hsub.len]; exact hlt) v
                · rcases hsub.tm t u hu' with h1 | h1
                  · exact .inl h1
                  · refine .inr ?_
                    have e1 : (nxt st' o v obs).tm[t]? = st'.tm[t]? := set_ne hd
                    rw [e1]
                    exact h1
            · refine updAll_eq ?_
              rcases put_get hu with ⟨hd, rfl⟩ | hu'
              · rcases hfo.prov k hr with ⟨y, hy, u', hu', hr'⟩ | h1 | ⟨k0, off, rfl, _⟩
                rotate_right
                · exact .inl (hsub.pin _ (hk_lo k0 off))
                · obtain ⟨t', rfl, ht'⟩ := opV_tmp hu' hr'
                  exact .inl (hsub.hp t' u' ht' k hr')
                · exact .inr h1
              · exact .inl (hsub.hp t u hu' k hr)
          have hfr := hstep.fresh (hf.sub fun q hq => by simp only [List.mem_cons]; exact .inr hq) (fun d hd => (hsd d hd).1) hst.lt fun d hd => (hsd d hd).2
          have hph' : noEff E all os = true ∨ nxt st o v obs = nxt st' o v obs := by
            rcases hph with hn | rfl
            · unfold noEff at hn
              simp only [List.all_cons, Bool.and_eq_true] at hn
              exact .inl hn.2
            · exact .inr rfl
          obtain ⟨s, s', a1, a2, a3⟩ := ih ctx os (nxt st o v obs) (nxt st' o v obs) ρ K r hk hsub' hfr hst (hctx' _ fun t ht => set_ne ht) hph'
          exact ⟨s, s', a1, ⟨_, hstep, a2⟩, a3⟩
      | false =>
        rw [hg] at h
        simp only [cond_false] at h
        cases hgd : o.guard with
        | none => rw [hgd] at h; cases h
        | some g =>
          obtain ⟨j, want⟩ := g
          rw [hgd] at h
          simp only at h
          split at h
          case h_2 => cases h
          rename_i p rest tj hdw htj
          split at h
          case h_2 => cases h
          rename_i c a b cc hop hgb
          cases hgk : grpOK E all j want tj c (bif want then b else a) ((o :: os).takeWhile fun p => !guardIs ctx p) (p :: rest) with
          | false =>
            rw [hgk, cond_false] at h
            obtain ⟨hgrp, h⟩ := cond_some h rfl
            generalize hgr : (o :: os).takeWhile (fun p => !guardIs ctx p) = grp at hgrp h
            have hos : o :: os = grp ++ p :: rest := by rw [← hgr, ← hdw, List.takeWhile_append_dropWhile]
            simp only [grpEff, Bool.and_eq_true] at hgrp
            obtain ⟨⟨⟨⟨g1, g2⟩, g3⟩, g4⟩, g6⟩ := hgrp
            have hgp : guardIs ctx p = true := by
              have := List.head?_dropWhile_not (fun p => !guardIs ctx p) (o :: os)
              rw [hdw] at this
              simpa using this
            have hcc : c = .tmp tj := by
              cases c with
              | tmp t => rw [Nat.eq_of_beq_eq_true g1]
              | _ => cases g1
            rw [hos] at hs hf hctx hph
            obtain ⟨hs1, hs2, hs12⟩ := hs.append
            obtain ⟨hs3, hsp⟩ := hs2.tail
            have hcB := getB_some hgb
            have hcB' : st'.tm[tj]? = some (.c (.bool cc)) := hsub.opV hcB (by intro e; cases e)
            have htjn : tj ∉ dstsOf grp := fun hm => by rw [mem_memN.2 hm] at g3; cases g3
            have hpd : p.dst ≠ none := hs2.has p (by simp) (noEff_mem g6 p (by simp))
            have hn : noEff E all rest = true := by
              unfold noEff at g6
              simp only [List.all_cons, Bool.and_eq_true] at g6
              exact g6.2
            have hkeepR : ∀ {os : List Oper} {s s' : St}, FRun E all os s s' → ∀ (t : Nat) (y : C), t ∉ dstsOf os → s.tm[t]? = some (.c y) → s'.tm[t]? = some (.c y) := by
              intro os
              induction os with
              | nil => intro s s' h t y _ hy; rw [← show s = s' from h]; exact hy
              | cons q os ihq =>
                intro s s' h t y hd hy
                obtain ⟨s1, h1, h2⟩ := h
                refine ihq h2 t y (fun hm => hd ?_) ?_
                · obtain ⟨q', hq', hqd⟩ := mem_dstsOf.1 hm
                  exact mem_dsts_of (by simp [hq']) hqd
                · have hqt : q.dst ≠ some t := fun e => hd (mem_dsts_of (by simp) e)
                  cases h1 with
                  | loc hl => exact (set_ne hqt).trans hy
                  | eff _ _ hef => exact hef.prov.2.1 t y hqt hy
            -- behind the pick
            have tail : ∀ (s1 s2 : St) (b' : Bool), FRun E all grp st' s2 → opV s2 (bif cc then a else b) = some (.c (.bool b')) → (∀ d, p.dst = some d → Sub { s1 with tm := s1.tm.set d (.c (.bool b')) } (nxt s2 p (.c (.bool b')) [])) →
                runOps E all ctx m rest { s1 with tm := s1.tm.set (dstKey p.dst) (.c (.bool b')) } ρ K = some r → ∃ s s', K s = some r ∧ FRun E all (o :: os) st' s' ∧ Sub s s' := by
              intro s1 s2 b' hr2 hv2 hsub3 h
              have htj2 : opV s2 c = some (.c (.bool cc)) := by
                rw [hcc]
                exact hkeepR hr2 tj _ htjn hcB'
              have hctx2 : CtxOK all (p :: rest) ctx s2 := by
                intro j' w' he
                obtain ⟨t, h1, h2, h3⟩ := hctx j' w' he
                have e : dstsOf (grp ++ p :: rest) = dstsOf grp ++ dstsOf (p :: rest) := by unfold dstsOf; rw [List.filterMap_append]
                rw [e, List.mem_append, not_or] at h3
                exact ⟨t, h1, hkeepR hr2 t _ h3.1 h2, h3.2⟩
              have hstep : FStep E all p s2 (nxt s2 p (.c (.bool b')) []) := .loc (.pick (hctx2.want hgp) hop htj2 hv2 rfl)
              have hfr2 : Fresh s2 (p :: rest) := hr2.fresh hf hs
              have hfr3 := hstep.fresh (hfr2.sub fun q hq => by simp only [List.mem_cons]; exact .inr hq) (fun d hd => (hsp d hd).1) hs3.lt fun d hd => (hsp d hd).2
              cases hd : p.dst with
              | none => exact absurd hd hpd
              | some d =>
                rw [hd] at h
                simp only [dstKey] at h
                have hctx3 : CtxOK all rest ctx (nxt s2 p (.c (.bool b')) []) := by
                  intro j' w' he
                  obtain ⟨t, h1, h2, h3⟩ := hctx2 j' w' he
                  refine ⟨t, h1, ?_, fun hm => h3 ?_⟩
                  · have e1 : (nxt s2 p (.c (.bool b')) []).tm[t]? = s2.tm[t]? := set_ne fun hd' => h3 (mem_dsts_of (by simp) hd')
                    rw [e1]
                    exact h2
                  · obtain ⟨q, hq, hqd⟩ := mem_dstsOf.1 hm
                    exact mem_dsts_of (by simp [hq]) hqd
                obtain ⟨s, s', a1, a2, a3⟩ := ih ctx rest _ _ ρ K r h (hsub3 d hd) hfr3 hs3 hctx3 (.inl hn)
                refine ⟨s, s', a1, ?_, a3⟩
                rw [hos]
                exact hr2.append ⟨_, hstep, a2⟩
            cases hw : cc == want with
            | true =>
              rw [hw] at h
              simp only [cond_true] at h
              have hwc : cc = want := by cases cc <;> cases want <;> first | rfl | cases hw
              have hph1 : noEff E all grp = true ∨ st = st' := by
                rcases hph with hq | hq
                · left
                  unfold noEff at hq ⊢
                  rw [List.all_append, Bool.and_eq_true] at hq
                  exact hq.1
                · exact .inr hq
              obtain ⟨s1, s2, a1, a2, a3⟩ := ih (some (j, want)) grp st st' ρ _ r h hsub (hf.sub fun q hq => by simp [hq]) hs1 (fun j' w' he => by
                cases he
                exact ⟨tj, htj, by rw [← hwc]; exact hcB', htjn⟩) hph1
              obtain ⟨b', hb', a1⟩ := Option.bind_eq_some_iff.1 a1
              refine tail { s1 with tm := undefs s1.tm grp } s2 b' a2 ?_ ?_ a1
              · rw [hwc]
                exact a3.opV (getB_some hb') (by intro e; cases e)
              · intro d hd
                refine ⟨by simp only [nxt, put_len, List.length_set, undefs_len]; exact a3.len, fun t u hu => ?_, fun t u hu k hr => ?_, a3.pin⟩
                · simp only [List.getElem?_set, undefs_len] at hu
                  split at hu
                  · rename_i htd
                    subst htd
                    split at hu
                    · rename_i hlt
                      cases hu
                      refine .inr ?_
                      rw [nxt, hd]
                      exact put_self (by rw [← a3.len]; exact hlt) _
                    · cases hu
                  · rename_i htd
                    rw [undefs_get] at hu
                    split at hu
                    · obtain ⟨_, _, rfl⟩ := Option.map_eq_some_iff.1 hu
                      exact .inl rfl
                    rcases a3.tm t u hu with h1 | h1
                    · exact .inl h1
                    · refine .inr ?_
                      have e1 : (nxt s2 p (.c (.bool b')) []).tm[t]? = s2.tm[t]? := set_ne (by rw [hd]; intro e; cases e; exact htd rfl)
                      rw [e1]
                      exact h1
                · simp only [List.getElem?_set, undefs_len] at hu
                  split at hu
                  · split at hu
                    · cases hu; cases hr
                    · cases hu
                  · rw [undefs_get] at hu
                    split at hu
                    · obtain ⟨_, _, rfl⟩ := Option.map_eq_some_iff.1 hu
                      cases hr
                    · exact a3.hp t u hu k hr
            | false =>
              rw [hw] at h
              simp only [cond_false] at h
              obtain ⟨b', hb', h⟩ := Option.bind_eq_some_iff.1 h
              obtain ⟨s2, h1, h2, h3, h4⟩ := skipRun (E := E) htj hw grp [] (st := st') g4 hcB' (by simp) htjn (by simp) hs1.nd
              refine tail { st with tm := undefs st.tm grp } s2 b' h1 ?_ ?_ h
              · have e : (bif cc then a else b) = bif want then b else a := by cases cc <;> cases want <;> first | rfl | cases hw
                rw [e]
                have h5 := hsub.opV (getB_some hb') (by intro e; cases e)
                cases hy : (bif want then b else a) with
                | tmp t =>
                  rw [hy] at h5 g2
                  simp only [opV] at h5 ⊢
                  rw [h2 t fun hm => by simp only [notTmps, mem_memN.2 hm] at g2; cases g2]
                  exact h5
                | const v => rw [hy] at h5; exact h5
                | global g => rw [hy] at h5; exact h5
                | func f => rw [hy] at h5; exact h5
              · intro d hd
                refine ⟨by simp only [nxt, put_len, List.length_set, undefs_len]; exact hsub.len.trans h4.symm, fun t u hu => ?_, fun t u hu k hr => ?_, fun k hk => (congrFun h3 k).trans (hsub.pin k hk)⟩
                · simp only [List.getElem?_set, undefs_len] at hu
                  split at hu
                  · rename_i htd
                    subst htd
                    split at hu
                    · rename_i hlt
                      cases hu
                      refine .inr ?_
                      rw [nxt, hd]
                      exact put_self (by rw [h4, ← hsub.len]; exact hlt) _
                    · cases hu
                  · rename_i htd
                    rw [undefs_get] at hu
                    split at hu
                    · obtain ⟨_, _, rfl⟩ := Option.map_eq_some_iff.1 hu
                      exact .inl rfl
                    · rename_i htg
                      rcases hsub.tm t u hu with h1 | h1
                      · exact .inl h1
                      · refine .inr ?_
                        have e1 : (nxt s2 p (.c (.bool b')) []).tm[t]? = s2.tm[t]? := set_ne (by rw [hd]; intro e; cases e; exact htd rfl)
                        rw [e1, h2 t htg]
                        exact h1
                · simp only [List.getElem?_set, undefs_len] at hu
                  split at hu
                  · split at hu
                    · cases hu; cases hr
                    · cases hu
                  · rw [undefs_get] at hu
                    split at hu
                    · obtain ⟨_, _, rfl⟩ := Option.map_eq_some_iff.1 hu
                      cases hr
                    · exact (congrFun h3 k).trans (hsub.hp t u hu k hr)
          | true =>
          rw [hgk, cond_true] at h
          have hgrp := hgk
          obtain ⟨b', hb', h⟩ := Option.bind_eq_some_iff.1 h
          generalize hgr : (o :: os).takeWhile (fun p => !guardIs ctx p) = grp at hgrp hb' h
          have hos : o :: os = grp ++ p :: rest := by rw [← hgr, ← hdw, List.takeWhile_append_dropWhile]
          simp only [grpOK, Bool.and_eq_true] at hgrp
          obtain ⟨⟨⟨⟨⟨g1, g2⟩, g3⟩, g4⟩, g5⟩, g6⟩ := hgrp
          have hgp : guardIs ctx p = true := by
            have := List.head?_dropWhile_not (fun p => !guardIs ctx p) (o :: os)
            rw [hdw] at this
            simpa using this
          have hcc : c = .tmp tj := by
            cases c with
            | tmp t => rw [Nat.eq_of_beq_eq_true g1]
            | _ => cases g1
          rw [hos] at hs hf hctx
          obtain ⟨hs1, hs2, hs12⟩ := hs.append
          obtain ⟨hs3, hsp⟩ := hs2.tail
          have hcB := getB_some hgb
          have hcB' : st'.tm[tj]? = some (.c (.bool cc)) := hsub.opV hcB (by intro e; cases e)
          have htjn : tj ∉ dstsOf grp := fun hm => by rw [mem_memN.2 hm] at g3; cases g3
          have hpd : p.dst ≠ none := hs2.has p (by simp) (noEff_mem g6 p (by simp))
          have hgrE : ∀ o ∈ grp, isEff E all o = false := noEff_mem g5
          -- the run behind the guard, or what skips it
          have hrun : ∃ s2, FRun E all grp st' s2 ∧ opV s2 (bif cc then a else b) = some (.c (.bool b')) := by
            cases hw : cc == want with
            | true =>
              rw [hw] at hb'
              simp only [cond_true] at hb'
              have hwc : cc = want := by cases cc <;> cases want <;> first | rfl | cases hw
              obtain ⟨s, s', a1, a2, a3⟩ := ih (some (j, want)) grp st st' Bool _ b' hb' hsub (hf.sub fun q hq => by simp [hq]) hs1 (fun j' w' he => by
                cases he
                exact ⟨tj, htj, by rw [← hwc]; exact hcB', htjn⟩) (.inl g5)
              refine ⟨s', a2, ?_⟩
              rw [hwc]
              exact a3.opV (getB_some a1) (by intro e; cases e)
            | false =>
              rw [hw] at hb'
              simp only [cond_false] at hb'
              obtain ⟨s, h1, h2, h3, h4⟩ := skipRun (E := E) htj hw grp [] (st := st') g4 hcB' (by simp) htjn (by simp) hs1.nd
              refine ⟨s, h1, ?_⟩
              have e : (bif cc then a else b) = bif want then b else a := by cases cc <;> cases want <;> first | rfl | cases hw
              rw [e]
              have h5 := hsub.opV (getB_some hb') (by intro e; cases e)
              cases hy : (bif want then b else a) with
              | tmp t =>
                rw [hy] at h5 g2
                simp only [opV] at h5 ⊢
                rw [h2 t fun hm => by simp only [notTmps, mem_memN.2 hm] at g2; cases g2]
                exact h5
              | const v => rw [hy] at h5; exact h5
              | global g => rw [hy] at h5; exact h5
              | func f => rw [hy] at h5; exact h5
          obtain ⟨s2, hr2, hv2⟩ := hrun
          obtain ⟨f1, f2, f3⟩ := hr2.frame hgrE
          have htj2 : opV s2 c = some (.c (.bool cc)) := by
            rw [hcc]
            exact (f2 tj htjn).trans hcB'
          have hctx2 : CtxOK all (p :: rest) ctx s2 := by
            intro j' w' he
            obtain ⟨t, h1, h2, h3⟩ := hctx j' w' he
            have e : dstsOf (grp ++ p :: rest) = dstsOf grp ++ dstsOf (p :: rest) := by unfold dstsOf; rw [List.filterMap_append]
            rw [e, List.mem_append, not_or] at h3
            exact ⟨t, h1, (f2 t h3.1).trans h2, h3.2⟩
          have hstep : FStep E all p s2 (nxt s2 p (.c (.bool b')) []) := .loc (.pick (hctx2.want hgp) hop htj2 hv2 rfl)
          have hfr2 : Fresh s2 (p :: rest) := hr2.fresh hf hs
          have hfr3 := hstep.fresh (hfr2.sub fun q hq => by simp only [List.mem_cons]; exact .inr hq) (fun d hd => (hsp d hd).1) hs3.lt fun d hd => (hsp d hd).2
          cases hd : p.dst with
          | none => exact absurd hd hpd
          | some d =>
            rw [hd] at h
            simp only [dstKey] at h
            have hsub3 : Sub { st with tm := (undefs st.tm grp).set d (.c (.bool b')) } (nxt s2 p (.c (.bool b')) []) := by
              refine ⟨by simp only [nxt, put_len, List.length_set, undefs_len, f1]; exact hsub.len, fun t u hu => ?_, fun t u hu k hr => ?_, fun k hk => (hr2.pins hgrE k hk).trans (hsub.pin k hk)⟩
              · simp only [List.getElem?_set, undefs_len] at hu
                split at hu
                · rename_i htd
                  subst htd
                  split at hu
                  · rename_i hlt
                    cases hu
                    refine .inr ?_
                    rw [nxt, hd]
                    exact put_self (by rw [f1, ← hsub.len]; exact hlt) _
                  · cases hu
                · rename_i htd
                  rw [undefs_get] at hu
                  split at hu
                  · obtain ⟨_, _, rfl⟩ := Option.map_eq_some_iff.1 hu
                    exact .inl rfl
                  · rename_i htg
                    rcases hsub.tm t u hu with h1 | h1
                    · exact .inl h1
                    · refine .inr ?_
                      have e1 : (nxt s2 p (.c (.bool b')) []).tm[t]? = s2.tm[t]? := set_ne (by rw [hd]; intro e; cases e; exact htd rfl)
                      rw [e1, f2 t htg]
                      exact h1
              · have e0 : (nxt s2 p (.c (.bool b')) []).hp = s2.hp := rfl
                rw [e0]
                simp only [List.getElem?_set, undefs_len] at hu
                split at hu
                · split at hu
                  · cases hu; cases hr
                  · cases hu
                · rw [undefs_get] at hu
                  split at hu
                  · obtain ⟨_, _, rfl⟩ := Option.map_eq_some_iff.1 hu
                    cases hr
                  · rename_i htg
                    have h6 : u ≠ .undef := fun e => by rw [e] at hr; cases hr
                    have h7 := (hsub.tm t u hu).resolve_left h6
                    rw [f3 k (fun q hq hqm hqd => not_key (hf.one (by simp [hq])) hqm hqd h7 hr) (fun q hq => hs1.has q hq)]
                    exact hsub.hp t u hu k hr
            have hctx3 : CtxOK all rest ctx (nxt s2 p (.c (.bool b')) []) := by
              intro j' w' he
              obtain ⟨t, h1, h2, h3⟩ := hctx2 j' w' he
              refine ⟨t, h1, ?_, fun hm => h3 ?_⟩
              · have e1 : (nxt s2 p (.c (.bool b')) []).tm[t]? = s2.tm[t]? := set_ne fun hd' => h3 (mem_dsts_of (by simp) hd')
                rw [e1]
                exact h2
              · obtain ⟨q, hq, hqd⟩ := mem_dstsOf.1 hm
                exact mem_dsts_of (by simp [hq]) hqd
            have hn : noEff E all rest = true := by
              unfold noEff at g6
              simp only [List.all_cons, Bool.and_eq_true] at g6
              exact g6.2
            obtain ⟨s, s', a1, a2, a3⟩ := ih ctx rest _ _ ρ K r h hsub3 hfr3 hs3 hctx3 (.inl hn)
            refine ⟨s, s', a1, ?_, a3⟩
            rw [hos]
            exact hr2.append ⟨_, hstep, a2⟩
end
end Go.Vi
/-
  Vi: joins; what the interpreter says of code comes true.
-/
set_option linter.unusedVariables false
set_option linter.unusedSimpArgs false
namespace Go.Vi
open Op
section
variable {P : Program} {E : Env} {all : List Oper} {o p q : Oper} {x : Cx} {γ γ' : Gam} {w : World} {a : Act} {st st' s1 s2 : St}
variable {ops : Array Oper} {Q : Exit → Act → World → Prop} {H H' : Heap} {ρ : Type} {K k : St → Option ρ} {r : ρ}
theorem nodupB_spec : ∀ {l : List Nat}, nodupB l = true → l.Nodup
  | [], _ => List.nodup_nil
  | d :: l, h => by
    simp only [nodupB, Bool.and_eq_true, Bool.not_eq_true'] at h
    refine List.nodup_cons.2 ⟨fun hm => ?_, nodupB_spec h.2⟩
    rw [mem_memN.2 hm] at h
    cases h.1
theorem flatOK_spec (h : flatOK E all = true) : Ssa E all all := by
  simp only [flatOK, Bool.and_eq_true] at h
  obtain ⟨⟨h1, h2⟩, h3⟩ := h
  refine ⟨nodupB_spec h1, fun d hd => Nat.le_of_ble_eq_true (List.all_eq_true.1 h2 d hd), fun o ho he hd => ?_⟩
  have := List.all_eq_true.1 h3 o ho
  rw [he, hd] at this
  cases this
theorem cds_mem {k : Nat} : ∀ {cds : List CD}, cdsRef k cds = true → k ∈ cds.flatMap cdKs
  | [], h => by cases h
  | c :: cds, h => by
    simp only [cdsRef, Bool.or_eq_true] at h
    rw [List.flatMap_cons, List.mem_append]
    refine h.imp (fun h => ?_) cds_mem
    cases c with
    | b j => exact List.mem_singleton.2 (Nat.eq_of_beq_eq_true h).symm
    | s => cases h
    | v g ks => exact memN_of h
theorem keys1_mem {k : Nat} {v : V} (h : refs1 k v = true) : k ∈ keys1 v := by
  cases v with
  | fptr f cds => exact cds_mem h
  | _ => first | (cases h; done) | exact List.mem_singleton.2 (Nat.eq_of_beq_eq_true h).symm
theorem keysL_mem {k : Nat} : ∀ {vs : List V}, refsAny k vs = true → k ∈ keysL vs
  | [], h => by cases h
  | v :: vs, h => by
    simp only [refsAny, Bool.or_eq_true] at h
    simp only [keysL, List.mem_append]
    exact h.imp keys1_mem keysL_mem
theorem keysV_mem {k : Nat} {v : V} (h : refs k v = true) : k ∈ keysV v := by
  cases v with
  | tup vs => exact keysL_mem h
  | fn f vs => exact keysL_mem h
  | ptr j off => exact keys1_mem (v := .ptr j off) h
  | own j w t => exact keys1_mem (v := .own j w t) h
  | eptr j w i off => exact keys1_mem (v := .eptr j w i off) h
  | aptr j off n e i => exact keys1_mem (v := .aptr j off n e i) h
  | map j => exact keys1_mem (v := .map j) h
  | fptr f cds => exact keys1_mem (v := .fptr f cds) h
  | _ => cases h
theorem key_mod (d j : Nat) (h : d < 10000) : (d + 10000 * j) % 10000 = d := by omega
theorem freshB_spec (h : freshB (makers all) st.tm = true) (hs : Ssa E all all) : Fresh st all := by
  intro q hq hmk d hd j t u hu
  cases hr : refs (d + 10000 * j) u with
  | false => rfl
  | true =>
    exfalso
    have h1 := List.all_eq_true.1 h u (List.mem_of_getElem? hu)
    have h2 := List.all_eq_true.1 h1 _ (keysV_mem hr)
    have hm := mem_dsts_of hq hd
    have hm2 : d ∈ makers all := mem_dsts_of (List.mem_filter.2 ⟨hq, by rw [hmk]; rfl⟩) hd
    have h3 : @LT.lt Nat _ d 10000 := Nat.lt_trans (hs.lt d hm) (by decide)
    rw [key_mod d j h3, mem_memN.2 hm2] at h2
    cases h2
theorem fm_range (ops : Array Oper) : (List.range ops.size).filterMap (fun i => ops.toList[i]?) = ops.toList := by
  have key : ∀ (l : List Oper) (k : Nat), (∀ i o, l[i]? = some o → ops.toList[k + i]? = some o) → (List.range' k l.length).filterMap (fun i => ops.toList[i]?) = l := by
    intro l
    induction l with
    | nil => intro k _; rfl
    | cons o l ih =>
      intro k h
      have h0 := h 0 o (by simp)
      rw [List.length_cons, List.range'_succ, List.filterMap_cons]
      simp only [Nat.add_zero] at h0
      rw [h0]
      simp only
      rw [ih (k + 1) fun i o' hi => by
        have := h (i + 1) o' (by simpa using hi)
        rwa [show k + (i + 1) = k + 1 + i by omega] at this]
  have := key ops.toList 0 (fun i o h => by rw [Nat.zero_add]; exact h)
  rw [← List.range_eq_range', Array.length_toList] at this
  exact this
theorem runOps_plain (hT : TabOK P E.T) (hE : EqsOK P E.T) (hphi : EnvOK P E) : ∀ (m : Nat) (os : List Oper) {st : St} {γ : Gam} {a : Act} {w : World}, (∀ o ∈ os, o.guard = none) → runOps E ops.toList none m os st ρ K = some r → RS x γ st a w →
    (∀ st' γ' a' w', K st' = some r → RS x γ' st' a' w' → Q .normal a' w') → wpList P ops Q os a w
  | 0, os, st, γ, a, w, _, h, _, _ => by cases h
  | m + 1, [], st, γ, a, w, _, h, hr, hQ => hQ st γ a w h hr
  | m + 1, o :: os, st, γ, a, w, hg, h, hr, hQ => by
    have hgo := hg o (by simp)
    rw [runOps] at h
    have hgi : guardIs none o = true := by simp [guardIs, hgo]
    rw [hgi] at h
    simp only [cond_true] at h
    obtain ⟨s, hs, hop⟩ := evalOp_eff hT hE hphi h hr
    refine wpList_plain hgo fun K' hK' => ?_
    refine OpTo.wp (hop.mono fun u w' ⟨γ', hr'⟩ => hK' _ _ ?_)
    exact runOps_plain hT hE hphi m os (fun q hq => hg q (by simp [hq])) hs hr' hQ
/-- A region. -/
theorem region_sound (hT : TabOK P E.T) (hE : EqsOK P E.T) (hphi : EnvOK P E) (hpar : EnvPar E) (hm : P.follows .mixedOrders = true) {id : Nat} {draw : Bool}
    (h : (bif regOK E ops.toList draw st then runOps E ops.toList none (ops.toList.length + 1) ops.toList st ρ k else none) = some r) (hr : RS x γ st a w)
    (hQ : ∀ st' γ' a' w', k st' = some r → RS x γ' st' a' w' → Q .normal a' w') : (Code.region id ops draw).wp P Q a w := by
  obtain ⟨hok, hrun⟩ := cond_some h rfl
  clear h
  have flat : flatOK E ops.toList = true → freshB (makers ops.toList) st.tm = true → ∃ s s', k s = some r ∧ FRun E ops.toList ops.toList st s' ∧ Sub s s' ∧ Ssa E ops.toList ops.toList ∧ Fresh st ops.toList := by
    intro hf hfr
    have hs := flatOK_spec hf
    have hfs := freshB_spec hfr hs
    obtain ⟨s, s', h1, h2, h3⟩ := runOps_flat hpar _ none ops.toList st st ρ k r hrun (Sub.refl st) hfs hs (fun j want he => by cases he) (.inr rfl)
    exact ⟨s, s', h1, h2, h3, hs, hfs⟩
  have fin : ∀ {s s' : St}, k s = some r → Sub s s' → ∀ γ' a' w', RS x γ' s' a' w' → Q .normal a' w' := by
    intro s s' hk hsub γ' a' w' hr'
    obtain ⟨γ2, hr2⟩ := hr'.sub hsub
    exact hQ s γ2 a' w' hk hr2
  unfold regOK at hok
  cases draw with
  | true =>
    simp only [cond_true, Bool.and_eq_true] at hok
    obtain ⟨⟨hd, hf⟩, hfr⟩ := hok
    obtain ⟨Z, hd, hzg, hJ⟩ : ∃ Z, drawOK E ops.toList Z = true ∧ (∀ q ∈ ops.toList, ZGood E ops.toList Z q) ∧ JZ Z st := by
      rw [Bool.or_eq_true, Bool.and_eq_true] at hd
      rcases hd with hd | ⟨hz, hd⟩
      · exact ⟨([], []), hd, fun _ _ => .inl rfl, fun t ht => (by cases ht), fun x hx => (by cases hx)⟩
      · refine ⟨_, hd, fun q hq => .inr ?_, fun t ht u hu k => ?_, fun x hx u hu k hk => ?_⟩
        · simp only [zOK, Bool.and_eq_true] at hz
          have h1 := List.all_eq_true.1 hz.2 q hq
          rw [Bool.and_eq_true] at h1
          refine ⟨fun d hdd => ⟨fun hdm => ?_, fun x hx e => ?_⟩, fun he => ?_⟩
          · have h2 := h1.1
            rw [hdd] at h2
            simp only [mem_memN.2 hdm, Bool.not_true, Bool.false_or] at h2
            exact h2
          · have h2 := List.all_eq_true.1 hz.1.2 x hx
            rw [Bool.and_eq_true, e, mem_memN.2 (mem_dstsOf.2 ⟨q, hq, hdd⟩)] at h2
            cases h2.1
          · have h2 := h1.2
            simpa [he] using h2
        · simp only [zOK, Bool.and_eq_true] at hz
          have h1 := List.all_eq_true.1 hz.1.1 t ht
          cases hr : refs k u with
          | false => rfl
          | true =>
            have h2 := keysV_mem hr
            have h3 : st.tm.getD t .undef = u := by simp [List.getD, hu]
            rw [h3, List.isEmpty_iff] at h1
            rw [h1] at h2
            cases h2
        · simp only [zOK, Bool.and_eq_true] at hz
          have h1 := List.all_eq_true.1 hz.1.2 x hx
          rw [Bool.and_eq_true] at h1
          have h3 : st.tm.getD x.1 .undef = u := by simp [List.getD, hu]
          rw [h3] at h1
          exact mem_memN.1 (List.all_eq_true.1 h1.2 k (keysV_mem hk))
    obtain ⟨s, s', h1, h2, h3, h4, h5⟩ := flat hf hfr
    refine wp_region_any hm ?_
    have hrem : rem (Array.replicate ops.size false) ops.size = List.range ops.size := by
      unfold rem
      refine List.filter_eq_self.2 fun i hi => ?_
      have := List.mem_range.1 hi
      simp [Array.getD, this]
    have hfm : (rem (Array.replicate ops.size false) ops.size).filterMap (fun i => ops.toList[i]?) = ops.toList := by rw [hrem]; exact fm_range ops
    refine FRun.wpAny (st := st) (st' := s') hT hE hphi hpar hd hzg ops.size _ (by simp) (by rw [hrem]; simp) ?_ (by rw [hfm]; exact h2) (hr.grows (Grows.drew w)) (by rw [hfm]; exact h5) (by rw [hfm]; exact h4) hJ (fin h1 h3)
    intro j hj hl
    simp [Array.getD, hj] at hl
  | false =>
    simp only [cond_false, Bool.or_eq_true] at hok
    rcases hok with hok | hok
    · refine wp_region_list ?_
      refine runOps_plain hT hE hphi _ ops.toList (fun o ho => ?_) hrun hr hQ
      have := List.all_eq_true.1 hok o ho
      simpa using this
    · rw [Bool.and_eq_true] at hok
      obtain ⟨s, s', h1, h2, h3, h4, h5⟩ := flat hok.1 hok.2
      refine wp_region ?_
      refine FRun.wpOps (st := st) (st' := s') hT hE hphi (List.range ops.size) (fun i hi => List.mem_range.1 hi) (by rw [fm_range]; exact h2) hr (by rw [fm_range]; exact h5) (by rw [fm_range]; exact h4) (fin h1 h3)
/-! ### Joins -/
/-- Which old key a new name stands for. -/
def oldKey (s : List (Nat × Nat)) (j : Nat) : Option Nat := look (s.map fun p => (p.2, p.1)) j
theorem look_in {α : Type} : ∀ {s : List (Nat × α)} {k : Nat} {y : α}, look s k = some y → (k, y) ∈ s
  | [], k, y, h => by cases h
  | (k', v) :: s, k, y, h => by
    simp only [look] at h
    cases hb : Nat.beq k' k with
    | true =>
      rw [hb] at h
      cases h
      rw [Nat.eq_of_beq_eq_true hb]
      simp
    | false =>
      rw [hb] at h
      have := look_in h
      simp [this]
theorem look_none {α : Type} : ∀ {s : List (Nat × α)} {k : Nat}, look s k = none → k ∉ s.map (·.1)
  | [], k, _ => by simp
  | (k', v) :: s, k, h => by
    simp only [look] at h
    cases hb : Nat.beq k' k with
    | true => rw [hb] at h; cases h
    | false =>
      rw [hb] at h
      have h1 := look_none h
      simp only [List.map_cons, List.mem_cons, not_or]
      refine ⟨fun e => ?_, h1⟩
      rw [e, Nat.beq_refl] at hb
      cases hb
theorem in_look {α : Type} : ∀ {s : List (Nat × α)} {k : Nat} {y : α}, (s.map (·.1)).Nodup → (k, y) ∈ s → look s k = some y
  | [], k, y, _, h => by cases h
  | (k', v) :: s, k, y, hn, h => by
    obtain ⟨h1, h2⟩ := List.nodup_cons.1 hn
    simp only [look]
    rcases List.mem_cons.1 h with h | h
    · cases h
      rw [Nat.beq_refl]
      rfl
    · have hne : k' ≠ k := fun e => h1 (by
        simp only
        rw [e]
        exact List.mem_map.2 ⟨(k, y), h, rfl⟩)
      rw [beq_false hne]
      exact in_look h2 h
/-- New names are one each; what a caller handed in keeps its own. -/
structure NamesOK (s : List (Nat × Nat)) : Prop where
  fst : (s.map (·.1)).Nodup
  snd : (s.map (·.2)).Nodup
  lo : ∀ p ∈ s, oslLo ≤ p.1 ∨ oslLo ≤ p.2 → p.1 = p.2
theorem nodup_snoc {α : Type} {l : List α} {y : α} (h : l.Nodup) (hy : y ∉ l) : (l ++ [y]).Nodup := by
  rw [List.nodup_append]
  refine ⟨h, by simp, fun q hq q' hq' e => ?_⟩
  rw [List.mem_singleton.1 hq'] at e
  exact hy (e ▸ hq)
theorem NamesOK.add {s : List (Nat × Nat)} (h : NamesOK s) (k new : Nat) : NamesOK (addName s k new) := by
  unfold addName
  cases hl : look s k with
  | some y => exact h
  | none =>
    simp only
    have hk := look_none hl
    cases hp : Nat.ble oslLo k with
    | true =>
      simp only [cond_true]
      have hlo : oslLo ≤ k := Nat.le_of_ble_eq_true hp
      refine ⟨by rw [List.map_append]; exact nodup_snoc h.fst hk, ?_, fun p hp => ?_⟩
      · rw [List.map_append]
        refine nodup_snoc h.snd fun hm => ?_
        obtain ⟨p, hpm, hpk⟩ := List.mem_map.1 hm
        have := h.lo p hpm (.inr (by rw [hpk]; exact hlo))
        exact hk (List.mem_map.2 ⟨p, hpm, this.trans hpk⟩)
      · rcases List.mem_append.1 hp with hp | hp
        · exact h.lo p hp
        · rw [List.mem_singleton.1 hp]
          exact fun _ => rfl
    | false =>
      simp only [cond_false]
      cases hn : Nat.ble oslLo new || s.any (fun p => Nat.beq p.2 new) with
      | true => exact h
      | false =>
        rw [Bool.or_eq_false_iff] at hn
        simp only [cond_false]
        have hk' : ¬ oslLo ≤ k := fun e => by rw [Nat.ble_eq_true_of_le e] at hp; cases hp
        have hn' : ¬ oslLo ≤ new := fun e => by rw [Nat.ble_eq_true_of_le e] at hn; cases hn.1
        refine ⟨by rw [List.map_append]; exact nodup_snoc h.fst hk, ?_, fun p hp => ?_⟩
        · rw [List.map_append]
          refine nodup_snoc h.snd fun hm => ?_
          obtain ⟨p, hpm, hpk⟩ := List.mem_map.1 hm
          have := List.any_eq_false.1 hn.2 p hpm
          rw [hpk, Nat.beq_refl] at this
          exact this rfl
        · rcases List.mem_append.1 hp with hp | hp
          · exact h.lo p hp
          · rw [List.mem_singleton.1 hp]
            rintro (h1 | h1)
            · exact absurd h1 hk'
            · exact absurd h1 hn'
theorem NamesOK.adds : ∀ {l : List Nat} {s : List (Nat × Nat)} {new : Nat}, NamesOK s → NamesOK (addNames s new l)
  | [], _, _, h => h
  | k :: l, s, new, h => NamesOK.adds (l := l) (h.add k new)
theorem names_ok (tm : List V) : ∀ (live : List Nat) (s : List (Nat × Nat)), NamesOK s → NamesOK (names tm live s)
  | [], s, h => h
  | t :: ts, s, h => by
    rw [names]
    refine names_ok tm ts _ ?_
    cases Nat.ble oslLo t with
    | true => exact h.add t t
    | false =>
      simp only [cond_false]
      split
      · exact NamesOK.adds h
      · exact h
theorem NamesOK.filter {s : List (Nat × Nat)} (h : NamesOK s) (f : Nat × Nat → Bool) : NamesOK (s.filter f) :=
  ⟨h.fst.sublist (List.filter_sublist.map _), h.snd.sublist (List.filter_sublist.map _), fun p hp => h.lo p (List.mem_filter.1 hp).1⟩
theorem newHeap_get {hp : Heap} {j k : Nat} {ob : O} : ∀ (s : List (Nat × Nat)), (∀ p ∈ s, p.2 = j → p.1 = k) → (k, j) ∈ s → hp k = some ob → newHeap hp s j = some (looseO ob)
  | [], _, h, _ => by cases h
  | (k', t) :: s, hu, h, hk => by
    by_cases ht : t = j
    · subst ht
      have : k' = k := hu (k', t) (by simp) rfl
      subst this
      simp only [newHeap, hk]
      simp [upd]
    · have h' : (k, j) ∈ s := by
        rcases List.mem_cons.1 h with h | h
        · cases h; exact absurd rfl ht
        · exact h
      have ih := newHeap_get s (fun p hp => hu p (by simp [hp])) h' hk
      simp only [newHeap]
      cases hp k' with
      | some o' =>
        simp only
        rw [upd_ne _ _ fun e => ht e.symm]
        exact ih
      | none => exact ih
theorem newHeap_ne {hp : Heap} {j : Nat} : ∀ (s : List (Nat × Nat)), newHeap hp s j ≠ none → ∃ p ∈ s, p.2 = j ∧ hp p.1 ≠ none
  | [], h => absurd rfl h
  | (k', t) :: s, h => by
    simp only [newHeap] at h
    cases hk : hp k' with
    | none =>
      rw [hk] at h
      obtain ⟨p, hp', h1, h2⟩ := newHeap_ne s h
      exact ⟨p, by simp [hp'], h1, h2⟩
    | some o' =>
      rw [hk] at h
      simp only at h
      by_cases ht : j = t
      · exact ⟨(k', t), by simp, ht.symm, by rw [hk]; simp⟩
      · rw [upd_ne _ _ ht] at h
        obtain ⟨p, hp', h1, h2⟩ := newHeap_ne s h
        exact ⟨p, by simp [hp'], h1, h2⟩
theorem normTm_get (s : List (Nat × Nat)) (live : List Nat) : ∀ (tm : List V) (i t : Nat), (normTm s live tm i)[t]? = (tm[t]?).map fun v => bif live.any (Nat.beq (i + t)) then ren s v else .undef
  | [], i, t => by simp [normTm]
  | v :: tm, i, 0 => by simp [normTm]
  | v :: tm, i, t + 1 => by
    simp only [normTm, List.getElem?_cons_succ]
    rw [normTm_get s live tm (i + 1) t]
    simp only [show i + 1 + t = i + (t + 1) by omega]
theorem normTm_len (s : List (Nat × Nat)) (live : List Nat) : ∀ (tm : List V) (i : Nat), (normTm s live tm i).length = tm.length
  | [], _ => rfl
  | v :: tm, i => by simp [normTm, normTm_len s live tm (i + 1)]
theorem CR.loose {A : Nat → Prop} {c : C} {v : Value} (h : CR w A c v) : CR w A (Vi.loose c) v := by
  cases c with
  | sl e xs t =>
    obtain ⟨a, cap, h1, h2, h3, h4⟩ := h
    exact ⟨a, cap, h1, h2, by simp, h4⟩
  | _ => exact h
theorem All2.loose {A : Nat → Prop} : ∀ {cs : List C} {vs : List Value}, All2 (CR w A) cs vs → All2 (CR w A) (cs.map Vi.loose) vs
  | [], [], _ => trivial
  | _ :: _, _ :: _, h => ⟨CR.loose h.1, All2.loose h.2⟩
  | [], _ :: _, h => h.elim
  | _ :: _, [], h => h.elim
theorem objR.loose {A : Nat → Prop} : ∀ {ob : O} {i : Info}, objR w A ob i → objR w A (looseO ob) i
  | .box _, .at b c, ⟨cur, et, h1, h2⟩ => ⟨cur, et, h1, All2.loose h2⟩
  | .box _, .emp, h => h.elim
  | .arr _ _ _, _, h => h
  | .mp _ _ _, _, h => h
  | .fbox, _, h => h
  | .iter _ _, _, h => h
theorem looseO_box {ob : O} {cs : List C} (h : looseO ob = .box cs) : ∃ cs0, ob = .box cs0 ∧ cs = cs0.map Vi.loose := by
  cases ob with
  | box cs0 => cases h; exact ⟨cs0, rfl, rfl⟩
  | _ => cases h
theorem loose_osl {cs : List C} {off : Nat} (h : (cs.map Vi.loose)[off]? = some C.osl) : cs[off]? = some C.osl := by
  rw [List.getElem?_map, Option.map_eq_some_iff] at h
  obtain ⟨c, h1, h2⟩ := h
  cases c <;> cases h2
  exact h1
theorem OwnSl.loose {i : Info} {n len : Nat} {nilE t : Bool} {win : Option (Nat × Nat)} {v : Value} (h : OwnSl i n len nilE win t v) : OwnSl i n len nilE win false v := by
  cases i with
  | emp => exact h
  | «at» b c =>
    cases win with
    | none => exact ⟨h.1, h.2.1, by simp⟩
    | some p =>
      obtain ⟨p, l⟩ := p
      obtain ⟨o, cap, h1, h2, h3, h4, h5, h6, h7⟩ := h
      exact ⟨o, cap, h1, h2, h3, h4, by simp, h6, h7⟩
/-- The state at a join is true if the state before it is. -/
theorem RS.norm (hr : RS x γ st a w) (live : List Nat) : ∃ γ', RS x γ' (Vi.norm live st) a w := by
  generalize hs : names1 st.hp st.tm live = s
  have hok : NamesOK s := hs ▸ (names_ok st.tm live [] ⟨List.nodup_nil, List.nodup_nil, by simp⟩).filter _
  have hnm : ∀ p ∈ s, okName st.hp p = true := fun p hp => (List.mem_filter.1 (hs ▸ hp : p ∈ names1 st.hp st.tm live)).2
  have hsw : ((s.map fun p => (p.2, p.1)).map (·.1)).Nodup := by
    rw [List.map_map]
    exact hok.snd
  have hold : ∀ k j, look s k = some j → oldKey s j = some k := fun k j h => in_look hsw (List.mem_map.2 ⟨(k, j), look_in h, rfl⟩)
  have hmem : ∀ k j, oldKey s j = some k → (k, j) ∈ s := by
    intro k j h
    obtain ⟨p, hp, he⟩ := List.mem_map.1 (look_in h)
    cases he
    exact hp
  have hold' : ∀ k j, oldKey s j = some k → look s k = some j := fun k j h => in_look hok.fst (hmem k j h)
  let γ' : Gam := fun j => (oldKey s j).bind γ
  let H' : Heap := newHeap st.hp s
  have hγ : ∀ j i, γ' j = some i → ∃ k, oldKey s j = some k ∧ γ k = some i := fun j i h => Option.bind_eq_some_iff.1 h
  have hH : ∀ j k ob, oldKey s j = some k → st.hp k = some ob → H' j = some (looseO ob) := by
    intro j k ob h hk
    refine newHeap_get s (fun p hp hpj => ?_) (hmem k j h) hk
    have h1 : oldKey s j = some p.1 := in_look hsw (List.mem_map.2 ⟨p, hp, by rw [← hpj]⟩)
    rw [h] at h1
    cases h1
    rfl
  have hav : ∀ b, Av x γ w b → Av x γ' w b ∧ w.heap[b]? = w.heap[b]? := fun b hb => Av.del (fun k i hk => by
    obtain ⟨k', _, h⟩ := hγ k i hk
    exact ⟨k', h⟩) b hb
  have hnorm : Vi.norm live st = { tm := normTm s live st.tm 0, hp := H' } := by simp only [Vi.norm, hs, H']
  rw [hnorm]
  refine ⟨γ', ⟨⟨hr.inv.size, hr.inv.os, hr.inv.tape, hr.inv.output, hr.inv.blk, ?_, ?_, ?_, ?pin, ?lnk⟩, by rw [normTm_len]; exact hr.len, ?_, hr.nod⟩⟩
  case lnk =>
    intro j cs off b c ob h1 h2 h3 h4
    obtain ⟨k, hk1, hk2⟩ := hγ j _ h3
    obtain ⟨ob0, hk3, _⟩ := hr.inv.own k _ hk2
    have hk4 := hH j k ob0 hk1 hk3
    rw [show H' j = some (.box cs) from h1] at hk4
    obtain ⟨cs0, rfl, rfl⟩ := looseO_box (Option.some.inj hk4).symm
    replace h2 := loose_osl h2
    have hkj : k = j := by
      have h5 := hnm _ (hmem k j hk1)
      unfold okName at h5
      cases hb : Nat.beq k j with
      | true => exact Nat.eq_of_beq_eq_true hb
      | false =>
        simp only [hb, cond_false, hk3] at h5
        exact absurd h2 (noOsl_spec h5 off)
    subst hkj
    obtain ⟨p, hpm, g1, g2⟩ := newHeap_ne (hp := st.hp) s (j := hk k off) (by rw [show newHeap st.hp s (hk k off) = some ob from h4]; simp)
    have g3 := hok.lo p hpm (.inr (by rw [g1]; exact hk_lo k off))
    have g4 : (hk k off, hk k off) ∈ s := by
      have : p = (hk k off, hk k off) := by
        cases p
        simp only at g1 g3
        subst g1
        rw [g3]
      rw [← this]
      exact hpm
    have g5 := hold _ _ (in_look hok.fst g4)
    rw [g3.trans g1] at g2
    cases hh : st.hp (hk k off) with
    | none => exact absurd hh g2
    | some ob' =>
      obtain ⟨i, e1, e2⟩ := hr.inv.lnk k _ off b c ob' hk3 h2 hk2 hh
      exact by
        obtain ⟨cur, et, fz, u, e, xs, nilE, f1, f2, f3, f4⟩ := e2
        rw [hh] at f3
        cases f3
        exact ⟨i, by simp only [γ', g5, Option.bind_some]; exact e1, cur, et, fz, u, e, xs, nilE, f1, f2, hH _ _ _ g5 hh, f4⟩
  case pin =>
    intro k i hp hHk
    have hlo := Nat.le_trans osl_pin (x.pinlo k i hp)
    obtain ⟨p, hpm, h1, h2⟩ := newHeap_ne s hHk
    have h3 := hok.lo p hpm (.inr (by rw [h1]; exact hlo))
    have h4 : (k, k) ∈ s := by
      have : p = (k, k) := by
        cases p
        simp only at h1 h3
        subst h1
        rw [h3]
      rw [← this]
      exact hpm
    rw [h3.trans h1] at h2
    simp only [γ', hold k k (in_look hok.fst h4), Option.bind_some]
    exact hr.inv.pin k i hp h2
  · intro j i hj
    obtain ⟨k, h1, h2⟩ := hγ j i hj
    obtain ⟨ob, h3, h4⟩ := hr.inv.own k i h2
    exact ⟨_, hH j k ob h1 h3, objR.loose (objR.mono hav ob i (fun _ _ _ => rfl) h4)⟩
  · intro j b c hj
    obtain ⟨k, h1, h2⟩ := hγ j _ hj
    exact hr.inv.rng k b c h2
  · intro j j' b c c' hj hj'
    obtain ⟨k, h1, h2⟩ := hγ j _ hj
    obtain ⟨k', h1', h2'⟩ := hγ j' _ hj'
    have := hr.inv.inj k k' b c c' h2 h2'
    subst this
    have e1 := hold' k j h1
    have e2 := hold' k j' h1'
    rw [e1] at e2
    cases e2
    rfl
  · intro t v hv
    rw [normTm_get, Option.map_eq_some_iff] at hv
    obtain ⟨y, hy, hyv⟩ := hv
    cases hl : live.any (Nat.beq (0 + t)) with
    | false =>
      rw [hl] at hyv
      subst hyv
      trivial
    | true =>
      rw [hl] at hyv
      simp only [cond_true] at hyv
      have hVR := VR.mono hav y _ (hr.tm t y hy)
      have one : ∀ (y : V) (u : Value), VR1 γ w (Av x γ' w) st.hp y u → VR1 γ' w (Av x γ' w) H' (ren1 s y) u := by
        intro y u h
        cases y with
        | ptr k off =>
          simp only [ren1]
          split
          · rename_i j hj
            obtain ⟨b, c, h1, h2⟩ := h
            exact ⟨b, c, by simp only [γ', hold k j hj, Option.bind_some]; exact h1, h2⟩
          · trivial
        | own k win t =>
          simp only [ren1]
          split
          · rename_i j hj
            obtain ⟨i, e, xs, nilE, h1, h2, h3⟩ := h
            exact ⟨i, e, xs, nilE, by simp only [γ', hold k j hj, Option.bind_some]; exact h1, hH j k _ (hold k j hj) h2, OwnSl.loose h3⟩
          · trivial
        | map k =>
          simp only [ren1]
          split
          · rename_i j hj
            obtain ⟨b, c, h1, h2⟩ := h
            exact ⟨b, c, by simp only [γ', hold k j hj, Option.bind_some]; exact h1, h2⟩
          · trivial
        | c y => exact CR.loose h
        | agg cs =>
          obtain ⟨vs, h1, h2⟩ := h
          exact ⟨vs, h1, All2.loose h2⟩
        | iptr cs =>
          obtain ⟨b, o, cur, et, fz, h1, h2, h3, h4, h5⟩ := h
          refine ⟨b, o, cur, et, fz, h1, h2, h3, by simpa using h4, ?_⟩
          rw [List.length_map]
          exact All2.loose h5
        | fptr f cds =>
          simp only [ren1]
          split
          · rename_i l hl
            obtain ⟨b, us, h1, h2, h3⟩ := h
            refine ⟨b, us, h1, h2, ?_⟩
            have ptrs : ∀ (ks l : List Nat) (us : List Value), renKs s ks = some l → All2 (PtrR γ) ks us → All2 (PtrR γ') l us := by
              intro ks
              induction ks with
              | nil => intro l us h h'; cases h; cases us <;> first | trivial | exact h'.elim
              | cons k ks ih =>
                intro l us h h'
                simp only [renKs] at h
                split at h
                · rename_i j l' hj hl'
                  cases h
                  cases us with
                  | nil => exact h'.elim
                  | cons u us =>
                    obtain ⟨b, c, e1, e2⟩ := h'.1
                    exact ⟨⟨b, c, by simp only [γ', hold k j hj, Option.bind_some]; exact e1, e2⟩, ih l' us hl' h'.2⟩
                · cases h
            clear h1 h2
            induction cds generalizing l us with
            | nil => cases hl; cases us <;> first | trivial | exact h3.elim
            | cons c cds ih =>
              simp only [renCds] at hl
              split at hl
              · rename_i c' l' hc hl'
                cases hl
                cases us with
                | nil => exact h3.elim
                | cons u us =>
                  refine ⟨?_, ih l' hl' us h3.2⟩
                  have h4 := h3.1
                  cases c with
                  | b k =>
                    simp only [renCd, Option.map_eq_some_iff] at hc
                    obtain ⟨j, hj, rfl⟩ := hc
                    obtain ⟨b, c, e1, e2⟩ := h4
                    exact ⟨b, c, by simp only [γ', hold k j hj, Option.bind_some]; exact e1, e2⟩
                  | s =>
                    simp only [renCd, Option.some.injEq] at hc
                    subst hc
                    exact h4
                  | v g ks =>
                    simp only [renCd, Option.map_eq_some_iff] at hc
                    obtain ⟨l2, hj, rfl⟩ := hc
                    obtain ⟨b', us', e1, e2, e3⟩ := h4
                    exact ⟨b', us', e1, e2, ptrs ks l2 us' hj e3⟩
              · cases hl
          · trivial
        | _ => trivial
      have many : ∀ (ys : List V) (us : List Value), All2 (VR1 γ w (Av x γ' w) st.hp) ys us → All2 (VR1 γ' w (Av x γ' w) H') (renL s ys) us := by
        intro ys
        induction ys with
        | nil => intro us h; cases us <;> first | trivial | exact h.elim
        | cons y ys ih =>
          intro us h
          cases us with
          | nil => exact h.elim
          | cons u us => exact ⟨one y u h.1, ih us h.2⟩
      subst hyv
      cases y with
      | fn f caps =>
        obtain ⟨us, h1, h2⟩ := hVR
        exact ⟨us, h1, many caps us h2⟩
      | tup vs =>
        obtain ⟨us, h1, h2⟩ := hVR
        exact ⟨us, h1, many vs us h2⟩
      | undef => trivial
      | c y => exact VR1.up (one (.c y) _ hVR)
      | agg cs => exact VR1.up (one (.agg cs) _ hVR)
      | iptr cs => exact VR1.up (one (.iptr cs) _ hVR)
      | eptr _ _ _ _ => trivial
      | aptr _ _ _ _ _ => trivial
      | ptr k off => exact VR1.up (one (.ptr k off) _ hVR)
      | own k win t => exact VR1.up (one (.own k win t) _ hVR)
      | map k => exact VR1.up (one (.map k) _ hVR)
      | fptr f cds => exact VR1.up (one (.fptr f cds) _ hVR)
      | fpb f css => trivial
/-! ### Slices in boxes, as own arrays or as values -/
theorem Turns.refl (b : Nat) (w : World) : Turns b w w := ⟨rfl, rfl, rfl, rfl, fun _ _ => rfl⟩
theorem All2.set {α β : Type} {R : α → β → Prop} : ∀ {as : List α} {bs : List β} (i : Nat) (y : α), All2 R as bs → (∀ b, bs[i]? = some b → R y b) → All2 R (as.set i y) bs
  | [], [], _, _, _, _ => trivial
  | _ :: _, b :: _, 0, y, h, hy => ⟨hy b (by simp), h.2⟩
  | _ :: _, _ :: _, i + 1, y, h, hy => ⟨h.1, All2.set i y h.2 fun b hb => hy b (by simpa using hb)⟩
  | [], _ :: _, _, _, h, _ => h.elim
  | _ :: _, [], _, _, h, _ => h.elim
theorem boxTm_get (k : Nat) (cs : List C) : ∀ (tm : List V) (t : Nat), (boxTm k cs tm)[t]? = (tm[t]?).map (boxV k cs)
  | [], t => by simp [boxTm]
  | v :: r, 0 => by simp [boxTm]
  | v :: r, t + 1 => by simp [boxTm, boxTm_get k cs r t]
theorem boxTm_length (k : Nat) (cs : List C) : ∀ (tm : List V), (boxTm k cs tm).length = tm.length
  | [] => rfl
  | v :: r => by simp [boxTm, boxTm_length k cs r]
theorem ghost1_sound {t off mode : Nat} (h : ghost1 st t off mode = some st') (hr : RS x γ st a w) : ∃ γ', RS x γ' st' a w := by
  unfold ghost1 at h
  split at h
  case h_2 => cases h
  rename_i k ht
  obtain ⟨b, c, hg, _⟩ := hr.tm t _ ht
  split at h
  case h_2 => cases h
  rename_i cs hH
  obtain ⟨ob, hob, hR⟩ := hr.inv.own k _ hg
  rw [hH] at hob
  cases hob
  obtain ⟨cur, et, hb, hcs⟩ := hR
  cases hm2 : Nat.beq mode 2 with
  | true =>
    rw [hm2, cond_true] at h
    obtain ⟨hd, h⟩ := cond_some h rfl
    cases h
    obtain ⟨h1, h2⟩ := hr.inv.drop [k]
    refine ⟨gdel γ [k], h1, by simp only [boxTm_length]; exact hr.len, fun t' v hv => ?_, hr.nod⟩
    simp only [boxTm_get, Option.map_eq_some_iff] at hv
    obtain ⟨y, hy, hyv⟩ := hv
    unfold boxV at hyv
    cases hrf : refs k y with
    | false =>
      rw [hrf] at hyv
      subst hyv
      exact h2 y _ (by simp [anyRefs, hrf]) (hr.tm t' y hy)
    | true =>
      rw [hrf, cond_true] at hyv
      split at hyv
      · rename_i k' off'
        have hk' : k' = k := (refs_ptr hrf).symm
        subst hk'
        cases hle : Nat.ble off' cs.length with
        | false => rw [hle] at hyv; subst hyv; trivial
        | true =>
          rw [hle] at hyv
          subst hyv
          have hle := Nat.le_of_ble_eq_true hle
          obtain ⟨b', c', hg', he⟩ := hr.tm t' _ hy
          rw [hg] at hg'
          cases hg'
          have hl := hcs.length
          refine ⟨b, off', cur, et, _, he, A0k_del hr.inv (.inr ⟨k', by simp, c, hg⟩), hb, ?_, ?_⟩
          · rw [List.length_drop, hl, Array.length_toList]
            rw [hl, Array.length_toList] at hle
            omega
          · have h3 : All2 (CR w (Av x (gdel γ [k']) w)) (cs.drop off') (cur.toList.drop off') := (hcs.mono (fun c v => CR.mono (fun b hb => ⟨A0k_del hr.inv (.inl hb), rfl⟩) c v)).drop off'
            have : (cur.toList.drop off').take (cs.drop off').length = cur.toList.drop off' := by
              rw [List.take_of_length_le]
              simp only [List.length_drop, hl]
              omega
            rw [this]
            exact h3
      · subst hyv; trivial
  | false =>
  rw [hm2, cond_false] at h
  split at h
  · rename_i e xs tight hc
    obtain ⟨hd, h⟩ := cond_some h rfl
    cases h
    simp only [Bool.and_eq_true] at hd
    obtain ⟨⟨⟨⟨d1, d2⟩, d3⟩, d4⟩, d5⟩ := hd
    obtain ⟨u, hu, q, cap, h1, h2, h3, h4⟩ := All2.get hcs hc
    have hx := List.isEmpty_iff.1 d3
    subst hx
    have hcap := h3 d2
    subst hcap
    refine ⟨_, RS.osl (i := .emp) (e := e) (xs := []) (nilE := false) (k3 := hk k off) (u := u) (cur := cur) (cur' := cur) (et := et) hr hg hH (fun b3 c3 hi => by cases hi) rfl ?_ (fun e => ?_) (.inr rfl) (lt_of_blt d4) (lt_of_blt d5) (Turns.refl b w) hb hb rfl (by rw [← Array.getElem?_toList]; exact hu) (fun _ _ => rfl) (by rw [h1]; rfl)⟩
    · exact ⟨q, h1, fun hf => by (cases hf), rfl, fun p l hp => by (cases hp)⟩
    · have := lt_of_blt d4
      have := hk_lo k off
      omega
  · rename_i hc
    split at h
    case h_2 => cases h
    rename_i e xs nn hK
    obtain ⟨hd, h⟩ := cond_some h rfl
    cases h
    simp only [Bool.and_eq_true] at hd
    have hlo := lt_of_blt hd.2
    have hne : k ≠ hk k off := fun e => by have := hk_lo k off; omega
    obtain ⟨i, e1, cur', et', fz, u, e', xs', nl, e2, e3, e4, e5⟩ := hr.inv.lnk k cs off b c _ hH hc hg hK
    rw [hb] at e2
    cases e2
    rw [hK] at e4
    cases e4
    obtain ⟨h1, h2⟩ := hr.inv.drop [hk k off]
    have hcr : CR w (Av x (gdel γ [hk k off]) w) (.sl e xs false) u := by
      have hvr : VR1 γ w (Av x γ w) st.hp (.own (hk k off) none false) u := ⟨i, e, xs, nn, e1, hK, e5⟩
      have : CR w (A0k x γ w [hk k off]) (.sl e xs false) u := gnd1_VR (v' := .c (.sl e xs false)) (keys := [hk k off]) hr.inv (by simp only [gnd1, hK, view]) hvr (fun q hq => hq)
      exact CR.mono (fun b hb => ⟨A0k_del hr.inv hb, rfl⟩) _ _ this
    obtain ⟨ob1, f1, f2⟩ := h1.own k (.at b c) (by rw [gdel_ne (by simpa using hne)]; exact hg)
    rw [eraAll_get, if_neg (by simpa using hne), hH] at f1
    cases f1
    obtain ⟨cur2, et2, f3, f4⟩ := f2
    rw [hb] at f3
    cases f3
    obtain ⟨g1, g2⟩ := Inv.upd (w' := w) (k := k) (b := b) (c := c) (ob := .box cs) (ob' := .box (cs.set off (.sl e xs false))) h1 (by rw [gdel_ne (by simpa using hne)]; exact hg) (by rw [eraAll_get, if_neg (by simpa using hne)]; exact hH) trivial (Turns.refl b w) (by
      intro cs' j e hj
      cases e
      rw [List.getElem?_set] at hj
      split at hj
      · split at hj
        · cases hj
        · cases hj
      · exact ⟨cs, rfl, hj, fun _ _ _ _ h h' => ⟨_, _, _, h, h'⟩⟩) ⟨cur, et, hb, All2.set off _ f4 fun v hv => by
        rw [← Array.getElem?_toList, hv] at e3
        cases e3
        exact hcr⟩
    refine ⟨gdel γ [hk k off], g1, by simp only [cleanTm_length]; exact hr.len, fun t' v hv => ?_, hr.nod⟩
    simp only [cleanTm_get, Option.map_eq_some_iff] at hv
    obtain ⟨y, hy, hyv⟩ := hv
    cases hany : anyRefs [hk k off] y with
    | true =>
      rw [hany] at hyv
      subst hyv
      trivial
    | false =>
      rw [hany] at hyv
      subst hyv
      exact g2 _ _ (h2 y _ hany (hr.tm t' y hy))
  · cases h
theorem ghosts_sound {f : St → Option ρ} : ∀ {l : List (Nat × Nat × Nat)} {st : St} {γ : Gam}, ghosts st l f = some r → RS x γ st a w → ∃ st' γ', f st' = some r ∧ RS x γ' st' a w
  | [], st, γ, h, hr => ⟨st, γ, h, hr⟩
  | (t, off, mode) :: l, st, γ, h, hr => by
    simp only [ghosts] at h
    split at h
    · rename_i st' hg
      obtain ⟨γ', hr'⟩ := ghost1_sound hg hr
      rw [fTm_eq] at h
      exact ghosts_sound h hr'
    · cases h
/-! ### Code -/
def exitOf (j : Nat) : Exit := if j < goff then .exit j else .goto (j - goff)
/-- Where the interpreter's continuations answer, the machine's do. -/
structure Posts (x : Cx) (k : St → Option ρ) (ex : Nat → St → Option ρ) (rt : St → Option ρ) (r : ρ) (Q : Exit → Act → World → Prop) : Prop where
  norm : ∀ st γ a w, k st = some r → RS x γ st a w → Q .normal a w
  exit : ∀ j st γ a w, ex j st = some r → RS x γ st a w → Q (exitOf j) a w
  ret : ∀ st γ a w, rt st = some r → RS x γ st a w → Q .ret a w
/-- A handler of scopes and of marked code that is right, at some code. -/
def ScAt (P : Program) (x : Cx) (sc : Scp) (c : Code) (an : Ann) : Prop :=
  ∀ (ρ : Type) (k : St → Option ρ) (ex : Nat → St → Option ρ) (rt : St → Option ρ) (r : ρ) (Q : Exit → Act → World → Prop) (st : St) (γ : Gam) (a : Act) (w : World),
    sc ρ c an k ex rt st = some r → RS x γ st a w → Posts x k ex rt r Q → c.wp P Q a w
def ScOK (P : Program) (x : Cx) (sc : Scp) : Prop := ∀ c an, ScAt P x sc c an
theorem runG_sound (hT : TabOK P E.T) (hE : EqsOK P E.T) (hphi : EnvOK P E) (hpar : EnvPar E) (hm : P.follows .mixedOrders = true) {sc : Scp} : ∀ (c : Code) (an : Ann), (∀ p ∈ occ c an, ScAt P x sc p.1 p.2) → ∀ (k : St → Option ρ) (ex : Nat → St → Option ρ) (rt : St → Option ρ)
    (Q : Exit → Act → World → Prop) (st : St) (γ : Gam) (a : Act) (w : World), runG E sc c an k ex rt st = some r → RS x γ st a w → Posts x k ex rt r Q → c.wp P Q a w := by
  intro c
  induction c with
  | skip =>
    intro an ho k ex rt Q st γ a w h hr hp
    rw [runG] at h
    try simp only [normC_eq] at h
    exact wp_skip (hp.norm st γ a w h hr)
  | label l =>
    intro an ho k ex rt Q st γ a w h hr hp
    rw [runG] at h
    try simp only [normC_eq] at h
    exact wp_label (hp.norm st γ a w h hr)
  | region id ops draw =>
    intro an ho k ex rt Q st γ a w h hr hp
    rw [runG] at h
    try simp only [normC_eq] at h
    exact region_sound hT hE hphi hpar hm h hr fun st' γ' a' w' hk hr' => hp.norm st' γ' a' w' hk hr'
  | seq c d ihc ihd =>
    intro an ho k ex rt Q st γ a w h hr hp
    by_cases hh : ∃ i, an = .h i
    · obtain ⟨i, rfl⟩ := hh
      exact ho (.seq c d, .h i) (by simp [occ]) ρ k ex rt r Q st γ a w h hr hp
    have e : runG E sc (.seq c d) an k ex rt st = ghosts st an.ql fun st => runG E sc c an.unq.fst (holdK an.unq E.hold fun s => runG E sc d an.unq.snd k ex rt s) ex rt st := by
      cases an <;> first | rfl | exact absurd ⟨_, rfl⟩ hh
    have eo : occ (.seq c d) an = occ c an.unq.fst ++ occ d an.unq.snd := by
      cases an <;> first | rfl | exact absurd ⟨_, rfl⟩ hh
    rw [e] at h
    rw [eo] at ho
    obtain ⟨st, γ, h, hr⟩ := ghosts_sound h hr
    refine wp_seq (ihc _ (fun p hp' => ho p (List.mem_append_left _ hp')) _ _ _ _ st γ a w h hr ⟨?_, ?_, ?_⟩)
    · intro st' γ' a' w' hk hr'
      exact ihd _ (fun p hp' => ho p (List.mem_append_right _ hp')) _ _ _ Q st' γ' a' w' (holdK_some hk) hr' hp
    · intro j st' γ' a' w' hk hr'
      have := hp.exit j st' γ' a' w' hk hr'
      unfold exitOf at this ⊢
      split at this
      · rename_i hj
        rw [if_pos hj]
        exact this
      · rename_i hj
        rw [if_neg hj]
        exact this
    · intro st' γ' a' w' hk hr'
      exact hp.ret st' γ' a' w' hk hr'
  | cond b c d ihc ihd =>
    intro an ho k ex rt Q st γ a w h hr hp
    rw [runG] at h
    try simp only [normC_eq] at h
    cases hb : getB st b with
    | none => rw [hb] at h; cases h
    | some t =>
      rw [hb] at h
      simp only at h
      have he : a.eval b = .bool t := VR_bool (hr.ops' _ _ (getB_some hb))
      have hp' : Posts x (fun s => k (Vi.norm an.lv s)) ex rt r Q := by
        refine ⟨fun st' γ' a' w' hk hr' => ?_, hp.exit, hp.ret⟩
        obtain ⟨γ2, hr2⟩ := hr'.norm an.lv
        exact hp.norm _ γ2 a' w' hk hr2
      refine wp_cond he ?_
      cases t with
      | true => exact ihc _ (fun p hq => ho p (List.mem_append_left _ hq)) _ _ _ Q st γ a w h hr hp'
      | false => exact ihd _ (fun p hq => ho p (List.mem_append_right _ hq)) _ _ _ Q st γ a w h hr hp'
  | block id c ihc =>
    intro an ho k ex rt Q st γ a w h hr hp
    rw [runG] at h
    try simp only [normC_eq] at h
    obtain ⟨hid, h⟩ := cond_some h rfl
    have hid : id < goff := Nat.le_of_ble_eq_true hid
    have hnorm : ∀ st' γ' a' w', k (Vi.norm an.lv st') = some r → RS x γ' st' a' w' → Q .normal a' w' := by
      intro st' γ' a' w' hk hr'
      obtain ⟨γ2, hr2⟩ := hr'.norm an.lv
      exact hp.norm _ γ2 a' w' hk hr2
    refine wp_block (ihc _ ho _ _ _ _ st γ a w h hr ⟨hnorm, ?_, fun st' γ' a' w' hk hr' => hp.ret st' γ' a' w' hk hr'⟩)
    intro j st' γ' a' w' hk hr'
    cases hj : Nat.beq j id with
    | true =>
      rw [hj] at hk
      have e := Nat.eq_of_beq_eq_true hj
      subst e
      have : exitOf j = .exit j := if_pos hid
      rw [this]
      simp only [Exit.inBlock, if_true]
      exact hnorm st' γ' a' w' hk hr'
    | false =>
      rw [hj] at hk
      have := hp.exit j st' γ' a' w' hk hr'
      have hne : j ≠ id := fun e => by rw [e, Nat.beq_refl] at hj; cases hj
      unfold exitOf at this ⊢
      split at this
      · rename_i hjg
        rw [if_pos hjg]
        simp only [Exit.inBlock, if_neg hne]
        exact this
      · rename_i hjg
        rw [if_neg hjg]
        exact this
  | loop c ihc =>
    intro an ho k ex rt Q st γ a w h hr hp
    rw [runG] at h
    try simp only [normC_eq] at h
    intro b kk cs
    have key : ∀ (n : Nat) (st : St) (γ : Gam) (a : Act) (w : World), loopN (fun K s => runG E sc c an.fst (fun s' => K (Vi.norm an.lv s')) ex rt s) n st = some r → RS x γ st a w →
        ∃ e a' w', Q e a' w' ∧ Arrives P (lone (b.at a (.code c :: .inLoop c :: kk)) cs w) b kk cs e a' w' := by
      intro n
      induction n with
      | zero => intro st γ a w h _; cases h
      | succ n ihn =>
        intro st γ a w h hr
        simp only [loopN] at h
        have hQ := ihc an.fst ho _ ex rt (Exit.then (fun a' w' => ∃ st' γ', loopN (fun K s => runG E sc c an.fst (fun s' => K (Vi.norm an.lv s')) ex rt s) n st' = some r ∧ RS x γ' st' a' w') Q) st γ a w h hr ⟨?_, ?_, ?_⟩
        · obtain ⟨e, a₁, w₁, hq, harr⟩ := hQ b (.inLoop c :: kk) cs
          cases e with
          | normal =>
            obtain ⟨st', γ', h1, h2⟩ := hq
            obtain ⟨e₂, a₂, w₂, hq₂, harr₂⟩ := ihn st' γ' a₁ w₁ h1 h2
            exact ⟨e₂, a₂, w₂, hq₂, .of_steps (Steps.trans harr (.one step_inLoop)) harr₂⟩
          | exit id => exact ⟨_, a₁, w₁, hq, .pass (x := .inLoop c) rfl (fun _ _ => .inl (by simp)) harr⟩
          | goto l => exact ⟨_, a₁, w₁, hq, .pass (x := .inLoop c) rfl (fun _ _ => .inl (by simp)) harr⟩
          | ret => exact ⟨_, a₁, w₁, hq, .pass (x := .inLoop c) rfl (fun _ _ => .inl (by simp)) harr⟩
          | panic ch => exact ⟨_, a₁, w₁, hq, .pass (x := .inLoop c) rfl (fun _ _ => .inl (by simp)) harr⟩
          | outgrown => exact ⟨_, a₁, w₁, hq, .pass (x := .inLoop c) rfl (fun _ _ => .inl (by simp)) harr⟩
        · intro st' γ' a' w' hk hr'
          obtain ⟨γ2, hr2⟩ := hr'.norm an.lv
          exact ⟨_, γ2, hk, hr2⟩
        · intro j st' γ' a' w' hk hr'
          have := hp.exit j st' γ' a' w' hk hr'
          unfold exitOf at this ⊢
          split at this
          · rename_i hj
            rw [if_pos hj]
            exact this
          · rename_i hj
            rw [if_neg hj]
            exact this
        · intro st' γ' a' w' hk hr'
          exact hp.ret st' γ' a' w' hk hr'
    obtain ⟨γ2, hr2⟩ := hr.norm an.lv
    obtain ⟨e, a', w', hq, harr⟩ := key E.fuel _ γ2 a w h hr2
    exact ⟨e, a', w', hq, .of_steps (.one step_loop) harr⟩
  | exit id =>
    intro an ho k ex rt Q st γ a w h hr hp
    rw [runG] at h
    try simp only [normC_eq] at h
    obtain ⟨hid, h⟩ := cond_some h rfl
    have hid : id < goff := Nat.le_of_ble_eq_true hid
    have := hp.exit id st γ a w h hr
    unfold exitOf at this
    rw [if_pos hid] at this
    exact wp_exit this
  | goto l =>
    intro an ho k ex rt Q st γ a w h hr hp
    rw [runG] at h
    try simp only [normC_eq] at h
    have := hp.exit (goff + l) st γ a w h hr
    unfold exitOf at this
    rw [if_neg (by omega), show goff + l - goff = l by omega] at this
    exact wp_goto this
  | ret =>
    intro an ho k ex rt Q st γ a w h hr hp
    rw [runG] at h
    try simp only [normC_eq] at h
    exact wp_ret (hp.ret st γ a w h hr)
  | scope c ihc =>
    intro an ho k ex rt Q st γ a w h hr hp
    rw [runG] at h
    try simp only [normC_eq] at h
    exact ho (.scope c, an) (by simp [occ]) ρ k ex rt r Q st γ a w h hr hp
  | _ =>
    intro an ho k ex rt Q st γ a w h hr hp
    simp only [runG] at h
    cases h
theorem noScope_ok : ScOK P x noScope := by
  intro c an ρ k ex rt r Q st γ a w h hr hp
  cases h
end
end Go.Vi
