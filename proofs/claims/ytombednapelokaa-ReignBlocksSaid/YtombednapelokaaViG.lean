/-
  Vi: what an operation that changes the call's own leaves in the slots.
-/
import Derived.Test.YtombednapelokaaViF
set_option linter.unusedVariables false
set_option linter.unusedSimpArgs false
namespace Go.Vi
open Op

def KS : St → Option St := fun s => some s

/-- The slots name what was named, or what the operation's own slot stands for. -/
def Prov (o : Oper) (st st' : St) : Prop :=
  st'.tm.length = st.tm.length ∧ ∀ (t : Nat) (v : V), st'.tm[t]? = some v → ∀ k, refs k v = true → (∃ (t : Nat) (u : V), st.tm[t]? = some u ∧ refs k u = true) ∨ (o.dst ≠ none ∧ isKey o k)

structure EFoot (E : Env) (o : Oper) (st st' : St) : Prop where
  self : evalE E o st St KS = some st'
  prov : Prov o st st'

def PhioPar (E : Env) : Prop :=
  ∀ g flags vs (ρ : Type) (K : Ret → List Out → Option ρ) r, E.iop g = some flags → E.phio g vs ρ K = some r → ∃ ret outs, K ret outs = some r ∧ ∀ (ρ' : Type) (K' : Ret → List Out → Option ρ'), E.phio g vs ρ' K' = K' ret outs
def EnvPar (E : Env) : Prop := PhiPar E.phi ∧ PhioPar E

section
variable {E : Env} {o : Oper} {ρ : Type} {K : St → Option ρ} {r : ρ} {st st' : St} {H : Heap} {ρv : Val}

def EFooted (E : Env) (o : Oper) (st : St) {ρ : Type} (K : St → Option ρ) (r : ρ) : Prop := ∃ st', K st' = some r ∧ EFoot E o st st'

theorem put_len (st : St) (d : Option Tmp) (v : V) : (put st d v).tm.length = st.tm.length := by cases d <;> simp [put]

theorem put_get {st : St} {d : Option Tmp} {v u : V} {t : Nat} (h : (put st d v).tm[t]? = some u) : (d = some t ∧ u = v) ∨ st.tm[t]? = some u := by
  cases d with
  | none => exact .inr h
  | some d =>
    simp only [put, List.getElem?_set] at h
    split at h
    · rename_i hdt
      split at h
      · cases h; exact .inl ⟨by rw [hdt], rfl⟩
      · cases h
    · exact .inr h

theorem drop_len (st : St) (ks : List Nat) : (drop st ks).tm.length = st.tm.length := by
  cases ks with
  | nil => rfl
  | cons k ks => simp only [drop, cleanTm_length]

theorem drop_get {st : St} {ks : List Nat} {t : Nat} {v : V} (h : (drop st ks).tm[t]? = some v) : v = .undef ∨ st.tm[t]? = some v := by
  cases ks with
  | nil => exact .inr h
  | cons k ks =>
    simp only [drop, cleanTm_get, Option.map_eq_some_iff] at h
    obtain ⟨y, hy, hv⟩ := h
    cases hr : anyRefs (k :: ks) y with
    | true => rw [hr] at hv; exact .inl hv.symm
    | false => rw [hr] at hv; simp only [cond_false] at hv; subst hv; exact .inr hy

theorem hset_tm (st : St) (k : Nat) (ob : O) : (hset st k ob).tm = st.tm := rfl

/-- Only the operation's own slot turns, and its value names nothing but its own key. -/
theorem prov_put {st1 : St} {v : V} {s : St} (h1 : st1.tm.length = st.tm.length) (h2 : ∀ (t : Nat) (u : V), st1.tm[t]? = some u → u = .undef ∨ st.tm[t]? = some u)
    (hs : s.tm = (put st1 o.dst v).tm) (hv : ∀ k, refs k v = true → isKey o k) : Prov o st s := by
  refine ⟨by rw [hs, put_len, h1], fun t u hu k hk => ?_⟩
  rw [hs] at hu
  rcases put_get hu with ⟨hd, rfl⟩ | hu
  · exact .inr ⟨by rw [hd]; simp, hv k hk⟩
  · rcases h2 t u hu with rfl | hu
    · cases hk
    · exact .inl ⟨t, u, hu, hk⟩

theorem prov_same {v : V} {s : St} (hs : s.tm = (put st o.dst v).tm) (hv : ∀ k, refs k v = true → isKey o k) : Prov o st s :=
  prov_put rfl (fun t u h => .inr h) hs hv

theorem isKey_own {k : Nat} (h : refs k (.own (dstKey o.dst) none false) = true) : isKey o k := key0 (refs_own h)

theorem EF_store {t : TypeId} {y z : Operand} (ho : o.op = .store t y z) (h : evalE E o st ρ K = some r) : EFooted E o st K r := by
  simp only [evalE, ho] at h
  split at h
  · rename_i s k off vs h1 h2 h3
    split at h
    · rename_i cs hH
      obtain ⟨hd, h⟩ := cond_some h rfl
      exact ⟨_, h, by simp only [evalE, ho, h1, h2, h3, hH, hd, cond_true, KS], prov_same rfl (fun k hk => by cases hk)⟩
    · cases h
  · rename_i s k win i off vs h1 h2 h3
    split at h
    · rename_i e xs n hH
      obtain ⟨hd, h⟩ := cond_some h rfl
      obtain ⟨x, hx, h⟩ := Option.bind_eq_some_iff.1 h
      split at h
      · rename_i y' hy
        exact ⟨_, h, by simp only [evalE, ho, h1, h2, h3, hH, hd, cond_true, hx, Option.bind_some, hy, KS], prov_same rfl (fun k hk => by cases hk)⟩
      · cases h
    · cases h
  · cases h

theorem EF_mapUpdate {t : TypeId} {y z u : Operand} (ho : o.op = .mapUpdate t y z u) (h : evalE E o st ρ K = some r) : EFooted E o st K r := by
  simp only [evalE, ho] at h
  split at h
  · rename_i k kk n cs h1 h2 h3
    split at h
    · rename_i kk' e m kk2 e2 hH hm
      obtain ⟨hd, h⟩ := cond_some h rfl
      split at h
      · rename_i z' hz
        exact ⟨_, h, by simp only [evalE, ho, h1, h2, h3, hH, hm, hd, cond_true, hz, KS], prov_same rfl (fun k hk => by cases hk)⟩
      · cases h
    · cases h
  · cases h

theorem EF_buildSlice {t : TypeId} {n : Nat} {ps : Array (Nat × Operand)} (ho : o.op = .buildSlice t n ps) (h : evalE E o st ρ K = some r) : EFooted E o st K r := by
  simp only [evalE, ho] at h
  split at h
  · rename_i e hs
    split at h
    · rename_i xs hx
      obtain ⟨hd, h⟩ := cond_some h rfl
      exact ⟨_, h, by simp only [evalE, ho, hs, hx, hd, cond_true, KS], prov_put (drop_len _ _) (fun t u hu => drop_get hu) rfl (fun k hk => isKey_own hk)⟩
    · cases h
  · cases h

theorem EF_append {c : Call} (ho : o.op = .call c) (hc : c.callee = .builtin .append) (h : evalE E o st ρ K = some r) : EFooted E o st K r := by
  simp only [evalE, ho, hc] at h
  split at h
  · rename_i x y t tx hx ht
    split at h
    · rename_i e e1 e2 ys2 h1 h2 h3
      split at h
      · rename_i ys k win h4 h5
        split at h
        · rename_i e' xs' n hH
          split at h
          · rename_i xs hxs
            obtain ⟨hd, h⟩ := cond_some h rfl
            exact ⟨_, h, by simp only [evalE, ho, hc, hx, ht, h1, h2, h3, h4, h5, hH, hxs, hd, cond_true, KS], prov_put (drop_len _ _) (fun t u hu => drop_get hu) rfl (fun k hk => isKey_own hk)⟩
          · cases h
        · cases h
      · cases h
    · cases h
  · cases h

theorem EF_copy {c : Call} (ho : o.op = .call c) (hc : c.callee = .builtin .copy) (h : evalE E o st ρ K = some r) : EFooted E o st K r := by
  simp only [evalE, ho, hc] at h
  split at h
  · rename_i x y t ts hx ht
    split at h
    · rename_i e0 k win tt e2 ys2 h1 h2 h3
      split at h
      · rename_i e xs n hH
        split at h
        · rename_i ys hys
          obtain ⟨hd, h⟩ := cond_some h rfl
          exact ⟨_, h, by simp only [evalE, ho, hc, hx, ht, h1, h2, h3, hH, hys, hd, cond_true, KS], prov_same rfl (fun k hk => by cases hk)⟩
        · cases h
      · cases h
    · cases h
  · cases h

theorem EF_delete {c : Call} (ho : o.op = .call c) (hc : c.callee = .builtin .delete) (h : evalE E o st ρ K = some r) : EFooted E o st K r := by
  simp only [evalE, ho, hc] at h
  split at h
  · rename_i x y t ts hx ht
    split at h
    · rename_i k kk n h1 h2
      split at h
      · rename_i kk' e es kk2 e2 hH hm
        obtain ⟨hd, h⟩ := cond_some h rfl
        exact ⟨_, h, by simp only [evalE, ho, hc, hx, ht, h1, h2, hH, hm, hd, cond_true, KS], prov_same rfl (fun k hk => by cases hk)⟩
      · cases h
    · cases h
  · cases h

theorem EF_del {c : Call} {f : Operand} (hf : isDelF E.T f = true) (ho : o.op = .call c) (hc : c.callee = .value f) (h : evalDel o c st ρ K = some r) : EFooted E o st K r := by
  simp only [evalDel] at h
  split at h
  · rename_i x y z hx
    split at h
    · rename_i k i j h1 h2 h3
      split at h
      · rename_i xs n hH
        obtain ⟨hd, h⟩ := cond_some h rfl
        exact ⟨_, h, by simp only [evalE, ho, hc, hf, cond_true, evalDel, hx, h1, h2, h3, hH, hd, KS], prov_put (drop_len _ _) (fun t u hu => drop_get hu) rfl (fun k hk => isKey_own hk)⟩
      · cases h
    · cases h
  · cases h

theorem EF_callv {c : Call} {f : Operand} (hphi : EnvPar E) (ho : o.op = .call c) (hc : c.callee = .value f) (h : evalE E o st ρ K = some r) : EFooted E o st K r := by
  simp only [evalE, ho, hc] at h
  cases hdl : isDelF E.T f with
  | true =>
    rw [hdl] at h
    exact EF_del hdl ho hc h
  | false =>
  rw [hdl, cond_false] at h
  split at h
  · rename_i v hv
    split at h
    · rename_i g caps hg
      split at h
      · rename_i vs hvs
        split at h
        rotate_left
        · rename_i flags hfl
          split at h
          · rename_i ks oth hio
            obtain ⟨ret, outs, h, hpar⟩ := hphi.2 _ _ _ _ _ _ hfl h
            obtain ⟨hd, h⟩ := cond_some h rfl
            obtain ⟨hp', hput, h, hCC⟩ := outsPutC_some h
            obtain ⟨hdd, h⟩ := cond_some h rfl
            have hl : ∀ (t : Nat) (u : V), (bif ret.any Ret1.hasSl || outs.any Out.hasSl then drop st oth else st).tm[t]? = some u → u = .undef ∨ st.tm[t]? = some u := by
              intro t u hu
              cases hb : ret.any Ret1.hasSl || outs.any Out.hasSl with
              | true => rw [hb] at hu; exact drop_get hu
              | false => rw [hb] at hu; exact .inr hu
            have hn : (bif ret.any Ret1.hasSl || outs.any Out.hasSl then drop st oth else st).tm.length = st.tm.length := by
              cases ret.any Ret1.hasSl || outs.any Out.hasSl
              · rfl
              · exact drop_len _ _
            refine ⟨_, h, by simp only [evalE, ho, hc, hdl, cond_false, hv, hg, hvs, hfl, hio, hpar, hd, hCC, hdd, cond_true, KS], prov_put hn hl rfl fun k hk => ?_⟩
            obtain ⟨p, hp, he⟩ := retAll_refs hk
            obtain ⟨j, hj⟩ := retAll_keys p hp
            exact ⟨j, he ▸ hj⟩
          · cases h
        rename_i hfl
        obtain ⟨ret, h, hpar⟩ := hphi.1 _ _ _ _ _ h
        obtain ⟨hd, h⟩ := cond_some h rfl
        have hl : ∀ (t : Nat) (u : V), (bif ret.any Ret1.hasSl then drop st (v.ownKey ++ c.args.toList.flatMap (opKey (opV st))) else st).tm[t]? = some u → u = .undef ∨ st.tm[t]? = some u := by
          intro t u hu
          cases hb : ret.any Ret1.hasSl with
          | true => rw [hb] at hu; exact drop_get hu
          | false => rw [hb] at hu; exact .inr hu
        have hn : (bif ret.any Ret1.hasSl then drop st (v.ownKey ++ c.args.toList.flatMap (opKey (opV st))) else st).tm.length = st.tm.length := by
          cases ret.any Ret1.hasSl
          · rfl
          · exact drop_len _ _
        refine ⟨_, h, by simp only [evalE, ho, hc, hdl, cond_false, hv, hg, hvs, hfl, hpar, hd, cond_true, KS], prov_put hn hl rfl fun k hk => ?_⟩
        obtain ⟨p, hp, he⟩ := retAll_refs hk
        obtain ⟨j, hj⟩ := retAll_keys p hp
        exact ⟨j, he ▸ hj⟩
      · cases h
    · cases h
  · cases h

theorem evalE_foot (hphi : EnvPar E) (h : evalE E o st ρ K = some r) : EFooted E o st K r := by
  cases ho : o.op with
  | store t p y => exact EF_store ho h
  | mapUpdate t p q y => exact EF_mapUpdate ho h
  | buildSlice t n ps => exact EF_buildSlice ho h
  | call c =>
    cases hc : c.callee with
    | builtin b =>
      cases b with
      | append => exact EF_append ho hc h
      | copy => exact EF_copy ho hc h
      | delete => exact EF_delete ho hc h
      | _ => simp only [evalE, ho, hc] at h; cases h
    | value f => exact EF_callv hphi ho hc h
    | invoke rv m => simp only [evalE, ho, hc] at h; cases h
  | _ => simp only [evalE, ho] at h; cases h

/-! ### Stores and copies next to moves -/

theorem opV_congr {st st2 : St} {y : Operand} (h : ∀ t, y = .tmp t → st2.tm[t]? = st.tm[t]?) : opV st2 y = opV st y := by
  cases y with
  | tmp t => exact h t rfl
  | _ => rfl

/-- What a store or a copy does hangs on its operands and on what there is. -/
theorem evalE_loc (hl : isLoc o = true) (h : evalE E o st St KS = some st') : ∃ u k ob, st' = hset (put st o.dst u) k ob ∧ (∀ j, refs j u = false) ∧
    ∀ st2, st2.hp = st.hp → (∀ y ∈ o.op.operands.toList, opV st2 y = opV st y) → evalE E o st2 St KS = some (hset (put st2 o.dst u) k ob) := by
  unfold isLoc at hl
  split at hl
  · rename_i t y z ho
    simp only [evalE, ho] at h
    have hy : y ∈ o.op.operands.toList := by simp [ho, Op.operands]
    have hz : z ∈ o.op.operands.toList := by simp [ho, Op.operands]
    split at h
    · rename_i s k off vs h1 h2 h3
      split at h
      · rename_i cs hH
        obtain ⟨hd, h⟩ := cond_some h rfl
        cases h
        refine ⟨_, _, _, rfl, fun _ => rfl, fun st2 hp hop => ?_⟩
        simp only [evalE, ho, hop y hy, hop z hz, hp, h1, h2, h3, hH, hd, cond_true, KS]
      · cases h
    · rename_i s k win i off vs h1 h2 h3
      split at h
      · rename_i e xs n hH
        obtain ⟨hd, h⟩ := cond_some h rfl
        obtain ⟨x, hx, h⟩ := Option.bind_eq_some_iff.1 h
        split at h
        · rename_i y' hy'
          cases h
          refine ⟨_, _, _, rfl, fun _ => rfl, fun st2 hp hop => ?_⟩
          simp only [evalE, ho, hop y hy, hop z hz, hp, h1, h2, h3, hH, hd, cond_true, hx, Option.bind_some, hy', KS]
        · cases h
      · cases h
    · cases h
  · rename_i c ho
    split at hl
    · rename_i hc
      have hops := call_ops ho hc
      simp only [evalE, ho, hc] at h
      split at h
      · rename_i x y t ts hx ht
        rw [hx] at hops
        have hmx : x ∈ o.op.operands.toList := by rw [hops]; simp
        have hmy : y ∈ o.op.operands.toList := by rw [hops]; simp
        split at h
        · rename_i e0 k win tt e2 ys2 h1 h2 h3
          split at h
          · rename_i e xs n hH
            split at h
            · rename_i ys hys
              obtain ⟨hd, h⟩ := cond_some h rfl
              cases h
              refine ⟨_, _, _, rfl, fun _ => rfl, fun st2 hp hop => ?_⟩
              simp only [evalE, ho, hc, hx, ht, hop x hmx, hop y hmy, hp, h1, h2, h3, hH, hys, hd, cond_true, KS]
            · cases h
          · cases h
        · cases h
      · cases h
    · cases hl
  · cases hl

end
end Go.Vi
