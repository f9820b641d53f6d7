/- Texts of this claim, joined: ViE2 to ViF. -/
import Derived.Deep.AppendSrc
import Derived.Test.YtkfkbebinhkdlaaDoorQTopPartsCard2
/-
  Vi: operations that change what is the call's own: forgetting; calls of closures; a slice's literal that takes in own arrays.
-/
set_option linter.unusedVariables false
set_option linter.unusedSimpArgs false
namespace Go.Vi
open Op
variable {P : Program} {E : Env} {o : Oper} {ρ : Type} {r : ρ} {x : Cx} {γ : Gam} {H : Heap} {w : World} {a : Act} {st : St} {K : St → Option ρ}
theorem eraAll_get (H : Heap) : ∀ (ks : List Nat) (j : Nat), eraAll H ks j = if j ∈ ks then none else H j
  | [], j => by simp [eraAll]
  | k :: ks, j => by
    by_cases h : j = k
    · subst h
      simp [eraAll, era]
    · simp [eraAll, era, beq_false h, eraAll_get H ks j, h]
theorem gdel_some {ks : List Nat} {k : Nat} {i : Info} (h : gdel γ ks k = some i) : k ∉ ks ∧ γ k = some i := by
  unfold gdel at h
  split at h
  · cases h
  · rename_i hk
    exact ⟨hk, h⟩
theorem gdel_ne {ks : List Nat} {k : Nat} (h : k ∉ ks) : gdel γ ks k = γ k := by simp [gdel, h]
theorem Inv.drop (hi : Inv x γ H w) (ks : List Nat) : Inv x (gdel γ ks) (eraAll H ks) w ∧
    ∀ y u, anyRefs ks y = false → VR γ w (Av x γ w) H y u → VR (gdel γ ks) w (Av x (gdel γ ks) w) (eraAll H ks) y u := by
  have hav : ∀ b, Av x γ w b → Av x (gdel γ ks) w b ∧ w.heap[b]? = w.heap[b]? := fun b hb => Av.del (fun k i hk => ⟨k, (gdel_some hk).2⟩) b hb
  refine ⟨⟨hi.size, hi.os, hi.tape, hi.output, hi.blk, ?_, ?_, ?_, ?pin, ?lnk⟩, ?_⟩
  case lnk =>
    intro k cs off b c ob h1 h2 h3 h4
    rw [eraAll_get] at h1 h4
    split at h1
    · cases h1
    · split at h4
      · cases h4
      · rename_i hk2
        obtain ⟨i, e1, e2⟩ := hi.lnk k cs off b c ob h1 h2 (gdel_some h3).2 h4
        exact ⟨i, by rw [gdel_ne hk2]; exact e1, e2.mono rfl (by rw [eraAll_get, if_neg hk2])⟩
  case pin =>
    intro k i hp hH
    rw [eraAll_get] at hH
    split at hH
    · exact absurd rfl hH
    · rename_i hk
      rw [gdel_ne hk]
      exact hi.pin k i hp hH
  · intro k i hk
    obtain ⟨h1, h2⟩ := gdel_some hk
    obtain ⟨ob, h3, h4⟩ := hi.own k i h2
    exact ⟨ob, by rw [eraAll_get, if_neg h1]; exact h3, objR.mono hav ob i (fun _ _ _ => rfl) h4⟩
  · intro k b c hk
    exact hi.rng k b c (gdel_some hk).2
  · intro k k' b c c' hk hk'
    exact hi.inj k k' b c c' (gdel_some hk).2 (gdel_some hk').2
  · intro y u hr h
    refine VR.key (ks := ks) (fun j hj => gdel_ne hj) (fun j hj => by rw [eraAll_get, if_neg hj]) y u (fun k hk => ?_) (VR.mono hav y u h)
    have := List.any_eq_false.1 hr k hk
    simpa using this
theorem RS.drop (h : RS x γ st a w) (ks : List Nat) : RS x (gdel γ ks) (drop st ks) a w := by
  cases ks with
  | nil =>
    have : gdel γ [] = γ := by funext k; simp [gdel]
    rw [this]
    exact h
  | cons k ks =>
    obtain ⟨h1, h2⟩ := h.inv.drop (k :: ks)
    refine ⟨h1, by simp only [Vi.drop, cleanTm_length]; exact h.len, ?_, h.nod⟩
    intro t v hv
    simp only [Vi.drop, cleanTm_get, Option.map_eq_some_iff] at hv
    obtain ⟨y, hy, hyv⟩ := hv
    cases hr : anyRefs (k :: ks) y with
    | true =>
      rw [hr] at hyv
      simp only [cond_true] at hyv
      subst hyv
      trivial
    | false =>
      rw [hr] at hyv
      simp only [cond_false] at hyv
      subst hyv
      exact h2 y _ hr (h.tm t y hy)
theorem A0k_del (hi : Inv x γ H w) {ks : List Nat} {b : Nat} (h : A0k x γ w ks b) : Av x (gdel γ ks) w b := by
  rcases h with h | ⟨k, hk, c, hg⟩
  · exact (Av.del (fun k i hk => ⟨k, (gdel_some hk).2⟩) b h).1
  · have hr := hi.rng k b c hg
    refine ⟨hr.2, fun hb => x.ma b (hr.1.resolve_left (by omega)), fun k' c' hk' => ?_⟩
    obtain ⟨h1, h2⟩ := gdel_some hk'
    exact h1 (hi.inj k' k b c' c h2 hg ▸ hk)
theorem partKeys_mem {ρv : Val} {k : Nat} : ∀ {ps : List (Nat × Operand)} {p : Nat × Operand}, p ∈ ps → k ∈ opKey ρv p.2 → k ∈ partKeys ρv ps
  | [], p, h, _ => by simp at h
  | (j, y) :: ps, p, h, hk => by
    rcases List.mem_cons.1 h with rfl | h
    · exact List.mem_append.2 (.inl hk)
    · exact List.mem_append.2 (.inr (partKeys_mem h hk))
theorem partEl_VRs {ρv : Val} {e : Sh} {y : e.den} {p : Operand} {keys : List Nat} (hi : Inv x γ H w) (hv : Ops ρv H x γ w a) (h : partEl e ρv H p = some y) (hk : ∀ k ∈ opKey ρv p, k ∈ keys) :
    VRs w (A0k x γ w keys) e y (a.eval p).cells.toList := by
  unfold partEl at h
  split at h
  · rename_i v h1
    have hvr := hv _ _ h1
    split at h
    · rename_i vs h2
      exact VRs.mono (fun b hb => ⟨.inl hb, rfl⟩) e y _ (VRs.of_ofC e vs y _ h (cellsOf_VR h2 hvr))
    · rename_i h2
      split at h
      · rename_i e'
        cases v with
        | own k win t =>
          unfold elemsAs at h
          split at h
          · rename_i e2 xs hel
            obtain ⟨he, hx⟩ := castL_eq h
            subst he
            have hx : xs = y := hx
            subst hx
            have hg : gnd1 H (.own k win t) = some (.c (.sl e2 xs t)) := by
              unfold elems at hel
              simp only at hel
              split at hel
              · rename_i e3 xs3 n3 hH
                cases hel
                simp only [gnd1, hH]
              · cases hel
            have h3 := gnd1_VR (keys := keys) hi hg hvr (fun j hj => hk j (by simpa [opKey, h1] using hj))
            obtain ⟨ad, cap, g1, g2, g3, g4⟩ := h3
            exact ⟨ad, cap, by rw [g1]; rfl, g2, g4⟩
          · cases h
        | c z => cases h2
        | agg z => cases h2
        | _ => simp [elemsAs, elems] at h
      · cases h
  · cases h
theorem put_hp (st : St) (dst : Option Tmp) (v : V) : (put st dst v).hp = st.hp := by cases dst <;> rfl
theorem hset_put (st : St) (dst : Option Tmp) (v : V) (k : Nat) (ob : O) : hset (put st dst v) k ob = { tm := (put st dst v).tm, hp := updAll st.hp [(k, ob)] } := by
  simp only [hset, put_hp]
  rfl
theorem E_buildSlice {t : TypeId} {len : Nat} {parts : Array (Nat × Operand)} (hT : TabOK P E.T) (ho : o.op = .buildSlice t len parts) (h : evalE E o st ρ K = some r) (hr : RS x γ st a w) : Eff P o K r x a w := by
  have hv := hr.ops'
  simp only [evalE, ho] at h
  split at h
  · rename_i e hs
    split at h
    · rename_i xs hxs
      generalize hks : partKeys (opV st) parts.toList = keys at h
      obtain ⟨hd, h⟩ := cond_some h rfl
      simp only [Bool.and_eq_true, decide_eq_true_eq] at hd
      obtain ⟨cells, et, hrun, hR, hl⟩ := run_buildSlice (w := w) (a := a) (A := A0k x γ w keys) hT ho hs hd.2 (fun p hp y hy => partEl_VRs hr.inv hv hy fun k hk => hks ▸ partKeys_mem hp hk) hxs
      have h2 := hr.drop keys
      rw [hset_put] at h
      refine ⟨_, h, .inl ⟨_, _, hrun, h2.step (by simpa using hd.1) (Res.new (i := .at w.heap.size len) h2.inv (Grows.alloc w _) (by simp) NoOsl.arr ?_ ?_)⟩⟩
      · refine ⟨by simp, by omega, cells, et, heap_new w _, ?_, fun i q hq => ?_⟩
        · have := hR.1
          simp only [Array.length_toList] at this
          rw [this, hl]
          exact Nat.le_refl _
        · refine VRs.mono (fun b hb => ?_) e q _ (hR.2 i q hq)
          exact Av.set (by simp) (Grows.alloc w _) b (A0k_del hr.inv hb)
      · exact ⟨.at w.heap.size len, e, xs, false, by simp [gset], by simp [Vi.upd], by rw [hl], by omega, by simp⟩
    · cases h
  · cases h
theorem knotCds_R {k b : Nat} {A : Nat → Prop} {c : Nat} (hk : γ k = some (.at b c)) : ∀ {caps : List V} {cds : List CD} {us : List Value}, knotCds k caps = some cds → All2 (VR1 γ w A H) caps us → All2 (CDR γ w A b) cds us
  | [], cds, [], h, _ => by cases h; trivial
  | v :: caps, cds, u :: us, h, hv => by
    simp only [knotCds] at h
    split at h
    · rename_i cd l h1 h2
      cases h
      refine ⟨?_, knotCds_R hk h2 hv.2⟩
      have hv1 := hv.1
      cases v with
      | ptr j off =>
        cases off with
        | succ off => simp [knotCd] at h1
        | zero =>
          simp only [knotCd] at h1
          cases hb : Nat.beq j k with
          | true =>
            rw [hb, cond_true, Option.some.injEq] at h1
            subst h1
            obtain ⟨b', c', e1, e2⟩ := hv1
            rw [Nat.eq_of_beq_eq_true hb, hk] at e1
            cases e1
            exact e2
          | false =>
            rw [hb, cond_false, Option.some.injEq] at h1
            subst h1
            exact hv1
      | fptr g cds' =>
        simp only [knotCd, Option.map_eq_some_iff] at h1
        obtain ⟨ks, h1, rfl⟩ := h1
        obtain ⟨b', us', e1, e2, e3⟩ := hv1
        refine ⟨b', us', e1, e2, ?_⟩
        clear h2 e1 e2 hv
        induction cds' generalizing ks us' with
        | nil =>
          cases h1
          cases us' with | nil => trivial | cons _ _ => exact e3.elim
        | cons d ds ih =>
          cases us' with
          | nil => exact e3.elim
          | cons u' us' =>
            cases d with
            | b j =>
              simp only [cdKeys, Option.map_eq_some_iff] at h1
              obtain ⟨l, hl, rfl⟩ := h1
              exact ⟨e3.1, ih l hl us' e3.2⟩
            | s => simp [cdKeys] at h1
            | v g l => simp [cdKeys] at h1
      | _ => simp [knotCd] at h1
    · cases h
  | [], _, _ :: _, _, h => h.elim
  | _ :: _, _, [], _, h => h.elim
theorem knotTm_get (k : Nat) (X : V) : ∀ (tm : List V) (t : Nat), (knotTm k X tm)[t]? = (tm[t]?).map (knotV k X)
  | [], t => by simp [knotTm]
  | v :: r, 0 => by simp [knotTm]
  | v :: r, t + 1 => by simp [knotTm, knotTm_get k X r t]
theorem knotTm_length (k : Nat) (X : V) : ∀ (tm : List V), (knotTm k X tm).length = tm.length
  | [] => rfl
  | v :: r => by simp [knotTm, knotTm_length k X r]
/-- A function's variable gets its function. -/
theorem E_knot {t : TypeId} {p y : Operand} (hT : TabOK P E.T) (hf : memN t E.T.fns = true) (ho : o.op = .store t p y) (h : evalE E o st ρ K = some r) (hr : RS x γ st a w) : Eff P o K r x a w := by
  have hv := hr.ops'
  simp only [evalE, ho, hf, cond_true, evalKnot] at h
  split at h
  · rename_i k f caps h1 h2
    split at h
    · rename_i cds hH hcd
      obtain ⟨hb0, h⟩ := cond_some h rfl
      rw [Bool.and_eq_true, Bool.not_eq_true'] at hb0
      obtain ⟨hlo, hnr⟩ := hb0
      obtain ⟨b, c, hg, he⟩ := hv _ _ h1
      obtain ⟨us, e1, hcs⟩ := hv _ _ h2
      obtain ⟨ob, hob, hR⟩ := hr.inv.own k _ hg
      rw [hH] at hob
      cases hob
      obtain ⟨v0, et, hb⟩ := hR
      obtain ⟨i, d, z, v, hi1, hd, hsz, hz, hzc, ha⟩ := (hT.fns t (memN_of hf)).ex
      have hrun0 := run_storeCells_at P b 0 et [Value.func (.func f) #[] us.toArray] 0 #[v0] w hb (by simp) (by intro v hv; rw [List.mem_singleton.1 hv]; rfl)
      have hav0 : ∀ j, Av x γ w j → Av x γ (w.setRow b #[Value.func (.func f) #[] us.toArray]) j ∧ (w.setRow b #[Value.func (.func f) #[] us.toArray]).heap[j]? = w.heap[j]? := fun j hj =>
        ⟨⟨by rw [setRow_size]; exact hj.1, hj.2.1, hj.2.2⟩, setRow_other w b j _ fun e => hj.2.2 k c (e ▸ hg)⟩
      have hb2 : (w.setRow b #[Value.func (.func f) #[] us.toArray]).heap[b]? = some (.cells #[Value.func (.func f) #[] us.toArray] et (0, 0)) := setRow_heap w b #[v0] _ et (0, 0) hb
      have hr2 := RS.upd (v := .undef) (u := undef) (dst := o.dst) hr hg hH (ob' := .fbox) trivial (Turns.setRow w b #[Value.func (.func f) #[] us.toArray]) (OslKeep.no fun _ _ e => by cases e) ⟨_, et, hb2⟩ trivial
      have hr3 := hr2.drop [k]
      have hpt : (hset (put st o.dst .undef) k .fbox).tm = (put st o.dst .undef).tm := rfl
      have hph : (hset (put st o.dst .undef) k .fbox).hp = upd st.hp k .fbox := by cases o.dst <;> rfl
      have hAb : Av x (gdel γ [k]) (w.setRow b #[Value.func (.func f) #[] us.toArray]) b := by
        refine ⟨by rw [setRow_size]; exact (hr.inv.rng k b c hg).2, fun hlt => ?_, fun j c' hj => ?_⟩
        · rcases (hr.inv.rng k b c hg).1 with h3 | h3
          · omega
          · exact x.ma b h3
        · obtain ⟨h3, h4⟩ := gdel_some hj
          exact h3 (List.mem_singleton.2 (hr.inv.inj j k b c' c h4 hg))
      have hX : VR1 (gdel γ [k]) (w.setRow b #[Value.func (.func f) #[] us.toArray]) (Av x (gdel γ [k]) (w.setRow b #[Value.func (.func f) #[] us.toArray])) (era st.hp k) (.fptr f cds) (.pointer (some ⟨b, 0, none⟩)) := by
        refine ⟨b, us, rfl, ⟨hAb, et, (0, 0), hb2⟩, ?_⟩
        have h5 := CDR.keys (γ' := gdel γ [k]) (cds := cds) (b := b) (w := w) (A := Av x γ w) (fun j hj => gdel_ne (by
          intro hm
          rw [List.mem_singleton.1 hm, hnr] at hj
          cases hj)) (knotCds_R hg hcd hcs)
        refine h5.mono (CDR.mono fun j hj => ?_)
        obtain ⟨h6, h7⟩ := hav0 j hj
        exact ⟨⟨h6.1, h6.2.1, fun q c' hq => h6.2.2 q c' (gdel_some hq).2⟩, h7⟩
      have hhp : era st.hp k = (drop (hset (put st o.dst .undef) k .fbox) [k]).hp := by
        funext j
        show era st.hp k j = eraAll (hset (put st o.dst .undef) k .fbox).hp [k] j
        rw [hph, eraAll_get]
        by_cases hj : j = k
        · subst hj
          simp [era]
        · simp [era, beq_false hj, upd, hj]
      refine ⟨_, h, .inr (.inl ⟨w.setRow b #[Value.func (.func f) #[] us.toArray], ?_, gdel γ [k], ?_⟩)⟩
      · simp only [execOp, ho, he, e1, Instr.storeAt, Instr.sureAddr, storeVar, Sem.run_bind, Sem.run_pure, Result.andThen_ok, run_sizeOf' hi1, hsz, Value.cells]
        have hrun1 : (storeCells ⟨b, 0, none⟩ [Value.func (.func f) #[] us.toArray]).run P w = .ok () (w.setRow b #[Value.func (.func f) #[] us.toArray]) := by simpa using hrun0
        simp [hrun1]
      · refine ⟨?_, ?_, ?_, ?_⟩
        · have := hr3.inv
          rw [← hhp] at this
          rw [put_hp]
          exact this
        · rw [put_size]
          have := hr.len
          cases o.dst <;> simp [put, knotTm_length, this]
        · intro s y' hy'
          rw [put_hp]
          have old : ∀ y0, st.tm[s]? = some y0 → o.dst ≠ some s → y' = knotV k (.fptr f cds) y0 → VR (gdel γ [k]) (w.setRow b #[Value.func (.func f) #[] us.toArray]) (Av x (gdel γ [k]) (w.setRow b #[Value.func (.func f) #[] us.toArray])) (era st.hp k) y' (a.tmps.getD s undef) := by
            intro y0 hy0 hds hk0
            by_cases hpk : y0 = .ptr k 0
            · subst hpk
              have hb1 : Nat.beq k k = true := Nat.beq_refl k
              simp only [knotV, hb1, cond_true] at hk0
              subst hk0
              obtain ⟨b', c', g1, g2⟩ := hr.tm s _ hy0
              rw [hg] at g1
              cases g1
              rw [g2]
              exact hX
            · have hk1 : knotV k (.fptr f cds) y0 = bif refs k y0 then .undef else y0 := by
                unfold knotV
                split
                · rename_i j
                  have hjk : Nat.beq j k = false := by
                    cases hb : Nat.beq j k
                    · rfl
                    · exact absurd (by rw [Nat.eq_of_beq_eq_true hb]) hpk
                  simp [hjk, refs, refs1]
                · rfl
              rw [hk1] at hk0
              cases hrf : refs k y0 with
              | true => rw [hrf, cond_true] at hk0; subst hk0; trivial
              | false =>
                rw [hrf, cond_false] at hk0
                subst hk0
                have h8 := hr3.tm s y' (by
                  show (cleanTm [k] (hset (put st o.dst .undef) k .fbox).tm)[s]? = some y'
                  rw [cleanTm_get, hpt]
                  have : (put st o.dst .undef).tm[s]? = some y' := by
                    cases hd2 : o.dst with
                    | none => exact hy0
                    | some d2 =>
                      simp only [put, List.getElem?_set]
                      rw [if_neg (fun e => hds (by rw [hd2, e]))]
                      exact hy0
                  rw [this, Option.map_some]
                  simp [anyRefs, hrf])
                rw [← hhp] at h8
                have h9 : (a.put o.dst undef).tmps.getD s undef = a.tmps.getD s undef := by
                  cases hd2 : o.dst with
                  | none => rfl
                  | some d2 =>
                    rw [put_getD]
                    rw [if_neg (fun e => hds (by rw [hd2, e.1]))]
                rw [h9] at h8
                exact h8
          cases hd2 : o.dst with
          | none =>
            rw [hd2] at hy'
            simp only [put, knotTm_get, Option.map_eq_some_iff] at hy'
            obtain ⟨y0, hy0, hyk⟩ := hy'
            exact old y0 hy0 (by rw [hd2]; simp) hyk.symm
          | some d2 =>
            rw [hd2] at hy'
            simp only [put, List.getElem?_set] at hy'
            split at hy'
            · split at hy'
              · cases hy'
                trivial
              · cases hy'
            · rename_i hdt
              simp only [knotTm_get, Option.map_eq_some_iff] at hy'
              obtain ⟨y0, hy0, hyk⟩ := hy'
              rw [put_getD, if_neg (fun e => hdt e.1.symm)]
              exact old y0 hy0 (by rw [hd2]; simpa using hdt) hyk.symm
        · rw [put_defers]; exact hr.nod
    · cases h
  · cases h
end Go.Vi
/-
  Vi: operations that change what is the call's own: an own slice is appended to.
-/
set_option linter.unusedVariables false
set_option linter.unusedSimpArgs false
namespace Go.Vi
open Op
variable {P : Program} {E : Env} {o : Oper} {ρ : Type} {r : ρ} {x : Cx} {γ : Gam} {H : Heap} {w : World} {a : Act} {st : St} {K : St → Option ρ}
theorem inv_renew {w' : World} {k key b c c' : Nat} {ob' : O} (hi : Inv x γ H w) (hlo : key < oslLo) (hno : NoOsl ob') (hk : γ k = some (.at b c)) (ht : Turns b w w') (hob : objR w' (Av x γ w') ob' (.at b c')) :
    Inv x (gset (gdel γ [k]) key (.at b c')) (upd (eraAll H [k]) key ob') w' ∧
    ∀ y u, refs k y = false → refs key y = false → VR γ w (Av x γ w) H y u →
      VR (gset (gdel γ [k]) key (.at b c')) w' (Av x (gset (gdel γ [k]) key (.at b c')) w') (upd (eraAll H [k]) key ob') y u := by
  have hg : ∀ j i, gset (gdel γ [k]) key (.at b c') j = some i → (j = key ∧ i = .at b c') ∨ (j ≠ key ∧ j ≠ k ∧ γ j = some i) := by
    intro j i hj
    unfold gset at hj
    split at hj
    · rename_i h1
      cases hj
      exact .inl ⟨h1, rfl⟩
    · rename_i h1
      obtain ⟨h2, h3⟩ := gdel_some hj
      exact .inr ⟨h1, by simpa using h2, h3⟩
  have hav0 : ∀ j, Av x γ w' j → Av x (gset (gdel γ [k]) key (.at b c')) w' j := fun j hj => ⟨hj.1, hj.2.1, fun k' c'' hk' => by
    rcases hg k' _ hk' with ⟨h1, h2⟩ | ⟨h1, h2, h3⟩
    · cases h2
      exact hj.2.2 k c hk
    · exact hj.2.2 k' c'' h3⟩
  have hav : ∀ j, Av x γ w j → Av x (gset (gdel γ [k]) key (.at b c')) w' j ∧ w'.heap[j]? = w.heap[j]? := fun j hj =>
    ⟨hav0 j ⟨by rw [ht.size]; exact hj.1, hj.2.1, hj.2.2⟩, ht.blk j fun e => hj.2.2 k c (e ▸ hk)⟩
  have hH : ∀ j, j ≠ key → j ≠ k → upd (eraAll H [k]) key ob' j = H j := fun j h1 h2 => by
    rw [upd_ne _ _ h1, eraAll_get, if_neg (by simpa using h2)]
  have hgn : ∀ j, j ≠ key → j ≠ k → gset (gdel γ [k]) key (.at b c') j = γ j := fun j h1 h2 => by
    unfold gset
    rw [if_neg h1, gdel_ne (by simpa using h2)]
  refine ⟨⟨by rw [ht.size]; exact hi.size, ht.os.trans hi.os, ht.tape.trans hi.tape, ht.output.trans hi.output, ?_, ?_, ?_, ?_, ?pin, ?lnk⟩, ?_⟩
  case lnk =>
    intro j cs off b1 c1 ob1 h1 h2 h3 h4
    have hne : Vi.hk j off ≠ key := fun e => by have := hk_lo j off; omega
    by_cases hj : j = key
    · subst hj
      rw [upd_self] at h1
      cases h1
      exact absurd h2 (hno cs off rfl)
    · by_cases hj2 : j = k
      · subst hj2
        rw [upd_ne _ _ hj, eraAll_get, if_pos (by simp)] at h1
        cases h1
      · rw [hH j hj hj2] at h1
        rw [hgn j hj hj2] at h3
        by_cases hj3 : Vi.hk j off = k
        · rw [upd_ne _ _ hne, eraAll_get, if_pos (by simp [hj3])] at h4
          cases h4
        · rw [hH _ hne hj3] at h4
          obtain ⟨i, e1, e2⟩ := hi.lnk j cs off b1 c1 ob1 h1 h2 h3 h4
          refine ⟨i, by rw [hgn _ hne hj3]; exact e1, e2.mono (ht.blk b1 fun e => ?_) (hH _ hne hj3)⟩
          subst e
          exact hj2 (hi.inj j k b1 c1 c h3 hk)
  case pin =>
    intro j i hp hHj
    have hjk : j ≠ key := fun e => by
      have := x.pinlo j i hp
      have := osl_pin
      omega
    by_cases hj2 : j = k
    · subst hj2
      rw [upd_ne _ _ hjk, eraAll_get, if_pos (by simp)] at hHj
      exact absurd rfl hHj
    · rw [hH j hjk hj2] at hHj
      rw [hgn j hjk hj2]
      exact hi.pin j i hp hHj
  · intro j hj hm
    refine (ht.blk j fun e => ?_).trans (hi.blk j hj hm)
    subst e
    rcases (hi.rng k j c hk).1 with h | h
    · omega
    · exact hm h
  · intro j i hj
    rcases hg j i hj with ⟨rfl, rfl⟩ | ⟨h1, h2, h3⟩
    · exact ⟨ob', upd_self _ _ _, objR.mono (fun q hq => ⟨hav0 q hq, rfl⟩) _ _ (fun _ _ _ => rfl) hob⟩
    · obtain ⟨ob2, h4, h5⟩ := hi.own j i h3
      refine ⟨ob2, (hH j h1 h2).trans h4, objR.mono hav _ _ (fun b' c'' hb => ht.blk b' fun e => ?_) h5⟩
      subst e
      exact h2 (hi.inj j k b' c'' c (hb ▸ h3) hk)
  · intro j b' c'' hj
    rw [ht.size]
    rcases hg j _ hj with ⟨_, h2⟩ | ⟨_, _, h3⟩
    · cases h2
      exact hi.rng k b c hk
    · exact hi.rng j b' c'' h3
  · intro j j' b' c1 c2 hj hj'
    rcases hg j _ hj with ⟨h1, h2⟩ | ⟨h1, h2, h3⟩ <;> rcases hg j' _ hj' with ⟨g1, g2⟩ | ⟨g1, g2, g3⟩
    · exact h1.trans g1.symm
    · cases h2
      exact absurd (hi.inj j' k b c2 c g3 hk) g2
    · cases g2
      exact absurd (hi.inj j k b c1 c h3 hk) h2
    · exact hi.inj j j' b' c1 c2 h3 g3
  · intro y u h1 h2 hv
    refine VR.key (ks := [key, k]) (fun j hj => ?_) (fun j hj => ?_) y u (fun q hq => ?_) (VR.mono hav y u hv)
    · simp only [List.mem_cons, List.not_mem_nil, or_false, not_or] at hj
      exact hgn j hj.1 hj.2
    · simp only [List.mem_cons, List.not_mem_nil, or_false, not_or] at hj
      exact hH j hj.1 hj.2
    · simp only [List.mem_cons, List.not_mem_nil, or_false] at hq
      rcases hq with rfl | rfl
      · exact h2
      · exact h1
theorem rs_renew {w' : World} {k key b c c' : Nat} {ob' : O} {v : V} {u : Value} {dst : Option Tmp} (h : RS x γ st a w) (hk : γ k = some (.at b c)) (ht : Turns b w w') (hno : NoOsl ob') (hob : objR w' (Av x γ w') ob' (.at b c'))
    (hd : dead (drop st [k]) dst key = true)
    (hv : VR (gset (gdel γ [k]) key (.at b c')) w' (Av x (gset (gdel γ [k]) key (.at b c')) w') (upd (eraAll st.hp [k]) key ob') v u) :
    RS x (gset (gdel γ [k]) key (.at b c')) { tm := (put (drop st [k]) dst v).tm, hp := updAll (drop st [k]).hp [(key, ob')] } (a.put dst u) w' := by
  obtain ⟨hlo, hd⟩ := dead_spec hd
  obtain ⟨h1, h2⟩ := inv_renew (key := key) h.inv hlo hno hk ht hob
  have old : ∀ t y, (drop st [k]).tm[t]? = some y → refs key y = false →
      VR (gset (gdel γ [k]) key (.at b c')) w' (Av x (gset (gdel γ [k]) key (.at b c')) w') (upd (eraAll st.hp [k]) key ob') y (a.tmps.getD t undef) := by
    intro t y hy hr
    simp only [Vi.drop, cleanTm_get, Option.map_eq_some_iff] at hy
    obtain ⟨z, hz, hzy⟩ := hy
    cases hzk : anyRefs [k] z with
    | true =>
      rw [hzk] at hzy
      simp only [cond_true] at hzy
      subst hzy
      trivial
    | false =>
      rw [hzk] at hzy
      simp only [cond_false] at hzy
      subst hzy
      exact h2 z _ (by simpa [anyRefs] using hzk) hr (h.tm t z hz)
  have hlen : (drop st [k]).tm.length = st.tm.length := by simp [Vi.drop, cleanTm_length]
  refine ⟨h1, ?_, ?_, ?_⟩
  · rw [put_size, ← h.len, ← hlen]
    cases dst <;> simp [put]
  · intro t y hy
    cases dst with
    | none =>
      simp only [put] at hy
      exact old t y hy (noRef_get (by simpa [put] using hd) hy)
    | some d =>
      rw [put_getD]
      simp only [put, List.getElem?_set] at hy
      split at hy
      · rename_i hdt
        split at hy
        · rename_i hlt
          cases hy
          rw [if_pos ⟨hdt.symm, by rw [← h.len, ← hlen]; exact hlt⟩]
          exact hv
        · cases hy
      · rename_i hdt
        rw [if_neg (fun e => hdt e.1.symm)]
        refine old t y hy (noRef_get (tm := (drop st [k]).tm.set d .undef) (by simpa [put] using hd) (t := t) ?_)
        rw [List.getElem?_set, if_neg hdt]
        exact hy
  · rw [put_defers]; exact h.nod
theorem cells_eq_row {b off : Nat} {cur : Array Value} {et : TypeId} (P : Program) (h : w.heap[b]? = some (.cells cur et (0, 0))) (ds : List Value) (hl : off + ds.length ≤ cur.size) (h1 : ∀ v ∈ ds, v.oneCell' = true) :
    w.setCells b off ds = w.setRow b (cur.toList.take off ++ ds ++ cur.toList.drop (off + ds.length)).toArray ∧ (∀ j, j < ds.length → (w.cell? ⟨b, off + j, none⟩).isSome = true) ∧ (∀ j, j < ds.length → w.frozen? ⟨b, off + j, none⟩ = false) := by
  have hc : ∀ j, j < ds.length → (w.cell? ⟨b, off + j, none⟩).isSome = true := fun j hj => by
    rw [cell_row h]
    simp
    omega
  have hf : ∀ j, j < ds.length → w.frozen? ⟨b, off + j, none⟩ = false := fun j hj => by simp [World.frozen?, h]
  refine ⟨?_, hc, hf⟩
  have h2 := run_storeCells_at P b off et ds 0 cur w h (by omega) h1
  have h3 := run_storeCells_cells (P := P) b off ds 0 w (by simpa using hc) (by simpa using hf) h1
  rw [h2] at h3
  simp only [Nat.add_zero, Result.ok.injEq, true_and] at h3
  exact h3.symm
theorem E_append {c : Call} (hT : TabOK P E.T) (ho : o.op = .call c) (hc : c.callee = .builtin .append) (h : evalE E o st ρ K = some r) (hr : RS x γ st a w) : Eff P o K r x a w := by
  have hv := hr.ops'
  simp only [evalE, ho, hc] at h
  split at h
  · rename_i y z t tx hargs htys
    have hargs' : c.args.map a.eval = #[a.eval y, a.eval z] := by
      apply Array.ext'
      simp [hargs]
    have htys' : c.argTypes = #[t, tx] := by
      apply Array.ext'
      simp [htys]
    split at h
    · rename_i e ex0 e2 ys2 hs hsx hz
      obtain ⟨vz, hvz, hez⟩ := Option.bind_eq_some_iff.1 hz
      obtain ⟨et, hu, hbe, hnc⟩ := (hT.sh t _ hs).sl e rfl
      obtain ⟨ext, hux, _⟩ := (hT.sh tx _ hsx).sl _ rfl
      split at h
      · rename_i ys k win hcast hvy
        obtain ⟨he, hys⟩ := castL_eq hcast
        subst he
        have hys : ys2 = ys := hys
        subst hys
        split at h
        · rename_i e' xs' nilE hH
          split at h
          · rename_i xs hxs
            obtain ⟨he, hx⟩ := castL_eq hxs
            subst he
            have hx : view win xs' = xs := hx
            subst hx
            obtain ⟨hd, h⟩ := cond_some h rfl
            simp only [Bool.and_eq_true, decide_eq_true_eq] at hd
            obtain ⟨⟨d1, d3⟩, d2⟩ := hd
            have hvr := hv _ _ hvy
            obtain ⟨adz, capz, ds, ez, hcz, hrz, hlz⟩ := elems_cells hnc hr.inv (hv _ _ hvz) hez
            have hsrc : Src P e'.nc tx (a.eval z) ys2.length ds w := by rw [ez]; exact src_of hux hrz hlz
            obtain ⟨ad, cap, cs, e1, e2, e3, e4⟩ := elems_cells (v := .own k win false) (xs := view win xs') hnc hr.inv hvr (by simp only [elems, hH])
            obtain ⟨i, e0, xs0, nilE0, hg, hH', hsl⟩ := hvr
            rw [hH] at hH'
            cases hH'
            rw [hset_put] at h
            have hdrop := hr.drop [k]
            have hA : ∀ b, Av x γ w b → Av x (gdel γ [k]) w b := fun b hb => A0k_del hr.inv (.inl hb)
            by_cases hroom : cap < (view win xs').length + ys2.length
            · -- a new row
              obtain ⟨c', w', hrun, hgw, hlt, cur, hb, hc', hcs, hel⟩ := grow_res (ty := o.type) (tx := tx) (ex := ext) hnc hu hbe e3 e4 hrz hsrc d2 hroom
              have hrun' : (execOp a.eval o).run P w = .ok (.value (.slice (some ⟨w.heap.size, 0, none⟩) ((view win xs').length + ys2.length) c')) w' := by
                refine exec_builtin ho hc ?_
                rw [hargs', htys', e1]
                simp only [builtin, Sem.run_bind, hrun, Result.andThen_ok, Sem.run_pure]
              refine ⟨_, h, .inl ⟨_, _, hrun', hdrop.step (by simpa using d1) (Res.new (i := .at w.heap.size c') hdrop.inv hgw (by simpa using hlt) NoOsl.arr ?_ ?_)⟩⟩
              · refine ⟨fun hn h0 => ?_, by simpa using hc', cur, et, hb, hcs, fun i q hq => VRs.mono (fun j hj => Av.set (by simp) hgw j (hA j hj)) e' q _ (hel i q hq)⟩
                have := congrArg List.length h0
                simp only [List.length_append, List.length_nil] at this
                cases i with
                | emp =>
                  obtain ⟨ad', g1, g2, g3, g4⟩ := hsl
                  rw [e1] at g1
                  simp only [Value.slice.injEq] at g1
                  omega
                | «at» b c =>
                  omega
              · exact ⟨.at w.heap.size c', e', view win xs' ++ ys2, _, by simp [gset], upd_self _ _ _, by simp, by simpa using hc', by simp⟩
            · cases i with
              | emp =>
                -- nothing is appended to nothing
                obtain ⟨ad', g1, g2, g3, g4⟩ := hsl
                rw [e1] at g1
                simp only [Value.slice.injEq] at g1
                obtain ⟨rfl, g5, g6⟩ := g1
                have hxe : view win xs' = [] := List.eq_nil_of_length_eq_zero g5
                have hye : ys2 = [] := List.eq_nil_of_length_eq_zero (by omega)
                subst hye
                rw [hxe] at h e1 hroom
                subst g6
                have hds : ds = [] := List.eq_nil_of_length_eq_zero (by have := hrz.1; simpa using this)
                subst hds
                have hrun : (execOp a.eval o).run P w = .ok (.value (.slice ad 0 0)) w := by
                  obtain ⟨ii, d, zz, hii, hd, hsz, _⟩ := hbe.ex
                  refine exec_builtin ho hc ?_
                  have hcells := hsrc.cells
                  rw [hargs', htys', e1]
                  simp only [List.length_nil] at hcells ⊢
                  cases ad with
                  | none => simp [builtin, Builtin.append_, run_underlying hu, run_underlying hux, run_sizeOf' hii, hsrc.len, hsz, hcells]
                  | some ad => simp [builtin, Builtin.append_, run_underlying hu, run_underlying hux, run_sizeOf' hii, hsrc.len, hsz, hcells, storeCells]
                refine ⟨_, h, .inl ⟨_, w, hrun, hdrop.step (by simpa using d1) (Res.new (i := .emp) hdrop.inv (Grows.refl w) (by simp) NoOsl.arr rfl ?_)⟩⟩
                refine ⟨.emp, e', [] ++ [], _, by simp [gset], upd_self _ _ _, ad, rfl, fun hn => ?_, rfl, by simp⟩
                simp only [Bool.and_eq_true] at hn
                exact g2 hn.1
              | «at» b c0 =>
                -- there is room
                have hsl' : ad = some ⟨b, 0, none⟩ ∧ wo win = 0 ∧ cap ≤ c0 ∧ (win = none → cap = c0) := by
                  cases win with
                  | none =>
                    obtain ⟨g1, g2, g3⟩ := hsl
                    rw [e1] at g1
                    simp only [Value.slice.injEq] at g1
                    exact ⟨g1.1, rfl, by omega, fun _ => g1.2.2⟩
                  | some p =>
                    obtain ⟨p, l⟩ := p
                    obtain ⟨oo, cap', g1, g2, g3, g4, g5, g6, g7⟩ := hsl
                    rw [e1] at g1
                    simp only [Value.slice.injEq] at g1
                    have hp : p = 0 := Nat.eq_of_beq_eq_true d3
                    have := g7 hp
                    subst this
                    exact ⟨g1.1, hp, by omega, fun h => by cases h⟩
                obtain ⟨rfl, hw0, hcc, _⟩ := hsl'
                obtain ⟨ob, hob, hR⟩ := hr.inv.own k _ hg
                rw [hH] at hob
                cases hob
                obtain ⟨hne, hxc, cur, et', hb, hsz, hel⟩ := hR
                obtain ⟨ii, d, zz, hii, hd', hsz', _⟩ := hbe.ex
                have hdl := hrz.1
                have hcap : cap * e'.nc ≤ cur.size := Nat.le_trans (Nat.mul_le_mul_right _ hcc) hsz
                have hfit : (view win xs').length * e'.nc + ds.length ≤ cur.size := by
                  have := Nat.mul_le_mul_right e'.nc (show (view win xs').length + ys2.length ≤ cap by omega)
                  rw [Nat.add_mul] at this
                  omega
                obtain ⟨q1, q2, q3⟩ := cells_eq_row (off := (view win xs').length * e'.nc) P hb ds hfit hrz.one
                have hrun := run_append_room_src (P := P) (w := w) t tx o.type et ii hu hii b 0 (view win xs').length cap (a.eval z) ys2.length ds (by rw [hsz']; exact hsrc) (by omega)
                  (by simpa [hsz'] using q2) (by simpa [hsz'] using q3)
                simp only [Nat.zero_add, hsz', q1] at hrun
                have hrun' : (execOp a.eval o).run P w = .ok (.value (.slice (some ⟨b, 0, none⟩) ((view win xs').length + ys2.length) cap)) (w.setRow b (cur.toList.take ((view win xs').length * e'.nc) ++ ds ++ cur.toList.drop ((view win xs').length * e'.nc + ds.length)).toArray) := by
                  refine exec_builtin ho hc ?_
                  rw [hargs', htys', e1]
                  simp only [builtin, Sem.run_bind, hrun, Result.andThen_ok, Sem.run_pure]
                have hav : ∀ (row : Array Value) j, Av x γ w j → Av x γ (w.setRow b row) j ∧ (w.setRow b row).heap[j]? = w.heap[j]? := fun row j hj =>
                  ⟨⟨by rw [setRow_size]; exact hj.1, hj.2.1, hj.2.2⟩, setRow_other w b j _ fun e => hj.2.2 k c0 (e ▸ hg)⟩
                refine ⟨_, h, .inl ⟨_, _, hrun', _, rs_renew hr hg (Turns.setRow w b _) (c' := cap) NoOsl.arr ?_ d1 ?_⟩⟩
                · refine ⟨fun hn h0 => ?_, by simp; omega, _, et', setRow_heap w b cur _ et' _ hb, ?_, fun j q hq => ?_⟩
                  · simp only [Bool.and_eq_true] at hn
                    have hwn : win = none := by simpa using hn.2
                    subst hwn
                    have h00 := congrArg List.length h0
                    simp only [List.length_append, List.length_nil] at h00
                    exact hne hn.1 (List.eq_nil_of_length_eq_zero (by simp only [view] at h00; omega))
                  · simp only [List.size_toArray, List.length_append, List.length_take, List.length_drop, Array.length_toList]
                    omega
                  · rw [List.toList_toArray]
                    refine VRs.mono (hav _) e' q _ ?_
                    have hrows : RowsR w (Av x γ w) e' (view win xs' ++ ys2) (cs ++ ds) := e3.append hrz
                    have hq' := hrows.2 j q hq
                    have hcs : cs = cur.toList.take ((view win xs').length * e'.nc) := by
                      rcases e4 with h0 | ⟨b1, o1, cur1, et1, fz1, f1, f2, f3, f4⟩
                      · have := e3.1
                        rw [h0] at this ⊢
                        simp only [List.length_nil, Nat.zero_mul, List.take_zero] at this ⊢
                        exact List.eq_nil_of_length_eq_zero this
                      · simp only [Option.some.injEq, Addr.mk.injEq] at f1
                        obtain ⟨rfl, rfl, _⟩ := f1
                        rw [hb] at f2
                        cases f2
                        simpa using f4
                    rw [← hcs]
                    have hin := (List.getElem?_eq_some_iff.1 hq).1
                    simp only [List.length_append] at hin
                    have hbnd : j * e'.nc + e'.nc ≤ (cs ++ ds).length := by
                      rw [hrows.1, List.length_append]
                      have := Nat.mul_le_mul_right e'.nc (show j + 1 ≤ (view win xs').length + ys2.length by omega)
                      rwa [Nat.add_mul, Nat.one_mul] at this
                    rw [List.drop_append_of_le_length (by omega), List.take_append_of_le_length (by simp at hbnd ⊢; omega)]
                    exact hq'
                · exact ⟨.at b cap, e', view win xs' ++ ys2, _, by simp [gset], upd_self _ _ _, by simp, by simp; omega, by simp⟩
          · cases h
        · cases h
      · cases h
    · cases h
  · cases h
end Go.Vi
/-
  Vi: operations that change what is the call's own: maps.
-/
set_option linter.unusedVariables false
set_option linter.unusedSimpArgs false
namespace Go.Vi
open Op
variable {P : Program} {E : Env} {o : Oper} {ρ : Type} {r : ρ} {x : Cx} {γ : Gam} {H : Heap} {w : World} {a : Act} {st : St} {K : St → Option ρ}
def setBlk (w : World) (b : Nat) (ob : Obj) : World := { w with heap := w.heap.setIfInBounds b ob }
theorem Turns.setBlk (w : World) (b : Nat) (ob : Obj) : Turns b w (setBlk w b ob) :=
  ⟨by simp [Vi.setBlk], rfl, rfl, rfl, fun j hj => by
    have : b ≠ j := fun e => hj e.symm
    simp only [Vi.setBlk, Array.getElem?_setIfInBounds, if_neg this]⟩
theorem setBlk_heap {w : World} {b : Nat} {o1 : Obj} (h : w.heap[b]? = some o1) (ob : Obj) : (setBlk w b ob).heap[b]? = some ob := by
  have : b < w.heap.size := (Array.getElem?_eq_some_iff.1 h).1
  simp [Vi.setBlk, this]
theorem run_getObj' {b : Nat} {es : Array MapEntry} {clock : Nat} (hb : w.heap[b]? = some (.map es clock)) : (getObj b).run P w = .ok (.map es clock) w := by
  simp [getObj, Sem.run, hb]
theorem run_setObj' {b : Nat} {es : Array MapEntry} {clock : Nat} (ob : Obj) (hb : w.heap[b]? = some (.map es clock)) : (setObj b ob).run P w = .ok () (setBlk w b ob) := by
  simp [setObj, Sem.run, hb, setBlk]
theorem findNow_at {A : Nat → Prop} {kk : IntKind} {e : Sh} {n : Int} {z : e.den} : ∀ (m : List (Int × e.den)) (es : List MapEntry) (i : Nat), All2 (entR w A kk e) m es →
    (∃ j en, es[j]? = some en ∧ en.key = .int kk n ∧ Instr.findNow (.int kk) (.int kk n) es i = some (some (i + j, en.val)) ∧
      (∀ en', entR w A kk e (n, z) en' → All2 (entR w A kk e) (aset m n z) (es.set j en')) ∧ All2 (entR w A kk e) (m.eraseP fun p => p.1 == n) (es.eraseIdx j)) ∨
    (Instr.findNow (.int kk) (.int kk n) es i = some none ∧ (∀ en', entR w A kk e (n, z) en' → All2 (entR w A kk e) (aset m n z) (es ++ [en'])) ∧ (m.eraseP fun p => p.1 == n) = m)
  | [], [], i, _ => .inr ⟨rfl, fun en' h => ⟨h, trivial⟩, rfl⟩
  | p :: m, en :: es, i, h => by
    have hk : en.key = .int kk p.1 := h.1.1
    by_cases hp : p.1 = n
    · have h1 : (p.1 == n) = true := by simpa using hp
      refine .inl ⟨0, en, rfl, by rw [hk, hp], ?_, fun en' he => ?_, ?_⟩
      · simp [Instr.findNow, hk, Instr.sameNow, hp]
      · simp only [aset, h1, cond_true, List.set_cons_zero]
        exact ⟨he, h.2⟩
      · simp only [List.eraseP_cons, h1, cond_true, List.eraseIdx_cons_zero]
        exact h.2
    · have h1 : (p.1 == n) = false := by simpa using hp
      have h2 : Instr.findNow (.int kk) (.int kk n) (en :: es) i = Instr.findNow (.int kk) (.int kk n) es (i + 1) := by
        have : (n == p.1) = false := by simpa using fun e => hp e.symm
        simp [Instr.findNow, hk, Instr.sameNow, this]
      rcases findNow_at (n := n) (z := z) m es (i + 1) h.2 with ⟨j, en0, g1, g2, g3, g4, g5⟩ | ⟨g1, g2, g3⟩
      · refine .inl ⟨j + 1, en0, by simpa using g1, g2, by rw [h2, g3]; simp; omega, fun en' he => ?_, ?_⟩
        · simp only [aset, h1, cond_false, List.set_cons_succ]
          exact ⟨h.1, g4 en' he⟩
        · simp only [List.eraseP_cons, h1, cond_false, List.eraseIdx_cons_succ]
          exact ⟨h.1, g5⟩
      · refine .inr ⟨h2.trans g1, fun en' he => ?_, ?_⟩
        · simp only [aset, h1, cond_false, List.cons_append]
          exact ⟨h.1, g2 en' he⟩
        · simp only [List.eraseP_cons, h1, cond_false, g3]
  | [], _ :: _, _, h => h.elim
  | _ :: _, [], _, h => h.elim
theorem Turns.av {w' : World} {b c k : Nat} (ht : Turns b w w') (hg : γ k = some (.at b c)) (j : Nat) (hj : Av x γ w j) : Av x γ w' j ∧ w'.heap[j]? = w.heap[j]? :=
  ⟨⟨by rw [ht.size]; exact hj.1, hj.2.1, hj.2.2⟩, ht.blk j fun e => hj.2.2 k c (e ▸ hg)⟩
theorem E_mapUpdate {t : TypeId} {p q y : Operand} (hT : TabOK P E.T) (ho : o.op = .mapUpdate t p q y) (h : evalE E o st ρ K = some r) (hr : RS x γ st a w) : Eff P o K r x a w := by
  have hv := hr.ops'
  simp only [evalE, ho] at h
  split at h
  · rename_i k kk n cs h1 h2 h3
    obtain ⟨b, c, hg, e1⟩ := hv _ _ h1
    have e3 := VR_int (hv _ _ h2)
    obtain ⟨v, g1, g2⟩ := Option.bind_eq_some_iff.1 h3
    have hvr := hv _ _ g1
    have hc := cellsOf_VR g2 hvr
    split at h
    · rename_i kk' e m kk2 e2 hH hm
      obtain ⟨hd, h⟩ := cond_some h rfl
      simp only [Bool.and_eq_true, decide_eq_true_eq] at hd
      obtain ⟨⟨⟨d1, d2⟩, d3⟩, d4⟩ := hd
      subst d1
      subst d2
      subst d3
      split at h
      · rename_i z hz
        have hval : valR w (Av x γ w) e2 z (a.eval y) := by
          have h5 := VRs.of_ofC e2 cs z _ hz hc
          rw [g1] at d4
          have d4 : vAgg v = e2.agg := of_decide_eq_true d4
          unfold valR
          cases v with
          | c y0 =>
            have d4 : e2.agg = false := d4.symm
            rw [if_neg (by simp [d4])]
            have h6 : (a.eval y).cells.toList = [a.eval y] := by
              cases y0 with
              | sl e0 xs0 t0 =>
                obtain ⟨ad, cap, f1, _⟩ := hvr
                rw [f1]
                rfl
              | osl =>
                have h7 : (a.eval y).oneCell' = true := hvr
                generalize a.eval y = q at h7
                cases q <;> first | rfl | (simp [Value.oneCell'] at h7)
              | _ => rw [show a.eval y = _ from hvr]; rfl
            rwa [h6] at h5
          | agg cs0 =>
            have d4 : e2.agg = true := d4.symm
            rw [if_pos d4]
            obtain ⟨vs, f1, f2⟩ := hvr
            rw [f1] at h5
            exact ⟨vs, f1, by simpa [Value.cells] using h5⟩
          | _ => cases g2
        obtain ⟨ob, hob, hR⟩ := hr.inv.own k _ hg
        rw [hH] at hob
        cases hob
        obtain ⟨es, clock, hb, hes⟩ := hR
        obtain ⟨kt, et, hu, hk, hbe⟩ := hT.maps t kk2 e2 hm
        have fin : ∀ (es' : Array MapEntry) (clock' : Nat), All2 (entR w (Av x γ w) kk2 e2) (aset m n z) es'.toList → (Instr.mapUpdate t (a.eval p) (a.eval q) (a.eval y)).run P w = .ok () (setBlk w b (.map es' clock')) → Eff P o K r x a w := by
          intro es' clock' hes' hrun
          refine ⟨_, h, .inr (.inl ⟨setBlk w b (.map es' clock'), ?_, γ, RS.upd (v := .undef) (u := undef) hr hg hH trivial (Turns.setBlk w b _) (OslKeep.no fun _ _ e => by cases e) ?_ trivial⟩)⟩
          · simp only [execOp, ho, Sem.run_bind, hrun, Result.andThen_ok, Sem.run_pure]
          · exact ⟨es', clock', setBlk_heap hb _, hes'.mono (entR.mono (Turns.av (Turns.setBlk w b _) hg))⟩
        rcases findNow_at (n := n) (z := z) m es.toList 0 hes with ⟨j, en, f1, f2, f3, f4, f5⟩ | ⟨f1, f2, f3⟩
        · have hj : es[j]? = some en := by simpa using f1
          refine fin (es.modify j fun e => { e with key := .int kk2 n, val := a.eval y }) clock ?_ ?_
          · have hlt : j < es.size := (Array.getElem?_eq_some_iff.1 hj).1
            have : (es.modify j fun e => { e with key := .int kk2 n, val := a.eval y }).toList = es.toList.set j { en with key := .int kk2 n, val := a.eval y } := by
              apply List.ext_getElem?
              intro i
              simp only [Array.getElem?_toList, Array.getElem?_modify, List.getElem?_set, Array.length_toList]
              by_cases hi : j = i
              · subst hi
                rw [if_pos rfl, if_pos rfl, if_pos hlt, hj]
                rfl
              · simp [hi]
            rw [this]
            exact f4 _ ⟨rfl, hval⟩
          · simp only [Instr.mapUpdate, e1, e3, Sem.run_bind, run_underlying hu, Result.andThen_ok, run_getObj' hb, run_checkKey hk, Instr.findKey, run_underlying hk, f3, Sem.run_pure, hj, Instr.keyThatStays, Nat.zero_add]
            simp [f2, Instr.sameBits, run_setObj' _ hb]
        · refine fin (es.push { key := .int kk2 n, val := a.eval y, born := clock }) (clock + 1) ?_ ?_
          · rw [Array.toList_push]
            exact f2 _ ⟨rfl, hval⟩
          · simp only [Instr.mapUpdate, e1, e3, Sem.run_bind, run_underlying hu, Result.andThen_ok, run_getObj' hb, run_checkKey hk, Instr.findKey, run_underlying hk, f1, Sem.run_pure, run_setObj' _ hb]
      · cases h
    · cases h
  · cases h
theorem E_delete {c : Call} (hT : TabOK P E.T) (ho : o.op = .call c) (hc : c.callee = .builtin .delete) (h : evalE E o st ρ K = some r) (hr : RS x γ st a w) : Eff P o K r x a w := by
  have hv := hr.ops'
  simp only [evalE, ho, hc] at h
  split at h
  · rename_i p q t ts hargs htys
    have hargs' : c.args.map a.eval = #[a.eval p, a.eval q] := by
      apply Array.ext'
      simp [hargs]
    have htys' : c.argTypes[0]? = some t := by rw [← Array.getElem?_toList, htys]; rfl
    split at h
    · rename_i k kk n h1 h2
      obtain ⟨b, c0, hg, e1⟩ := hv _ _ h1
      have e3 := VR_int (hv _ _ h2)
      split at h
      · rename_i kk' e m kk2 e2 hH hm
        obtain ⟨hd, h⟩ := cond_some h rfl
        simp only [Bool.and_eq_true, decide_eq_true_eq] at hd
        obtain ⟨⟨d1, d2⟩, d3⟩ := hd
        subst d1
        subst d2
        subst d3
        obtain ⟨ob, hob, hR⟩ := hr.inv.own k _ hg
        rw [hH] at hob
        cases hob
        obtain ⟨es, clock, hb, hes⟩ := hR
        obtain ⟨kt, et, hu, hk, hbe⟩ := hT.maps t kk2 e2 hm
        have fin : ∀ (es' : Array MapEntry), All2 (entR w (Av x γ w) kk2 e2) (m.eraseP fun p => p.1 == n) es'.toList → (Builtin.delete_ c.argTypes o.type #[a.eval p, a.eval q]).run P w = .ok (.tuple #[]) (setBlk w b (.map es' clock)) → Eff P o K r x a w := by
          intro es' hes' hrun
          refine ⟨_, h, .inl ⟨.tuple #[], setBlk w b (.map es' clock), ?_, γ, RS.upd (v := .undef) hr hg hH trivial (Turns.setBlk w b _) (OslKeep.no fun _ _ e => by cases e) ?_ trivial⟩⟩
          · refine exec_builtin ho hc ?_
            rw [hargs']
            simp only [builtin, Sem.run_bind, hrun, Result.andThen_ok, Sem.run_pure]
          · exact ⟨es', clock, setBlk_heap hb _, hes'.mono (entR.mono (Turns.av (Turns.setBlk w b _) hg))⟩
        have ha0 : (#[a.eval p, a.eval q] : Array Value)[0]? = some (a.eval p) := rfl
        have ha1 : (#[a.eval p, a.eval q] : Array Value)[1]? = some (a.eval q) := rfl
        rcases findNow_at (n := n) (z := zero e2) m es.toList 0 hes with ⟨j, en, f1, f2, f3, f4, f5⟩ | ⟨f1, f2, f3⟩
        · refine fin (es.eraseIdxIfInBounds j) ?_ ?_
          · have : (es.eraseIdxIfInBounds j).toList = es.toList.eraseIdx j := by simp
            rw [this]
            exact f5
          · simp only [Builtin.delete_, htys', ha0, ha1]
            simp only [e1, e3, Sem.run_bind, run_underlying hu, Result.andThen_ok, run_getObj' hb, run_checkKey hk, Instr.findKey, run_underlying hk, f3, Sem.run_pure, Nat.zero_add, run_setObj' _ hb]
        · refine fin es (by rw [f3]; exact hes) ?_
          simp only [Builtin.delete_, htys', ha0, ha1]
          simp only [e1, e3, Sem.run_bind, run_underlying hu, Result.andThen_ok, run_getObj' hb, run_checkKey hk, Instr.findKey, run_underlying hk, f1, Sem.run_pure, run_setObj' _ hb]
      · cases h
    · cases h
  · cases h
theorem E_clear {c : Call} (hT : TabOK P E.T) (ho : o.op = .call c) (hc : c.callee = .builtin .clear) (h : evalE E o st ρ K = some r) (hr : RS x γ st a w) : Eff P o K r x a w := by
  have hv := hr.ops'
  simp only [evalE, ho, hc] at h
  split at h
  · rename_i p t ts hargs htys
    have hargs' : c.args.map a.eval = #[a.eval p] := by
      apply Array.ext'
      simp [hargs]
    have htys' : c.argTypes[0]? = some t := by rw [← Array.getElem?_toList, htys]; rfl
    split at h
    · rename_i k h1
      obtain ⟨b, c0, hg, e1⟩ := hv _ _ h1
      split at h
      · rename_i kk' e m kk2 e2 hH hm
        obtain ⟨hd, h⟩ := cond_some h rfl
        obtain ⟨ob, hob, hR⟩ := hr.inv.own k _ hg
        rw [hH] at hob
        cases hob
        obtain ⟨es, clock, hb, hes⟩ := hR
        obtain ⟨kt, et, hu, hk, hbe⟩ := hT.maps t kk2 e2 hm
        have ha0 : (#[Value.map (some b)] : Array Value)[0]? = some (Value.map (some b)) := rfl
        have hrun : (Builtin.clear_ c.argTypes o.type #[a.eval p]).run P w = .ok (.tuple #[]) (setBlk w b (.map #[] clock)) := by
          rw [e1]
          simp only [Builtin.clear_, htys', ha0, Sem.run_bind, run_underlying hu, Result.andThen_ok, run_getObj' hb, run_setObj' _ hb, Sem.run_pure]
        refine ⟨_, h, .inl ⟨.tuple #[], setBlk w b (.map #[] clock), ?_, γ, RS.upd (v := .undef) hr hg hH trivial (Turns.setBlk w b _) (OslKeep.no fun _ _ e => by cases e) ?_ trivial⟩⟩
        · refine exec_builtin ho hc ?_
          rw [hargs']
          simp only [builtin, Sem.run_bind, hrun, Result.andThen_ok, Sem.run_pure]
        · exact ⟨#[], clock, setBlk_heap hb _, trivial⟩
      · cases h
    · cases h
  · cases h
theorem run_getObjI {b pos : Nat} {s : ByteArray} (hb : w.heap[b]? = some (.stringIter s pos)) : (getObj b).run P w = .ok (.stringIter s pos) w := by
  simp [getObj, Sem.run, hb]
theorem run_setObjI {b pos : Nat} {s : ByteArray} (ob : Obj) (hb : w.heap[b]? = some (.stringIter s pos)) : (setObj b ob).run P w = .ok () (setBlk w b ob) := by
  simp [setObj, Sem.run, hb, setBlk]
theorem E_next {y : Operand} (ho : o.op = .next y true) (h : evalE E o st ρ K = some r) (hr : RS x γ st a w) : Eff P o K r x a w := by
  have hv := hr.ops'
  simp only [evalE, ho] at h
  split at h
  · rename_i k h1
    obtain ⟨b, c0, hg, e1⟩ := hv _ _ h1
    split at h
    · rename_i s pos hH
      obtain ⟨ob, hob, hR⟩ := hr.inv.own k _ hg
      rw [hH] at hob
      cases hob
      have hb : w.heap[b]? = some (.stringIter s pos) := hR
      cases hlt : Nat.blt pos s.size with
      | true =>
        have hlt' : pos < s.size := lt_of_blt hlt
        rw [hlt, cond_true] at h
        obtain ⟨q, hq, h⟩ := Option.bind_eq_some_iff.1 h
        obtain ⟨hd, h⟩ := cond_some h rfl
        have hd := of_decide_eq_true hd
        obtain ⟨hn, rfl⟩ := str_get hq
        have hdec := decode_ascii s pos hn (by omega)
        refine ⟨_, h, .inl ⟨.tuple #[.bool true, .int .i64 (pos : Int), .int .i32 ((s[pos]'hn).toNat : Int)], setBlk w b (.stringIter s (pos + 1)), ?_, γ, RS.upd hr hg hH trivial (Turns.setBlk w b _) (OslKeep.no fun _ _ e => by cases e) (setBlk_heap hb _) ⟨_, rfl, rfl, rfl, rfl, trivial⟩⟩⟩
        simp only [execOp, ho, Instr.next, e1, Sem.run_bind, run_getObjI hb, Result.andThen_ok, if_pos hlt', hdec, run_setObjI _ hb, Sem.run_pure]
        rfl
      | false =>
        have hlt' : ¬ pos < s.size := fun hh => by
          have : Nat.blt pos s.size = true := Nat.ble_eq_true_of_le hh
          rw [hlt] at this
          cases this
        rw [hlt, cond_false] at h
        have hres : Res x γ st.hp w (.tup [.c (.bool false)]) [] (.tuple #[.bool false]) w := Res.same hr.inv ⟨_, rfl, rfl, trivial⟩
        refine ⟨_, h, .inl ⟨.tuple #[.bool false], w, ?_, ?_⟩⟩
        · simp only [execOp, ho, Instr.next, e1, Sem.run_bind, run_getObjI hb, Result.andThen_ok, if_neg hlt', Sem.run_pure]
        · obtain ⟨γ', h'⟩ := hr.step (dst := o.dst) rfl hres
          refine ⟨γ', ?_⟩
          have : put st o.dst (.tup [.c (.bool false)]) = { tm := (put st o.dst (.tup [.c (.bool false)])).tm, hp := updAll st.hp [] } := by cases o.dst <;> rfl
          rw [this]
          exact h'
    · cases h
  · cases h
end Go.Vi
/-
  Vi: operations that change what is the call's own: copy.
-/
set_option linter.unusedVariables false
set_option linter.unusedSimpArgs false
namespace Go.Vi
open Op
variable {P : Program} {E : Env} {o : Oper} {ρ : Type} {r : ρ} {x : Cx} {γ : Gam} {H : Heap} {w : World} {a : Act} {st : St} {K : St → Option ρ}
theorem splice_out {α : Type} (L us : List α) {p s n : Nat} (h : p + us.length ≤ L.length) (hs : s + n ≤ p ∨ p + us.length ≤ s) :
    (((L.take p ++ us ++ L.drop (p + us.length))).drop s).take n = (L.drop s).take n := by
  apply List.ext_getElem?
  intro q
  rw [win_get, win_get]
  split
  · rw [splice_get _ _ _ _ h]
    rcases hs with hs | hs
    · rw [if_pos (by omega)]
    · rw [if_neg (by omega), if_neg (by omega)]
  · rfl
theorem splice_in {α : Type} (L us : List α) {p s n : Nat} (h : p + us.length ≤ L.length) (h1 : p ≤ s) (h2 : s + n ≤ p + us.length) :
    (((L.take p ++ us ++ L.drop (p + us.length))).drop s).take n = (us.drop (s - p)).take n := by
  apply List.ext_getElem?
  intro q
  rw [win_get, win_get]
  split
  · rw [splice_get _ _ _ _ h, if_neg (by omega), if_pos (by omega)]
    congr 1
    omega
  · rfl
theorem upd_same {k : Nat} {ob : O} (h : H k = some ob) : upd H k ob = H := by
  funext j
  by_cases hj : j = k
  · subst hj
    rw [upd_self, h]
  · exact upd_ne H ob hj
theorem E_copy {c : Call} (hT : TabOK P E.T) (ho : o.op = .call c) (hc : c.callee = .builtin .copy) (h : evalE E o st ρ K = some r) (hr : RS x γ st a w) : Eff P o K r x a w := by
  have hv := hr.ops'
  simp only [evalE, ho, hc] at h
  split at h
  · rename_i y z t ts hargs htys
    have hargs' : c.args.map a.eval = #[a.eval y, a.eval z] := by
      apply Array.ext'
      simp [hargs]
    have htys' : c.argTypes[0]? = some t := by rw [← Array.getElem?_toList, htys]; rfl
    have ha0 : (#[a.eval y, a.eval z] : Array Value)[0]? = some (a.eval y) := rfl
    have ha1 : (#[a.eval y, a.eval z] : Array Value)[1]? = some (a.eval z) := rfl
    split at h
    · rename_i e0 k win tt e2 ys2 hs hvy hz
      obtain ⟨vz, hvz, hez⟩ := Option.bind_eq_some_iff.1 hz
      split at h
      · rename_i e xs nilE hH
        split at h
        · rename_i ys hcast
          obtain ⟨he, hys⟩ := castL_eq hcast
          subst he
          have hys : ys2 = ys := hys
          subst hys
          obtain ⟨hd, h⟩ := cond_some h rfl
          have hd := of_decide_eq_true hd
          subst hd
          obtain ⟨et, hu, hbe, hnc⟩ := (hT.sh t _ hs).sl e0 rfl
          obtain ⟨ii, d, zz, hii, hd', hsz, _⟩ := hbe.ex
          obtain ⟨adz, capz, ds, ez, hcz, hrz, hlz⟩ := elems_cells hnc hr.inv (hv _ _ hvz) hez
          have hvr := hv _ _ hvy
          obtain ⟨ad, cap, cs, e1, e2, e3, e4⟩ := elems_cells (v := .own k win tt) (xs := view win xs) hnc hr.inv hvr (by simp only [elems, hH])
          obtain ⟨i, ee, xs0, nilE0, hg, hH', hsl⟩ := hvr
          rw [hH] at hH'
          cases hH'
          generalize hn : min ys2.length (view win xs).length = n at h
          have hnmin : Nat.min ys2.length (view win xs).length = n := hn
          have hvl : wo win + (view win xs).length ≤ xs.length ∨ (view win xs).length = 0 := by
            cases win with
            | none => exact .inl (by simp [wo, view])
            | some p =>
              simp only [wo, view, List.length_take, List.length_drop]
              omega
          by_cases hn0 : n = 0
          · -- nothing is copied
            subst hn0
            have hcell : (Builtin.firstCells ii.size 0 (a.eval z)).run P w = .ok #[] w := by
              rw [ez]
              cases adz with
              | none => rfl
              | some q => simp [Builtin.firstCells, loadCells, loadCellsFrom]
            have hrun : (Builtin.copy_ c.argTypes o.type #[a.eval y, a.eval z]).run P w = .ok (goInt 0) w := by
              simp only [Builtin.copy_, htys', ha0, ha1]
              rw [e1]
              simp only [Sem.run_bind, run_underlying hu, Result.andThen_ok, run_sizeOf' hii]
              rw [ez] at hcell ⊢
              simp only [Builtin.lenOf, Sem.run_pure, Result.andThen_ok, hnmin, hcell]
              cases ad <;> simp [storeCells]
            simp only [List.take_zero, List.append_nil, Nat.add_zero, List.take_append_drop] at h
            rw [hset_put] at h
            have hup : updAll st.hp [(k, O.arr e0 xs nilE)] = st.hp := upd_same hH
            rw [hup] at h
            refine ⟨_, h, .inl ⟨goInt 0, w, ?_, hr.step (obs := []) (by rfl) (Res.same hr.inv rfl)⟩⟩
            refine exec_builtin ho hc ?_
            rw [hargs']
            simp only [builtin, Sem.run_bind, hrun, Result.andThen_ok, Sem.run_pure]
          · -- there is something
            have hnl : n ≤ ys2.length ∧ n ≤ (view win xs).length := by omega
            have hwl : wo win + (view win xs).length ≤ xs.length := by omega
            cases i with
            | emp =>
              obtain ⟨ad', g1, g2, g3, g4⟩ := hsl
              omega
            | «at» b c0 =>
              have hsl' : ad = some ⟨b, wo win * e0.nc, none⟩ := by
                cases win with
                | none =>
                  obtain ⟨g1, g2, g3⟩ := hsl
                  rw [e1] at g1
                  simp only [Value.slice.injEq] at g1
                  simp only [wo, Nat.zero_mul]
                  exact g1.1
                | some p =>
                  obtain ⟨p, l⟩ := p
                  obtain ⟨oo, cap', g1, g2, g3, g4, g5, g6, g7⟩ := hsl
                  rw [e1] at g1
                  simp only [Value.slice.injEq] at g1
                  have := g6 (by omega)
                  subst this
                  exact g1.1
              subst hsl'
              obtain ⟨ob, hob, hR⟩ := hr.inv.own k _ hg
              rw [hH] at hob
              cases hob
              obtain ⟨hne, hxc, cur, et', hb, hszc, hel⟩ := hR
              have hdl := hrz.1
              have hnm : n * e0.nc ≤ ys2.length * e0.nc := Nat.mul_le_mul_right _ hnl.1
              have htl : (ds.take (n * e0.nc)).length = n * e0.nc := by simp; omega
              have hcell : (Builtin.firstCells ii.size n (a.eval z)).run P w = .ok (ds.take (n * e0.nc)).toArray w := by
                rw [ez, hsz]
                rcases hlz with h0 | ⟨b1, o1, cur1, et1, fz1, f1, f2, f3, f4⟩
                · rw [h0] at hnl
                  simp at hnl
                  omega
                · subst f1
                  have hk := run_cells (P := P) (o := o1) f2 (n * e0.nc) (by omega)
                  simp only [Builtin.firstCells, hk]
                  rw [f4, List.take_take, Nat.min_eq_left hnm]
              have h1c : ∀ v ∈ ds.take (n * e0.nc), v.oneCell' = true := fun v hv' => hrz.one v (List.mem_of_mem_take hv')
              have hfit : wo win * e0.nc + n * e0.nc ≤ cur.size := by
                rw [← Nat.add_mul]
                exact Nat.le_trans (Nat.mul_le_mul_right _ (by omega)) hszc
              have hst := run_storeCells_at P b (wo win * e0.nc) et' (ds.take (n * e0.nc)) 0 cur w hb (by rw [htl]; omega) h1c
              simp only [Nat.add_zero] at hst
              have hrun : (Builtin.copy_ c.argTypes o.type #[a.eval y, a.eval z]).run P w = .ok (goInt n) (w.setRow b (cur.toList.take (wo win * e0.nc) ++ ds.take (n * e0.nc) ++ cur.toList.drop (wo win * e0.nc + (ds.take (n * e0.nc)).length)).toArray) := by
                simp only [Builtin.copy_, htys', ha0, ha1]
                rw [e1]
                simp only [Sem.run_bind, run_underlying hu, Result.andThen_ok, run_sizeOf' hii]
                rw [ez] at hcell ⊢
                simp only [Builtin.lenOf, Sem.run_pure, Result.andThen_ok, hnmin, hcell, Sem.run_bind, hst]
              refine ⟨_, h, .inl ⟨goInt n, w.setRow b (cur.toList.take (wo win * e0.nc) ++ ds.take (n * e0.nc) ++ cur.toList.drop (wo win * e0.nc + (ds.take (n * e0.nc)).length)).toArray, ?_, γ, RS.upd hr hg hH ⟨rfl, ?_, rfl⟩ (Turns.setRow w b _) (OslKeep.no NoOsl.arr) ?_ rfl⟩⟩
              · refine exec_builtin ho hc ?_
                rw [hargs']
                simp only [builtin, Sem.run_bind, hrun, Result.andThen_ok, Sem.run_pure]
              · simp only [List.length_append, List.length_take, List.length_drop]
                omega
              · refine ⟨fun hnn h0 => ?_, ?_, _, et', setRow_heap w b cur _ et' _ hb, ?_, fun j q hq => ?_⟩
                · have := congrArg List.length h0
                  simp only [List.length_append, List.length_take, List.length_drop, List.length_nil] at this
                  omega
                · simp only [List.length_append, List.length_take, List.length_drop]
                  omega
                · simp only [List.size_toArray, List.length_append, List.length_take, List.length_drop, Array.length_toList]
                  omega
                · rw [List.toList_toArray]
                  refine VRs.mono (Turns.av (Turns.setRow w b _) hg) e0 q _ ?_
                  have hle : wo win * e0.nc + (ds.take (n * e0.nc)).length ≤ cur.toList.length := by rw [htl]; simpa using hfit
                  rw [List.append_assoc, List.getElem?_append] at hq
                  have hwl2 : (xs.take (wo win)).length = wo win := by simp; omega
                  rw [hwl2] at hq
                  have mul : ∀ p q : Nat, p + 1 ≤ q → p * e0.nc + e0.nc ≤ q * e0.nc := fun p q hpq => by
                    have := Nat.mul_le_mul_right e0.nc hpq
                    rwa [Nat.add_mul, Nat.one_mul] at this
                  split at hq
                  · rename_i hj
                    rw [List.getElem?_take, if_pos hj] at hq
                    rw [splice_out _ _ hle (.inl (mul j (wo win) hj))]
                    exact hel j q hq
                  · rename_i hj
                    have hyl : (ys2.take n).length = n := by simp; omega
                    rw [List.getElem?_append, hyl] at hq
                    split at hq
                    · rename_i hj2
                      rw [List.getElem?_take, if_pos hj2] at hq
                      have h7 := mul j (wo win + n) (by omega)
                      rw [Nat.add_mul] at h7
                      rw [splice_in _ _ hle (Nat.mul_le_mul_right _ (by omega)) (by rw [htl]; exact h7)]
                      rw [← Nat.sub_mul, List.drop_take, List.take_take]
                      have h8 := mul (j - wo win) n (by omega)
                      rw [Nat.min_eq_left (by omega)]
                      exact hrz.2 _ q hq
                    · rename_i hj2
                      rw [List.getElem?_drop] at hq
                      have h9 : (wo win + n) * e0.nc ≤ j * e0.nc := Nat.mul_le_mul_right _ (by omega)
                      rw [Nat.add_mul] at h9
                      rw [splice_out _ _ hle (.inr (by rw [htl]; exact h9))]
                      refine hel j q ?_
                      rw [← hq]
                      congr 1
                      omega
        · cases h
      · cases h
    · cases h
  · cases h
theorem E_del {c : Call} {f : Operand} (hT : TabOK P E.T) (hf : isDelF E.T f = true) (ho : o.op = .call c) (hc : c.callee = .value f) (h : evalDel o c st ρ K = some r) (hr : RS x γ st a w) : Eff P o K r x a w := by
  have hv := hr.ops'
  cases f with
  | func g =>
    obtain ⟨hcall, hrun⟩ := hT.del g (memN_mem hf)
    simp only [evalDel] at h
    split at h
    · rename_i y z u hargs
      split at h
      · rename_i k i j hy hz hu
        split at h
        · rename_i xs nilE hH
          obtain ⟨hd, h⟩ := cond_some h rfl
          simp only [Bool.and_eq_true, decide_eq_true_eq] at hd
          obtain ⟨⟨⟨⟨d1, d2⟩, d3⟩, d4⟩, d5⟩ := hd
          have d4 : j ≤ (xs.length : Int) := d4
          rw [hset_put] at h
          obtain ⟨i0, e0, xs0, nilE0, hg, hH', hsl⟩ := hv _ _ hy
          rw [hH] at hH'
          cases hH'
          cases i0 with
          | emp =>
            obtain ⟨ad', g1, g2, g3, g4⟩ := hsl
            omega
          | «at» b cap =>
            obtain ⟨g1, g2, _⟩ := hsl
            obtain ⟨ob, hob, hR⟩ := hr.inv.own k _ hg
            rw [hH] at hob
            cases hob
            obtain ⟨_, hxc, cur, et, hb, hsz, hel⟩ := hR
            have hz1 : a.eval z = .int .i64 i := hv _ _ hz
            have hu1 : a.eval u = .int .i64 j := hv _ _ hu
            have hargs' : c.args.map a.eval = #[.slice (some ⟨b, 0, none⟩) xs.length cap, .int .i64 (i.toNat : Int), .int .i64 (j.toNat : Int)] := by
              apply Array.ext'
              rw [Array.toList_map, hargs, List.map_cons, List.map_cons, List.map_cons, g1, hz1, hu1, Int.toNat_of_nonneg d2, Int.toNat_of_nonneg (by omega)]
              rfl
            simp only [Sh.nc, Nat.mul_one] at hsz hel
            have hcells : ∀ (t : Nat) q, xs[t]? = some q → cur.toList[t]? = some (.int .i64 q) := fun t q hq => by
              have h1 : (cur.toList.drop t).take 1 = [.int .i64 q] := hel t q hq
              have h2 := congrArg (fun l => l[0]?) h1
              simpa using h2
            refine ⟨_, h, .inr (.inr ⟨g, c.args.map a.eval, w, ?_, ?_⟩)⟩
            · simp only [execOp, ho, resolve, hc, Act.eval, Deferred.ofValue, Sem.run_bind, Sem.run_pure, Result.andThen_ok, invoke]
              simpa using hcall _ w
            · rw [hargs']
              refine (hrun b cap i.toNat j.toNat xs w cur et hb hsz hcells g2 d5 (by omega) (by omega)).mono fun e w' he => ?_
              obtain ⟨rfl, ⟨t1, t2, t3, t4, t5⟩, cur', hb', hsz', hel'⟩ := he
              have hlen : (xs.take i.toNat ++ xs.drop j.toNat).length = xs.length - (j.toNat - i.toNat) := by
                simp only [List.length_append, List.length_take, List.length_drop]
                omega
              have hob' : objR w' (Av x γ w') (.arr (.int .i64) (xs.take i.toNat ++ xs.drop j.toNat) false) (.at b cap) := by
                refine ⟨fun hn => (by cases hn), (by rw [hlen]; omega), cur', et, hb', (by simp only [Sh.nc, Nat.mul_one]; omega), fun t q hq => ?_⟩
                simp only [Sh.nc, Nat.mul_one]
                have h1 := hel' t q hq
                obtain ⟨hlt, h2⟩ := List.getElem?_eq_some_iff.1 h1
                show (cur'.toList.drop t).take 1 = [.int .i64 q]
                rw [List.drop_eq_getElem_cons hlt, h2]
                rfl
              refine ⟨_, rs_renew hr hg ⟨t1, t2, t3, t4, t5⟩ NoOsl.arr hob' d1 ?_⟩
              exact ⟨.at b cap, .int .i64, xs.take i.toNat ++ xs.drop j.toNat, _, by simp [gset], upd_self _ _ _, by rw [hlen], by rw [hlen]; omega, by simp⟩
        · cases h
      · cases h
    · cases h
  | _ => cases hf
theorem E_cut {t : TypeId} {y : Operand} {lo hi mx : Option Operand} (hT : TabOK P E.T) (ho : o.op = .slice t y lo hi mx) (h : evalCut E o st t y lo hi mx ρ K = some r) (hr : RS x γ st a w) : Eff P o K r x a w := by
  have hv := hr.ops'
  simp only [evalCut] at h
  split at h
  · rename_i n e k off lo1 hi1 h1 h2 h3 h4 h5
    split at h
    · rename_i cs hH
      split at h
      · rename_i xs hx
        obtain ⟨hd, h⟩ := cond_some h rfl
        simp only [Bool.and_eq_true, decide_eq_true_eq] at hd
        obtain ⟨hlen, hb⟩ := hd
        obtain ⟨et, hu, hbe, hnc⟩ := hT.arrs t n e h1
        obtain ⟨ii, d, zz, hii, hdd, hsz, _⟩ := hbe.ex
        obtain ⟨b1, b2, b3, b4, b5⟩ := run_bounds (P := P) (w := w) (isS := false) hv h3 h4 h5 hb (Nat.le_refl n) (fun hm => by cases hm)
        obtain ⟨b, c, hg, hval⟩ := hv _ _ h2
        have hgn : gnd1 st.hp (.ptr k off) = some (.iptr (cs.drop off)) := by simp only [gnd1, hH, decide_eq_true (show off ≤ cs.length by omega), cond_true]
        have hvr : VR1 γ w (Av x γ w) st.hp (.ptr k off) (a.eval y) := hv _ _ h2
        obtain ⟨bb, oo, cur, et2, fz, g1, g2, g3, g4, g5⟩ := gnd1_VR (keys := [k]) hr.inv hgn hvr (fun j hj => by simpa [V.ownKey] using hj)
        have hdr := hr.drop [k]
        have hxl := rowsC_len hx
        have hcl : cutHi hi1 xs = xs.take (hiN hi1 n) := by
          cases hi1 with
          | none => exact (List.take_of_length_le (Nat.le_of_eq hxl)).symm
          | some h => rfl
        have hll : ((xs.take (hiN hi1 n)).drop (loN lo1)).length = hiN hi1 n - loN lo1 := by simp; omega
        have hrows : RowsAt w (Av x (gdel γ [k]) w) e.nc (fun z us => VRs w (Av x (gdel γ [k]) w) e z us) xs (some ⟨bb, oo, none⟩) := by
          refine .inr ⟨bb, oo, cur, et2, fz, rfl, A0k_del hr.inv g2, g3, ?_, fun i z hz => ?_⟩
          · simp only [List.length_drop] at g4
            rw [hxl]
            omega
          · have g5' := All2.mono (fun c v => CR.mono (fun b hb => ⟨A0k_del hr.inv hb, rfl⟩) c v) g5
            have hvv := rowsC_VRs hx g5' i z hz
            rw [List.drop_take, List.take_take, List.drop_drop] at hvv
            have hil : i < n := by
              have := (List.getElem?_eq_some_iff.1 hz).1
              omega
            have : i * e.nc + e.nc ≤ n * e.nc := by
              have := Nat.mul_le_mul_right e.nc (show i + 1 ≤ n by omega)
              rw [Nat.add_mul] at this
              omega
            rwa [Nat.min_eq_left (by simp only [List.length_drop]; omega)] at hvv
        refine ⟨_, h, .inl ⟨.slice (if n = loN lo1 then some ⟨bb, oo, none⟩ else (some (⟨bb, oo, none⟩ : Addr)).map (·.add (loN lo1 * e.nc))) (hiN hi1 n - loN lo1) (n - loN lo1), w, ?_, ?_⟩⟩
        · simp only [execOp, ho, Instr.sliceAt, Sem.run_bind, run_underlying hu, Result.andThen_ok, g1, Instr.sureAddr, Sem.run_pure, b1, run_sizeOf' hii, hsz, mxN]
          by_cases hm : n = loN lo1 <;> simp [hm]
        · refine hdr.step (dst := o.dst) (by simp) (Res.same hdr.inv ?_)
          rw [hcl]
          refine ⟨_, _, by rw [hll], by rw [hll]; omega, fun ht => (by cases ht), ?_⟩
          by_cases hm : n = loN lo1
          · refine .inl (List.eq_nil_of_length_eq_zero ?_)
            rw [hll]
            omega
          · rw [if_neg hm]
            exact hrows.cut _ _ b2
      · cases h
    · cases h
  · rename_i n e cs lo1 hi1 h1 h2 h3 h4 h5
    split at h
    · rename_i xs hx
      obtain ⟨hd, h⟩ := cond_some h rfl
      simp only [Bool.and_eq_true, decide_eq_true_eq] at hd
      obtain ⟨hlen, hb⟩ := hd
      obtain ⟨et, hu, hbe, hnc⟩ := hT.arrs t n e h1
      obtain ⟨ii, d, zz, hii, hdd, hsz, _⟩ := hbe.ex
      obtain ⟨b1, b2, b3, b4, b5⟩ := run_bounds (P := P) (w := w) (isS := false) hv h3 h4 h5 hb (Nat.le_refl n) (fun hm => by cases hm)
      obtain ⟨bb, oo, cur, et2, fz, g1, g2, g3, g4, g5⟩ := hv _ _ h2
      have hxl := rowsC_len hx
      have hcl : cutHi hi1 xs = xs.take (hiN hi1 n) := by
        cases hi1 with
        | none => exact (List.take_of_length_le (Nat.le_of_eq hxl)).symm
        | some h => rfl
      have hll : ((xs.take (hiN hi1 n)).drop (loN lo1)).length = hiN hi1 n - loN lo1 := by simp; omega
      have hrows : RowsAt w (Av x γ w) e.nc (fun z us => VRs w (Av x γ w) e z us) xs (some ⟨bb, oo, none⟩) := by
        refine .inr ⟨bb, oo, cur, et2, fz, rfl, g2, g3, ?_, fun i z hz => ?_⟩
        · rw [hxl]
          omega
        · have hvv := rowsC_VRs hx g5 i z hz
          rw [List.drop_take, List.take_take, List.drop_drop] at hvv
          have hil : i < n := by
            have := (List.getElem?_eq_some_iff.1 hz).1
            omega
          have : i * e.nc + e.nc ≤ n * e.nc := by
            have := Nat.mul_le_mul_right e.nc (show i + 1 ≤ n by omega)
            rw [Nat.add_mul] at this
            omega
          rwa [Nat.min_eq_left (by omega)] at hvv
      refine ⟨_, h, .inl ⟨.slice (if n = loN lo1 then some ⟨bb, oo, none⟩ else (some (⟨bb, oo, none⟩ : Addr)).map (·.add (loN lo1 * e.nc))) (hiN hi1 n - loN lo1) (n - loN lo1), w, ?_, ?_⟩⟩
      · simp only [execOp, ho, Instr.sliceAt, Sem.run_bind, run_underlying hu, Result.andThen_ok, g1, Instr.sureAddr, Sem.run_pure, b1, run_sizeOf' hii, hsz, mxN]
        by_cases hm : n = loN lo1 <;> simp [hm]
      · have hvr : VR γ w (Av x γ w) st.hp (.c (.sl e ((cutHi hi1 xs).drop (loN lo1)) false)) (.slice (if n = loN lo1 then some ⟨bb, oo, none⟩ else (some (⟨bb, oo, none⟩ : Addr)).map (·.add (loN lo1 * e.nc))) (hiN hi1 n - loN lo1) (n - loN lo1)) := by
          rw [hcl]
          refine ⟨_, _, by rw [hll], by rw [hll]; omega, fun ht => (by cases ht), ?_⟩
          by_cases hm : n = loN lo1
          · refine .inl (List.eq_nil_of_length_eq_zero ?_)
            rw [hll]
            omega
          · rw [if_neg hm]
            exact hrows.cut _ _ b2
        obtain ⟨γ', h'⟩ := hr.step (dst := o.dst) rfl (Res.same hr.inv hvr)
        refine ⟨γ', ?_⟩
        have : put st o.dst (.c (.sl e ((cutHi hi1 xs).drop (loN lo1)) false)) = { tm := (put st o.dst (.c (.sl e ((cutHi hi1 xs).drop (loN lo1)) false))).tm, hp := updAll st.hp [] } := by cases o.dst <;> rfl
        rw [this]
        exact h'
    · cases h
  · cases h
end Go.Vi
/-
  Vi: calls of closures; calls that write what they are handed.
-/
set_option linter.unusedVariables false
set_option linter.unusedSimpArgs false
namespace Go.Vi
open Op
/-- A thing that is handed in to be written. -/
def IoV (w : World) (A0 : Nat → Prop) : V → Info → Value → Prop
  | .c (.sl e xs _), i, u => OwnSl i e.nc xs.length false none false u ∧ objR w A0 (.arr e xs false) i
  | .iptr cs, i, u => (∃ b c, i = .at b c ∧ u = .pointer (some ⟨b, 0, none⟩)) ∧ objR w A0 (.box cs) i
  | _, _, _ => False
def IoL (w : World) (A0 : Nat → Prop) : List V → List Info → List Value → Prop
  | [], [], [] => True
  | v :: vs, i :: is, u :: us => IoV w A0 v i u ∧ IoL w A0 vs is us
  | _, _, _ => False
/-- The things that are handed in, under the keys that the callee has for them. -/
def pinG (is0 : List Info) : Gam := fun k => bif Nat.ble pinLo k then is0[k - pinLo]? else none
def IoRel (w : World) (A0 : Nat → Prop) (is0 : List Info) : List Bool → List V → List Info → List Value → Prop
  | [], [], [], [] => True
  | false :: fs, v :: vs, is, u :: us => VR (pinG is0) w A0 emp v u ∧ IoRel w A0 is0 fs vs is us
  | true :: fs, .fn g caps :: vs, is, u :: us => ∃ is1 is2 us', is = is1 ++ is2 ∧ u = .func (.func g) #[] us'.toArray ∧ IoL w A0 caps is1 us' ∧ IoRel w A0 is0 fs vs is2 us
  | true :: fs, .fpb g css :: vs, is, u :: us => ∃ is1 is2 us' b, is = is1 ++ is2 ∧ u = .pointer (some ⟨b, 0, none⟩) ∧ FboxR w A0 b g us' ∧ IoL w A0 (css.map .iptr) is1 us' ∧ IoRel w A0 is0 fs vs is2 us
  | true :: fs, v :: vs, i :: is, u :: us => IoV w A0 v i u ∧ IoRel w A0 is0 fs vs is us
  | _, _, _, _ => False
def OutR (w : World) (A : Nat → Prop) : Out → Info → Prop
  | .box cs, i => objR w A (.box cs) i
  | .arr e xs, i => objR w A (.arr e xs false) i
def apartI (is : List Info) : Prop := is.Pairwise fun i j => ∀ b c c', i = .at b c → j ≠ .at b c'
/-- The world behind a call that may write these. -/
structure GrowsBut (is : List Info) (w w' : World) : Prop where
  size : w.heap.size ≤ w'.heap.size
  os : w'.os = w.os
  tape : w'.tape = w.tape
  output : w'.output = w.output
  blk : ∀ b, b < w.heap.size → (∀ i ∈ is, ∀ c, i ≠ .at b c) → w'.heap[b]? = w.heap[b]?
/-- The contract of a function that writes what it is handed. -/
def FCio (P : Program) (g : FuncId) (flags : List Bool) (vs : List V) (ret : Ret) (outs : List Out) : Prop :=
  ∀ (w : World) (A0 : Nat → Prop) (is : List Info) (args : List Value), (∀ b, A0 b → b < w.heap.size) → IoRel w A0 is flags vs is args → apartI is → (∀ i ∈ is, ∀ b c, i = .at b c → b < w.heap.size ∧ ¬ A0 b) → GlobOK w A0 →
    Calls P g args.toArray w fun
      | .returned u, w' => GrowsBut is w w' ∧ ∃ js us, u = retVal us ∧ RetRs w w' (newA w w' A0 (js ++ is)) ret js us ∧ All2 (OutR w' (newA w w' A0 (js ++ is))) outs is
      | _, _ => False
def PhioOK (P : Program) (E : Env) : Prop :=
  ∀ g flags vs ρ (K : Ret → List Out → Option ρ) r, E.iop g = some flags → E.phio g vs ρ K = some r → ∃ ret outs, K ret outs = some r ∧ FCio P g flags vs ret outs ∧ ∀ args w, (callFunc g args).run P w = .ok (.enter g args) w
/-- All callees' contracts. -/
def EnvOK (P : Program) (E : Env) : Prop := PhiOK P E.phi ∧ PhioOK P E
variable {P : Program} {E : Env} {o : Oper} {ρ : Type} {r : ρ} {x : Cx} {γ : Gam} {H : Heap} {w : World} {a : Act} {st : St} {K : St → Option ρ}
/-! ### The arguments -/
def infoOf (γ : Gam) (k : Nat) : Info := (γ k).getD .emp
/-- An argument as it stands, as it reads, and as it is. -/
def Elem (x : Cx) (γ : Gam) (w : World) (H : Heap) (raw v : V) (u : Value) : Prop :=
  (∀ keys : List Nat, (∀ k ∈ raw.ownKey, k ∈ keys) → VR noGam w (A0k x γ w keys) emp v u) ∧ (raw ≠ .undef → gnd H raw = some v ∧ VR γ w (Av x γ w) H raw u)
def Elems (x : Cx) (γ : Gam) (w : World) (H : Heap) : List V → List V → List Value → Prop
  | [], [], [] => True
  | r :: rs, v :: vs, u :: us => Elem x γ w H r v u ∧ Elems x γ w H rs vs us
  | _, _, _ => False
theorem Elems.append : ∀ {rs vs : List V} {us : List Value} {rs' vs' : List V} {us' : List Value}, Elems x γ w H rs vs us → Elems x γ w H rs' vs' us' → Elems x γ w H (rs ++ rs') (vs ++ vs') (us ++ us')
  | [], [], [], _, _, _, _, h' => h'
  | _ :: _, _ :: _, _ :: _, _, _, _, h, h' => ⟨h.1, Elems.append h.2 h'⟩
  | [], [], _ :: _, _, _, _, h, _ => h.elim
  | [], _ :: _, _, _, _, _, h, _ => h.elim
  | _ :: _, [], _, _, _, _, h, _ => h.elim
  | _ :: _, _ :: _, [], _, _, _, h, _ => h.elim
theorem layTm_get (ks : List Nat) (H : Heap) : ∀ (tm : List V) (t : Nat), (layTm ks H tm)[t]? = (tm[t]?).map (layV ks H)
  | [], t => by simp [layTm]
  | v :: r, 0 => by simp [layTm]
  | v :: r, t + 1 => by simp [layTm, layTm_get ks H r t]
theorem layTm_length (ks : List Nat) (H : Heap) : ∀ (tm : List V), (layTm ks H tm).length = tm.length
  | [] => rfl
  | v :: r => by simp [layTm, layTm_length ks H r]
theorem RS.layS {x : Cx} {γ : Gam} {st : St} {a : Act} {w : World} (h : RS x γ st a w) (ks : List Nat) : RS x (gdel γ ks) (Vi.layS st ks) a w := by
  cases ks with
  | nil =>
    have : gdel γ [] = γ := by funext k; simp [gdel]
    rw [this]
    exact h
  | cons k ks =>
    obtain ⟨h1, h2⟩ := h.inv.drop (k :: ks)
    refine ⟨h1, by simp only [Vi.layS, layTm_length]; exact h.len, ?_, h.nod⟩
    intro t v hv
    simp only [Vi.layS, layTm_get, Option.map_eq_some_iff] at hv
    obtain ⟨y, hy, hyv⟩ := hv
    unfold layV at hyv
    cases hr : anyRefs (k :: ks) y with
    | true =>
      rw [hr] at hyv
      simp only [cond_true] at hyv
      split at hyv
      · rename_i k' win tt
        split at hyv
        · rename_i e xs nl hH
          subst hyv
          have hg : gnd1 st.hp (.own k' win tt) = some (.c (.sl e (view win xs) tt)) := by simp only [gnd1, hH]
          have hkk : k' ∈ k :: ks := by
            obtain ⟨q, hq, hqr⟩ := List.any_eq_true.1 hr
            have : k' = q := by
              simp only [refs, refs1] at hqr
              exact Nat.eq_of_beq_eq_true hqr
            exact this ▸ hq
          have hvr : CR w (A0k x γ w (k :: ks)) (.sl e (view win xs) tt) (a.tmps.getD t undef) := gnd1_VR (keys := k :: ks) h.inv hg (h.tm t _ hy) (fun q hq => by
            simp only [V.ownKey, List.mem_singleton] at hq
            exact hq ▸ hkk)
          exact CR.mono (A := A0k x γ w (k :: ks)) (fun b hb => ⟨A0k_del h.inv hb, rfl⟩) _ _ hvr
        · subst hyv; trivial
      · subst hyv; trivial
    | false =>
      rw [hr] at hyv
      simp only [cond_false] at hyv
      subst hyv
      exact h2 y _ hr (h.tm t y hy)
theorem ioK1_V {k : Nat} {raw v : V} {u : Value} {keys : List Nat} (hi : Inv x γ H w) (h : ioK1 raw = some k) (hg : gnd1 H raw = some v) (hv : VR1 γ w (Av x γ w) H raw u) :
    IoV w (A0k x γ w keys) v (infoOf γ k) u ∧ ∃ i ob, γ k = some i ∧ H k = some ob := by
  have hA : ∀ b, Av x γ w b → A0k x γ w keys b ∧ w.heap[b]? = w.heap[b]? := fun b hb => ⟨.inl hb, rfl⟩
  unfold ioK1 at h
  split at h
  · cases h
    obtain ⟨i, e, xs, nilE, h1, h2, h3⟩ := hv
    simp only [gnd1, h2, view] at hg
    cases hg
    obtain ⟨ob, h4, h5⟩ := hi.own k i h1
    rw [h2] at h4
    cases h4
    refine ⟨?_, i, _, h1, h2⟩
    simp only [infoOf, h1, Option.getD_some]
    refine ⟨?_, ?_⟩
    · cases i with
      | emp =>
        obtain ⟨a, q1, q2, q3, q4⟩ := h3
        exact ⟨a, q1, by simp, q3, q4⟩
      | «at» b c =>
        obtain ⟨q1, q2, q3⟩ := h3
        exact ⟨q1, q2, by simp⟩
    · have := objR.mono hA _ i (fun _ _ _ => rfl) h5
      cases i with
      | emp => exact this
      | «at» b c => exact ⟨by simp, this.2⟩
  · cases h
    obtain ⟨b, c, h1, h2⟩ := hv
    obtain ⟨ob, h4, h5⟩ := hi.own k _ h1
    simp only [gnd1] at hg
    split at hg
    · rename_i cs hH
      obtain ⟨hd, hg⟩ : _ ∧ some (V.iptr (cs.drop 0)) = some v := by
        cases hd : decide (0 ≤ cs.length) with
        | true => rw [hd] at hg; exact ⟨trivial, hg⟩
        | false => rw [hd] at hg; cases hg
      cases hg
      rw [hH] at h4
      cases h4
      refine ⟨?_, _, _, h1, hH⟩
      simp only [infoOf, h1, Option.getD_some, List.drop_zero]
      exact ⟨⟨b, c, rfl, h2⟩, objR.mono hA _ _ (fun _ _ _ => rfl) h5⟩
    · cases hg
  · cases h
theorem ioKL_L {keys : List Nat} (hi : Inv x γ H w) : ∀ {raws vs : List V} {us : List Value} {ks : List Nat}, ioKL raws = some ks → gnds H raws = some vs → All2 (VR1 γ w (Av x γ w) H) raws us →
    IoL w (A0k x γ w keys) vs (ks.map (infoOf γ)) us ∧ ∀ k ∈ ks, ∃ i ob, γ k = some i ∧ H k = some ob
  | [], vs, [], ks, h, hg, _ => by
    cases h
    cases hg
    exact ⟨trivial, by simp⟩
  | r :: rs, vs, u :: us, ks, h, hg, hv => by
    simp only [ioKL] at h
    split at h
    · rename_i k ks' h1 h2
      cases h
      simp only [gnds] at hg
      split at hg
      · rename_i v vs' g1 g2
        cases hg
        obtain ⟨i1, i2⟩ := ioK1_V (keys := keys) hi h1 g1 hv.1
        obtain ⟨j1, j2⟩ := ioKL_L hi h2 g2 hv.2
        refine ⟨⟨i1, j1⟩, fun k' hk' => ?_⟩
        rcases List.mem_cons.1 hk' with rfl | hk'
        · exact i2
        · exact j2 k' hk'
      · cases hg
    · cases h
  | [], _, _ :: _, _, _, _, h => h.elim
  | _ :: _, _, [], _, _, _, h => h.elim
/-- A captured value as it stands, as it is handed in, and as it is. -/
def ElemK (x : Cx) (γ : Gam) (w : World) (H : Heap) (ks0 : List Nat) (fl : Bool) (raw v : V) (u : Value) : Prop :=
  Elem x γ w H raw v u ∨ ∃ g cds, raw = .fptr g cds ∧ gndK H ks0 fl raw = some v ∧ VR1 γ w (Av x γ w) H raw u
def ElemsK (x : Cx) (γ : Gam) (w : World) (H : Heap) (ks0 : List Nat) : List Bool → List V → List V → List Value → Prop
  | [], [], [], [] => True
  | f :: fs, r :: rs, v :: vs, u :: us => ElemK x γ w H ks0 f r v u ∧ ElemsK x γ w H ks0 fs rs vs us
  | _, _, _, _ => False
theorem posN_get {k : Nat} : ∀ {ks : List Nat} {p : Nat}, posN k ks = some p → ks[p]? = some k
  | [], p, h => by simp [posN] at h
  | j :: r, p, h => by
    simp only [posN] at h
    cases hb : Nat.beq j k with
    | true =>
      rw [hb] at h
      simp only [cond_true, Option.some.injEq] at h
      subst h
      simp [Nat.eq_of_beq_eq_true hb]
    | false =>
      rw [hb] at h
      simp only [cond_false, Option.map_eq_some_iff] at h
      obtain ⟨q, hq, rfl⟩ := h
      simpa using posN_get hq
theorem pinG_pos {ks0 : List Nat} {k p : Nat} {i : Info} (h : posN k ks0 = some p) (hk : γ k = some i) : pinG (ks0.map (infoOf γ)) (pinLo + p) = some i := by
  have h1 := posN_get h
  have hb : Nat.ble pinLo (pinLo + p) = true := Nat.ble_eq_true_of_le (by omega)
  have h2 : pinLo + p - pinLo = p := by omega
  simp only [pinG, hb, cond_true, h2, List.getElem?_map, h1, Option.map_some, infoOf, hk, Option.getD_some]
theorem PtrR_pin {ks0 : List Nat} : ∀ {l l' : List Nat} {us : List Value}, pinKs ks0 l = some l' → All2 (PtrR γ) l us → All2 (PtrR (pinG (ks0.map (infoOf γ)))) l' us
  | [], l', [], h, _ => by cases h; trivial
  | k :: l, l', u :: us, h, hv => by
    simp only [pinKs] at h
    split at h
    · rename_i p l1 h1 h2
      cases h
      obtain ⟨b, c, e1, e2⟩ := hv.1
      exact ⟨⟨b, c, pinG_pos h1 e1, e2⟩, PtrR_pin h2 hv.2⟩
    · cases h
  | [], _, _ :: _, _, h => h.elim
  | _ :: _, _, [], _, h => h.elim
theorem CDR_pin {ks0 : List Nat} {A : Nat → Prop} {b : Nat} : ∀ {l l' : List CD} {us : List Value}, pinCds ks0 l = some l' → All2 (CDR γ w A b) l us → All2 (CDR (pinG (ks0.map (infoOf γ))) w A b) l' us
  | [], l', [], h, _ => by cases h; trivial
  | c :: l, l', u :: us, h, hv => by
    simp only [pinCds] at h
    split at h
    · rename_i c' l1 h1 h2
      cases h
      refine ⟨?_, CDR_pin h2 hv.2⟩
      have hv1 := hv.1
      cases c with
      | b k =>
        simp only [pinCd, Option.map_eq_some_iff] at h1
        obtain ⟨p, h1, rfl⟩ := h1
        obtain ⟨b, c, e1, e2⟩ := hv1
        exact ⟨b, c, pinG_pos h1 e1, e2⟩
      | s =>
        simp only [pinCd, Option.some.injEq] at h1
        subst h1
        exact hv1
      | v g ks =>
        simp only [pinCd, Option.map_eq_some_iff] at h1
        obtain ⟨p, h1, rfl⟩ := h1
        obtain ⟨b', us', e1, e2, e3⟩ := hv1
        exact ⟨b', us', e1, e2, PtrR_pin h1 e3⟩
    · cases h
  | [], _, _ :: _, _, h => h.elim
  | _ :: _, _, [], _, h => h.elim
theorem boxCs_L {keys : List Nat} {b : Nat} {A : Nat → Prop} (hi : Inv x γ H w) : ∀ {cds : List CD} {ks : List Nat} {css : List (List C)} {us : List Value}, cdKeys cds = some ks → boxCs H ks = some css → All2 (CDR γ w A b) cds us →
    IoL w (A0k x γ w keys) (css.map .iptr) (ks.map (infoOf γ)) us ∧ ∀ k ∈ ks, ∃ i ob, γ k = some i ∧ H k = some ob
  | [], ks, css, [], h, hb, _ => by
    cases h
    cases hb
    exact ⟨trivial, by simp⟩
  | c :: cds, ks, css, u :: us, h, hb, hv => by
    cases c with
    | b k =>
      simp only [cdKeys, Option.map_eq_some_iff] at h
      obtain ⟨l, hl, rfl⟩ := h
      simp only [boxCs] at hb
      split at hb
      · rename_i cs l1 h1 h2
        cases hb
        obtain ⟨j1, j2⟩ := boxCs_L (keys := keys) hi hl h2 hv.2
        have hv1 : VR1 γ w (Av x γ w) H (.ptr k 0) u := hv.1
        obtain ⟨i1, i2⟩ := ioK1_V (keys := keys) (v := .iptr cs) hi (raw := .ptr k 0) rfl (by simp [gnd1, h1]) hv1
        refine ⟨⟨i1, j1⟩, fun k' hk' => ?_⟩
        rcases List.mem_cons.1 hk' with rfl | hk'
        · exact i2
        · exact j2 k' hk'
      · cases hb
    | s => simp [cdKeys] at h
    | v g l => simp [cdKeys] at h
  | [], _, _, _ :: _, _, _, h => h.elim
  | _ :: _, _, _, [], _, _, h => h.elim
theorem PtrR.noG {γ' : Gam} {A : Nat → Prop} : ∀ (v : V) (u : Value), VR1 noGam w A emp v u → VR1 γ' w A emp v u := by
  intro v u h
  cases v with
  | ptr k off => obtain ⟨b, c, h1, _⟩ := h; cases h1
  | own k win t => obtain ⟨i, e, xs, n, h1, _⟩ := h; cases h1
  | eptr k win i off => obtain ⟨b, c, e, xs, n, h1, _⟩ := h; cases h1
  | aptr k off n e i => obtain ⟨b, c, h1, _⟩ := h; cases h1
  | map k => obtain ⟨b, c, h1, _⟩ := h; cases h1
  | fptr f cds =>
    obtain ⟨b, us, h1, h2, h3⟩ := h
    refine ⟨b, us, h1, h2, ?_⟩
    clear h1 h2
    induction cds generalizing us with
    | nil => cases us with | nil => trivial | cons _ _ => exact h3.elim
    | cons c cds ih =>
      cases us with
      | nil => exact h3.elim
      | cons u us =>
        refine ⟨?_, ih us h3.2⟩
        have h4 := h3.1
        cases c with
        | b k => obtain ⟨b, c, h5, _⟩ := h4; cases h5
        | s => exact h4
        | v g ks =>
          obtain ⟨b', us', e1, e2, e3⟩ := h4
          refine ⟨b', us', e1, e2, ?_⟩
          cases ks with
          | nil => cases us' with | nil => trivial | cons _ _ => exact e3.elim
          | cons k ks =>
            cases us' with
            | nil => exact e3.elim
            | cons u' us' => obtain ⟨b, c, h5, _⟩ := e3.1; cases h5
  | _ => exact h
theorem VR.noG {γ' : Gam} {A : Nat → Prop} (v : V) (u : Value) (h : VR noGam w A emp v u) : VR γ' w A emp v u := by
  cases v with
  | tup vs => obtain ⟨us, h1, h2⟩ := h; exact ⟨us, h1, h2.mono PtrR.noG⟩
  | fn f vs => obtain ⟨us, h1, h2⟩ := h; exact ⟨us, h1, h2.mono PtrR.noG⟩
  | _ => simp only [VR] at h ⊢; exact PtrR.noG _ u h
theorem ioArgs_rel {keys : List Nat} {ks0 : List Nat} (hi : Inv x γ H w) : ∀ {flags : List Bool} {raws vs : List V} {us : List Value} {ks oth : List Nat}, ioArgs flags raws = some (ks, oth) → ElemsK x γ w H ks0 flags raws vs us → (∀ k ∈ oth, k ∈ keys) →
    IoRel w (A0k x γ w keys) (ks0.map (infoOf γ)) flags vs (ks.map (infoOf γ)) us ∧ ∀ k ∈ ks, ∃ i ob, γ k = some i ∧ H k = some ob
  | [], [], [], [], ks, oth, h, _, _ => by
    cases h
    exact ⟨trivial, by simp⟩
  | false :: fs, raw :: raws, v :: vs, u :: us, ks, oth, h, he, hk => by
    simp only [ioArgs] at h
    split at h
    · rename_i k o' h1
      cases h
      obtain ⟨i1, i2⟩ := ioArgs_rel hi h1 he.2 fun q hq => hk q (by simp [hq])
      refine ⟨⟨?_, i1⟩, i2⟩
      rcases he.1 with he1 | ⟨g, cds, rfl, hg, hv⟩
      · exact VR.noG v u (he1.1 keys fun q hq => hk q (by simp [hq]))
      · simp only [gndK, cond_false, Option.map_eq_some_iff] at hg
        obtain ⟨cds', h2, rfl⟩ := hg
        obtain ⟨b, us', e1, e2, e3⟩ := hv
        have hA : ∀ b, Av x γ w b → A0k x γ w keys b ∧ w.heap[b]? = w.heap[b]? := fun b hb => ⟨.inl hb, rfl⟩
        exact ⟨b, us', e1, e2.mono hA, (CDR_pin h2 e3).mono (CDR.mono hA)⟩
    · cases h
  | true :: fs, raw :: raws, v :: vs, u :: us, ks, oth, h, he, hk => by
    simp only [ioArgs] at h
    split at h
    · rename_i ks1 k o' h1 h2
      cases h
      obtain ⟨i1, i2⟩ := ioArgs_rel hi h2 he.2 hk
      rcases he.1 with he1 | ⟨g, cds, rfl, hg, hv⟩
      rotate_left
      · simp only [gndK, cond_true, Option.map_eq_some_iff] at hg
        obtain ⟨css, h3, rfl⟩ := hg
        obtain ⟨ks2, h4, h5⟩ := Option.bind_eq_some_iff.1 h3
        have : ks2 = ks1 := by
          simp only [ioKs] at h1
          rw [h4] at h1
          cases h1
          rfl
        subst this
        obtain ⟨b, us', e1, e2, e3⟩ := hv
        have hA : ∀ b, Av x γ w b → A0k x γ w keys b ∧ w.heap[b]? = w.heap[b]? := fun b hb => ⟨.inl hb, rfl⟩
        obtain ⟨j1, j2⟩ := boxCs_L (keys := keys) hi h4 h5 e3
        refine ⟨⟨ks2.map (infoOf γ), k.map (infoOf γ), us', b, by simp, e1, e2.mono hA, j1, i1⟩, fun q hq => ?_⟩
        rcases List.mem_append.1 hq with hq | hq
        · exact j2 q hq
        · exact i2 q hq
      have hne : raw ≠ .undef := by
        intro e
        subst e
        cases h1
      obtain ⟨hg, hv⟩ := he1.2 hne
      have one : ∀ (k' : Nat), ioK1 raw = some k' → gnd1 H raw = some v → VR1 γ w (Av x γ w) H raw u → ks1 = [k'] → (∀ f caps, v ≠ .fn f caps) → (∀ f caps, v ≠ .fpb f caps) →
          IoRel w (A0k x γ w keys) (ks0.map (infoOf γ)) (true :: fs) (v :: vs) ((ks1 ++ k).map (infoOf γ)) (u :: us) ∧ ∀ q ∈ ks1 ++ k, ∃ i ob, γ q = some i ∧ H q = some ob := by
        intro k' e1 e2 e3 e4 e5 e6
        subst e4
        obtain ⟨j1, j2⟩ := ioK1_V (keys := keys) hi e1 e2 e3
        refine ⟨?_, fun q hq => ?_⟩
        · simp only [List.singleton_append, List.map_cons]
          cases v <;> first | exact ⟨j1, i1⟩ | exact absurd rfl (e5 _ _) | exact absurd rfl (e6 _ _)
        · rcases List.mem_append.1 hq with hq | hq
          · rw [List.mem_singleton.1 hq]
            exact j2
          · exact i2 q hq
      cases raw with
      | fn f caps =>
        simp only [gnd, Option.map_eq_some_iff] at hg
        obtain ⟨vs', g1, rfl⟩ := hg
        obtain ⟨us', e1, hvs⟩ := hv
        obtain ⟨j1, j2⟩ := ioKL_L (keys := keys) hi h1 g1 hvs
        refine ⟨⟨ks1.map (infoOf γ), k.map (infoOf γ), us', by simp, e1, j1, i1⟩, fun q hq => ?_⟩
        rcases List.mem_append.1 hq with hq | hq
        · exact j2 q hq
        · exact i2 q hq
      | own k' win t =>
        simp only [ioKs, Option.map_eq_some_iff] at h1
        obtain ⟨k2, h1, rfl⟩ := h1
        refine one k2 h1 hg hv rfl ?_ ?_
        all_goals
          intro f caps e
          subst e
          simp only [gnd, gnd1] at hg
          split at hg <;> cases hg
      | ptr k' off =>
        simp only [ioKs, Option.map_eq_some_iff] at h1
        obtain ⟨k2, h1, rfl⟩ := h1
        refine one k2 h1 hg hv rfl ?_ ?_
        all_goals
          intro f caps e
          subst e
          simp only [gnd, gnd1] at hg
          split at hg
          · rename_i cs _
            cases hd : decide (off ≤ cs.length) <;> rw [hd] at hg <;> cases hg
          · cases hg
      | fptr g cds => simp [gnd, gnd1] at hg
      | _ => simp [ioKs, ioK1] at h1
    · cases h
  | [], _ :: _, _, _, _, _, h, _, _ => by simp [ioArgs] at h
  | f :: _, [], _, _, _, _, h, _, _ => by cases f <;> simp [ioArgs] at h
  | [], [], [], _ :: _, _, _, _, h, _ => h.elim
  | [], [], _ :: _, _, _, _, _, h, _ => h.elim
  | _ :: _, _ :: _, [], _, _, _, _, h, _ => h.elim
  | _ :: _, _ :: _, _ :: _, [], _, _, _, h, _ => h.elim
theorem argV_elem {T : Tab} {t : TypeId} {y : Operand} {v : V} (hi : Inv x γ st.hp w) (hv : Ops (opV st) st.hp x γ w a) (h : argV T (opV st) st.hp t y = some v) :
    Elem x γ w st.hp (match opV st y with | some u => u | none => .undef) v (a.eval y) := by
  unfold argV at h
  cases hn : isNil y with
  | true =>
    rw [hn] at h
    simp only [cond_true, nilV] at h
    have hy := isNil_eq hn
    subst hy
    split at h
    · cases h
      exact ⟨fun keys _ => ⟨none, 0, rfl, Nat.le_refl _, fun _ => rfl, .inl rfl⟩, fun hne => absurd rfl hne⟩
    · cases h
  | false =>
    rw [hn] at h
    simp only [cond_false] at h
    obtain ⟨v0, g1, g2⟩ := Option.bind_eq_some_iff.1 h
    rw [g1]
    exact ⟨fun keys hk => gnd_VR hi g2 (hv y v0 g1) hk, fun _ => ⟨g2, hv y v0 g1⟩⟩
theorem argsV_elems {T : Tab} (hi : Inv x γ st.hp w) (hv : Ops (opV st) st.hp x γ w a) : ∀ {ts : List TypeId} {ys : List Operand} {vs : List V}, argsV T (opV st) st.hp ts ys = some vs →
    Elems x γ w st.hp (ys.map fun y => match opV st y with | some u => u | none => .undef) vs (ys.map a.eval)
  | [], [], vs, h => by
    cases h
    trivial
  | t :: ts, y :: ys, vs, h => by
    simp only [argsV] at h
    split at h
    · rename_i v vs' h1 h2
      cases h
      exact ⟨argV_elem hi hv h1, argsV_elems hi hv h2⟩
    · cases h
  | [], _ :: _, _, h => by cases h
  | _ :: _, [], _, h => by cases h
theorem gndsK_elems {ks0 : List Nat} (hi : Inv x γ H w) : ∀ {fs : List Bool} {caps caps' : List V} {us : List Value}, gndsK H ks0 fs caps = some caps' → All2 (VR1 γ w (Av x γ w) H) caps us → ElemsK x γ w H ks0 fs caps caps' us
  | [], [], caps', [], h, _ => by
    cases h
    trivial
  | f :: fs, c :: cs, caps', u :: us, h, hv => by
    simp only [gndsK] at h
    split at h
    · rename_i v vs h1 h2
      cases h
      refine ⟨?_, gndsK_elems hi h2 hv.2⟩
      have hv1 := VR1.up hv.1
      cases c with
      | fptr g cds => exact .inr ⟨g, cds, rfl, h1, hv.1⟩
      | fn g vs => exact hv.1.elim
      | tup vs => exact hv.1.elim
      | _ =>
        simp only [gndK] at h1
        exact .inl ⟨fun keys hk => gnd_VR hi (v' := v) (by simp only [gnd]; exact h1) hv1 hk, fun _ => ⟨by simp only [gnd]; exact h1, hv1⟩⟩
    · cases h
  | [], _ :: _, _, _, h, _ => by simp [gndsK] at h
  | f :: _, [], _, _, h, _ => by cases f <;> simp [gndsK] at h
  | [], [], _, _ :: _, _, h => h.elim
  | _ :: _, _ :: _, _, [], _, h => h.elim
theorem ElemsK.app {ks0 : List Nat} : ∀ {rs vs : List V} {us : List Value} {fs : List Bool} {rs' vs' : List V} {us' : List Value}, Elems x γ w H rs vs us → vs.length ≤ fs.length → ElemsK x γ w H ks0 (fs.drop vs.length) rs' vs' us' → ElemsK x γ w H ks0 fs (rs ++ rs') (vs ++ vs') (us ++ us')
  | [], [], [], fs, _, _, _, _, _, h' => by simpa using h'
  | _ :: _, _ :: _, _ :: _, f :: fs, _, _, _, h, hl, h' => ⟨.inl h.1, ElemsK.app h.2 (by simpa using hl) (by simpa using h')⟩
  | _ :: _, _ :: _, _ :: _, [], _, _, _, _, hl, _ => by simp at hl
  | [], [], _ :: _, _, _, _, _, h, _, _ => h.elim
  | [], _ :: _, _, _, _, _, _, h, _, _ => h.elim
  | _ :: _, [], _, _, _, _, _, h, _, _ => h.elim
  | _ :: _, _ :: _, [], _, _, _, _, h, _, _ => h.elim
theorem Elems.len : ∀ {rs vs : List V} {us : List Value}, Elems x γ w H rs vs us → rs.length = vs.length
  | [], [], [], _ => rfl
  | _ :: _, _ :: _, _ :: _, h => by simp [Elems.len h.2]
  | [], [], _ :: _, h => h.elim
  | [], _ :: _, _, h => h.elim
  | _ :: _, [], _, h => h.elim
  | _ :: _, _ :: _, [], h => h.elim
theorem ioArgs_len : ∀ {flags : List Bool} {raws : List V} {q : List Nat × List Nat}, ioArgs flags raws = some q → flags.length = raws.length
  | [], [], _, _ => rfl
  | true :: fs, v :: vs, q, h => by
    simp only [ioArgs] at h
    split at h
    · rename_i h2
      simp [ioArgs_len h2]
    · cases h
  | false :: fs, v :: vs, q, h => by
    simp only [ioArgs] at h
    split at h
    · rename_i h2
      simp [ioArgs_len h2]
    · cases h
  | [], _ :: _, _, h => by simp [ioArgs] at h
  | f :: _, [], _, h => by cases f <;> simp [ioArgs] at h
/-! ### What is written -/
theorem out1_no {ob ob' : O} {x' : Out} (h : out1 ob x' = some ob') : NoOsl ob' := by
  unfold out1 at h
  split at h
  · obtain ⟨h1, h⟩ := cond_some h rfl
    cases h
    rw [Bool.and_eq_true] at h1
    exact NoOsl.box h1.2
  · split at h
    · obtain ⟨_, h⟩ := cond_some h rfl
      cases h
      exact NoOsl.arr
    · cases h
  · cases h
theorem out1_same {ob ob' : O} {x' : Out} (h : out1 ob x' = some ob') : sameO ob ob' := by
  unfold out1 at h
  split at h
  · obtain ⟨_, h⟩ := cond_some h rfl
    cases h
    trivial
  · split at h
    · rename_i ys hys
      obtain ⟨hd, h⟩ := cond_some h rfl
      cases h
      exact ⟨rfl, Nat.eq_of_beq_eq_true hd, rfl⟩
    · cases h
  · cases h
theorem castL_eq' {e' e : Sh} {xs : List e'.den} {ys : List e.den} (h : castL e' e xs = some ys) : ∃ he : e' = e, ys = he ▸ xs := by
  unfold castL at h
  split at h
  · rename_i he
    cases h
    exact ⟨he, rfl⟩
  · cases h
theorem out1_obj {A : Nat → Prop} {ob ob' : O} {x' : Out} {i : Info} {w0 : World} {A' : Nat → Prop} (h : out1 ob x' = some ob') (hold : objR w0 A' ob i) (hn : OutR w A x' i) : objR w A ob' i := by
  unfold out1 at h
  split at h
  · obtain ⟨_, h⟩ := cond_some h rfl
    cases h
    exact hn
  · rename_i e xs n e' ys
    split at h
    · rename_i ys' hys
      obtain ⟨he, rfl⟩ := castL_eq' hys
      subst he
      obtain ⟨hd, h⟩ := cond_some h rfl
      have hl := Nat.eq_of_beq_eq_true hd
      cases h
      cases i with
      | emp => exact hn
      | «at» b c =>
        refine ⟨fun e => ?_, hn.2⟩
        have := hold.1 e
        intro hys
        have hys : ys = [] := hys
        have hl : ys.length = xs.length := hl
        rw [hys] at hl
        exact this (List.length_eq_zero_iff.1 hl.symm)
    · cases h
  · cases h
theorem out1C_some {ob : O} {q : Out} {Ko : O → Option ρ} (h : out1C ob q ρ Ko = some r) : ∃ ob', out1 ob q = some ob' ∧ Ko ob' = some r ∧ ∀ (ρ' : Type) (K' : O → Option ρ'), out1C ob q ρ' K' = K' ob' := by
  cases ob with
  | box cs =>
    cases q with
    | box cs' =>
      simp only [out1C] at h
      obtain ⟨h1, h2⟩ := cond_some h rfl
      exact ⟨_, by simp only [out1, h1, cond_true], h2, fun ρ' K' => by simp only [out1C, h1, cond_true]⟩
    | arr e xs => cases h
  | arr e xs n =>
    cases q with
    | box cs' => cases h
    | arr e' ys =>
      simp only [out1C] at h
      split at h
      · rename_i ys' hys
        obtain ⟨h1, h2⟩ := cond_some h rfl
        exact ⟨_, by simp only [out1, hys, h1, cond_true], h2, fun ρ' K' => by simp only [out1C, hys, h1, cond_true]⟩
      · cases h
  | mp _ _ _ => cases q <;> cases h
  | fbox => cases q <;> cases h
  | iter _ _ => cases q <;> cases h
theorem outsPutC_some : ∀ {ks : List Nat} {outs : List Out} {H : Heap} {Kh : Heap → Option ρ}, outsPutC H ks outs ρ Kh = some r → ∃ H', outsPut H ks outs = some H' ∧ Kh H' = some r ∧ ∀ (ρ' : Type) (K' : Heap → Option ρ'), outsPutC H ks outs ρ' K' = K' H'
  | [], [], H, Kh, h => ⟨H, rfl, h, fun _ _ => rfl⟩
  | k :: ks, q :: outs, H, Kh, h => by
    simp only [outsPutC] at h
    split at h
    · rename_i ob hob
      obtain ⟨ob', h1, h2, h3⟩ := out1C_some h
      obtain ⟨H', h4, h5, h6⟩ := outsPutC_some h2
      exact ⟨H', by simp only [outsPut, hob, h1, h4], h5, fun ρ' K' => by simp only [outsPutC, hob, h3, h6]⟩
    · cases h
  | [], _ :: _, _, _, h => by cases h
  | _ :: _, [], _, _, h => by cases h
/-- What the writing leaves under each key. -/
theorem outsPut_spec {A : Nat → Prop} {w0 : World} {A' : Nat → Prop} : ∀ {ks : List Nat} {outs : List Out} {H H' : Heap}, outsPut H ks outs = some H' → ks.Nodup → All2 (OutR w A) outs (ks.map (infoOf γ)) →
    (∀ k ∈ ks, ∃ i ob, γ k = some i ∧ H k = some ob ∧ objR w0 A' ob i) →
    (∀ j, j ∉ ks → H' j = H j) ∧ ∀ k ∈ ks, ∃ i ob ob', γ k = some i ∧ H k = some ob ∧ H' k = some ob' ∧ sameO ob ob' ∧ objR w A ob' i ∧ NoOsl ob'
  | [], [], H, H', h, _, _, _ => by
    cases h
    exact ⟨fun _ _ => rfl, by simp⟩
  | k :: ks, q :: outs, H, H', h, hnd, hout, hex => by
    obtain ⟨hn1, hn2⟩ := List.nodup_cons.1 hnd
    simp only [outsPut] at h
    obtain ⟨i, ob, hγ, hH, hob⟩ := hex k (by simp)
    rw [hH] at h
    simp only at h
    split at h
    · rename_i ob' ho
      have hne : ∀ j ∈ ks, j ≠ k := fun j hj e => hn1 (by rw [← e]; exact hj)
      obtain ⟨h1, h2⟩ := outsPut_spec (w0 := w0) (A' := A') h hn2 hout.2 fun j hj => by
        obtain ⟨i', ob2, e1, e2, e3⟩ := hex j (by simp [hj])
        exact ⟨i', ob2, e1, by rw [upd_ne _ _ (hne j hj)]; exact e2, e3⟩
      refine ⟨fun j hj => ?_, fun j hj => ?_⟩
      · simp only [List.mem_cons, not_or] at hj
        rw [h1 j hj.2, upd_ne _ _ hj.1]
      · rcases List.mem_cons.1 hj with rfl | hj
        · refine ⟨i, ob, ob', hγ, hH, by rw [h1 j hn1, upd_self], out1_same ho, ?_⟩
          have h3 : OutR w A q (infoOf γ j) := hout.1
          simp only [infoOf, hγ, Option.getD_some] at h3
          exact ⟨out1_obj ho hob h3, out1_no ho⟩
        · obtain ⟨i', ob1, ob2, e1, e2, e3, e4, e5⟩ := h2 j hj
          exact ⟨i', ob1, ob2, e1, by rw [← upd_ne H ob' (hne j hj)]; exact e2, e3, e4, e5⟩
    · cases h
  | [], _ :: _, _, _, h, _, _, _ => by cases h
  | _ :: _, [], _, _, h, _, _, _ => by simp [outsPut] at h
theorem VR.sameH {A : Nat → Prop} {H' : Heap} (hs : ∀ k i, γ k = some i → (H' k = H k ∨ ∃ ob ob', H k = some ob ∧ H' k = some ob' ∧ sameO ob ob')) : ∀ (y : V) (u : Value), VR γ w A H y u → VR γ w A H' y u := by
  have one : ∀ (y : V) (u : Value), VR1 γ w A H y u → VR1 γ w A H' y u := by
    intro y u h
    cases y with
    | own j win t =>
      obtain ⟨i, e, xs, nilE, h1, h2, h3⟩ := h
      rcases hs j i h1 with e1 | ⟨ob, ob', e1, e2, e3⟩
      · exact ⟨i, e, xs, nilE, h1, e1.trans h2, h3⟩
      · rw [h2] at e1
        cases e1
        cases ob' with
        | arr e' xs' n' =>
          obtain ⟨rfl, hl, rfl⟩ := e3
          exact ⟨i, _, xs', _, h1, e2, by rw [hl]; exact h3⟩
        | _ => exact e3.elim
    | eptr j win i off =>
      obtain ⟨b, c, e, xs, nilE, h1, h2, h3, h4, h5⟩ := h
      rcases hs j _ h1 with e1 | ⟨ob, ob', e1, e2, e3⟩
      · exact ⟨b, c, e, xs, nilE, h1, e1.trans h2, h3, h4, h5⟩
      · rw [h2] at e1
        cases e1
        cases ob' with
        | arr e' xs' n' =>
          obtain ⟨rfl, hl, rfl⟩ := e3
          exact ⟨b, c, _, xs', _, h1, e2, h3, by rw [view_len hl]; exact h4, h5⟩
        | _ => exact e3.elim
    | ptr j off => exact h
    | aptr j off n e i => exact h
    | map j => exact h
    | undef => trivial
    | c y => exact h
    | agg cs => exact h
    | iptr cs => exact h
    | tup vs => exact h
    | fn f vs => exact h
    | fptr f cds => exact h
    | fpb f css => exact h
  intro y u h
  cases y with
  | tup vs => obtain ⟨us, h1, h2⟩ := h; exact ⟨us, h1, h2.mono one⟩
  | fn f caps => obtain ⟨us, h1, h2⟩ := h; exact ⟨us, h1, h2.mono one⟩
  | _ => simp only [VR] at h ⊢; exact one _ _ h
theorem mem_of_memN {d : Nat} {l : List Nat} (h : d ∈ l) : memN d l = true := List.any_eq_true.2 ⟨d, h, Nat.beq_refl d⟩
theorem nodup_of : ∀ {l : List Nat}, nodupB l = true → l.Nodup
  | [], _ => List.nodup_nil
  | d :: l, h => by
    simp only [nodupB, Bool.and_eq_true, Bool.not_eq_true'] at h
    refine List.nodup_cons.2 ⟨fun hm => ?_, nodup_of h.2⟩
    rw [mem_of_memN hm] at h
    cases h.1
/-- The world behind a call that writes some own things and makes new ones. -/
theorem Inv.io {w' : World} {ks : List Nat} {outs : List Out} {H' : Heap} {L : List Ent} {A1 : Nat → Prop} (hi : Inv x γ H w) (hnd : ks.Nodup) (hex : ∀ k ∈ ks, ∃ i ob, γ k = some i ∧ H k = some ob) (hput : outsPut H ks outs = some H')
    (g : GrowsBut (ks.map (infoOf γ)) w w') (hout : All2 (OutR w' A1) outs (ks.map (infoOf γ))) (hA1 : ∀ b, A1 b → Av x (gAll γ L) w' b) (h : News x γ w w' L) (hlo : ∀ p ∈ L, p.1 < oslLo) (hLk : ∀ p ∈ L, p.1 ∉ ks)
    (hob : ∀ p ∈ L, objR w' A1 p.2.1 p.2.2) (hnoL : ∀ p ∈ L, NoOsl p.2.1) :
    Inv x (gAll γ L) (updAll H' (obsOf L)) w' ∧
    (∀ y uu, (∀ p ∈ obsOf L, refs p.1 y = false) → VR γ w (Av x γ w) H y uu → VR (gAll γ L) w' (Av x (gAll γ L) w') (updAll H' (obsOf L)) y uu) := by
  obtain ⟨hH1, hH2⟩ := outsPut_spec (w0 := w) (A' := Av x γ w) hput hnd hout fun k hk => by
    obtain ⟨i, ob, h1, h2⟩ := hex k hk
    obtain ⟨ob', h3, h4⟩ := hi.own k i h1
    rw [h2] at h3
    cases h3
    exact ⟨i, ob, h1, h2, h4⟩
  -- blocks that are not written
  have hun : ∀ b, b < w.heap.size → (∀ k ∈ ks, ∀ c, γ k ≠ some (.at b c)) → w'.heap[b]? = w.heap[b]? := by
    intro b hb hk
    refine g.blk b hb fun i hm c he => ?_
    obtain ⟨k, hkm, rfl⟩ := List.mem_map.1 hm
    obtain ⟨i, ob, h1, _⟩ := hex k hkm
    simp only [infoOf, h1, Option.getD_some] at he
    exact hk k hkm c (by rw [h1, he])
  have hold : ∀ b, Av x γ w b → Av x (gAll γ L) w' b ∧ w'.heap[b]? = w.heap[b]? := by
    intro b hb
    refine ⟨⟨Nat.lt_of_lt_of_le hb.1 g.size, hb.2.1, fun k c hk => ?_⟩, hun b hb.1 fun k _ c => hb.2.2 k c⟩
    rcases gAll_cases (γ := γ) (H := H) L k with ⟨p, hp, h1, h2, _⟩ | ⟨_, h2, _⟩
    · rw [h2] at hk
      have := (h.rng p hp b c (by simpa using hk)).1
      have := hb.1
      omega
    · rw [h2] at hk
      exact hb.2.2 k c hk
  have hA1' : ∀ b, A1 b → Av x (gAll γ L) w' b ∧ w'.heap[b]? = w'.heap[b]? := fun b hb => ⟨hA1 b hb, rfl⟩
  refine ⟨⟨Nat.le_trans hi.size g.size, g.os.trans hi.os, g.tape.trans hi.tape, g.output.trans hi.output, ?_, ?_, ?_, ?_, ?_, ?lnk⟩, ?_⟩
  case lnk =>
    intro k cs off b c ob1 h1 h2 h3 h4
    have hklo := hk_lo k off
    rcases gAll_cases (γ := γ) (H := H') L (hk k off) with ⟨p, hpm, g1, _, _⟩ | ⟨_, g2, g3⟩
    · have := hlo p hpm
      omega
    · rw [g3] at h4
      rcases gAll_cases (γ := γ) (H := H') L k with ⟨p, hpm, e1, e2, e3⟩ | ⟨_, e2, e3⟩
      · rw [e3] at h1
        exact absurd h2 (hnoL p hpm cs off (by simpa using h1))
      · rw [e2] at h3
        rw [e3] at h1
        by_cases hkm : k ∈ ks
        · obtain ⟨i', ob, ob', f1, f2, f3, f4, f5, f6⟩ := hH2 k hkm
          rw [f3] at h1
          exact absurd h2 (f6 cs off (by simpa using h1))
        · rw [hH1 k hkm] at h1
          have hbb : w'.heap[b]? = w.heap[b]? := hun b (hi.rng k b c h3).2 fun k' hk' c' he => by
            have := hi.inj k k' b c c' h3 he
            subst this
            exact hkm hk'
          by_cases hkm2 : hk k off ∈ ks
          · obtain ⟨i', ob, ob', f1, f2, f3, f4, f5, f6⟩ := hH2 (hk k off) hkm2
            obtain ⟨i, q1, cur, et, fz, u, e, xs, nilE, q2, q3, q4, q5⟩ := hi.lnk k cs off b c ob h1 h2 h3 f2
            rw [f2] at q4
            cases q4
            cases ob' with
            | arr e' xs' n' =>
              obtain ⟨rfl, hl, rfl⟩ := f4
              exact ⟨i, g2.trans q1, cur, et, fz, u, _, xs', _, hbb.trans q2, q3, g3.trans f3, by rw [hl]; exact q5⟩
            | _ => exact f4.elim
          · rw [hH1 _ hkm2] at h4
            obtain ⟨i, q1, q2⟩ := hi.lnk k cs off b c ob1 h1 h2 h3 h4
            exact ⟨i, g2.trans q1, q2.mono hbb (g3.trans (hH1 _ hkm2))⟩
  · intro b hb hm
    refine (hun b (Nat.lt_of_lt_of_le hb hi.size) fun k _ c hk => ?_).trans (hi.blk b hb hm)
    rcases (hi.rng k b c hk).1 with h1 | h1
    · omega
    · exact hm h1
  · intro k i hk
    rcases gAll_cases (γ := γ) (H := H') L k with ⟨p, hp, h1, h2, h3⟩ | ⟨h1, h2, h3⟩
    · rw [h2] at hk
      cases hk
      exact ⟨_, h3, objR.mono hA1' _ _ (fun _ _ _ => rfl) (hob p hp)⟩
    · rw [h2] at hk
      by_cases hkm : k ∈ ks
      · obtain ⟨i', ob, ob', e1, e2, e3, e4, e5, e6⟩ := hH2 k hkm
        rw [e1] at hk
        cases hk
        exact ⟨ob', h3.trans e3, objR.mono hA1' _ _ (fun _ _ _ => rfl) e5⟩
      · obtain ⟨ob, h4, h5⟩ := hi.own k i hk
        refine ⟨ob, (h3.trans (hH1 k hkm)).trans h4, objR.mono hold ob i (fun b c hb => ?_) h5⟩
        refine hun b (hi.rng k b c (hb ▸ hk)).2 fun k' hk' c' he => ?_
        have := hi.inj k k' b c c' (hb ▸ hk) he
        subst this
        exact hkm hk'
  · intro k b c hk
    rcases gAll_cases (γ := γ) (H := H) L k with ⟨p, hp, h1, h2, h3⟩ | ⟨h1, h2, h3⟩
    · rw [h2] at hk
      have h4 := h.rng p hp b c (by simpa using hk)
      have := hi.size
      exact ⟨.inl (by omega), h4.2⟩
    · rw [h2] at hk
      exact ⟨(hi.rng k b c hk).1, Nat.lt_of_lt_of_le (hi.rng k b c hk).2 g.size⟩
  · intro k k' b c c' hk hk'
    rcases gAll_cases (γ := γ) (H := H) L k with ⟨p, hp, h1, h2, h3⟩ | ⟨h1, h2, h3⟩ <;> rcases gAll_cases (γ := γ) (H := H) L k' with ⟨q, hq, g1, g2, g3⟩ | ⟨g1, g2, g3⟩
    · rw [h2] at hk
      rw [g2] at hk'
      rcases pair_eq h.dis hp hq with rfl | h4 | h4
      · exact h1.symm.trans g1
      · exact absurd (by simpa using hk') (h4.2 b c c' (by simpa using hk))
      · exact absurd (by simpa using hk) (h4.2 b c' c (by simpa using hk'))
    · rw [h2] at hk
      rw [g2] at hk'
      have h4 := (h.rng p hp b c (by simpa using hk)).1
      have h5 := (hi.rng k' b c' hk').2
      omega
    · rw [h2] at hk
      rw [g2] at hk'
      have h4 := (h.rng q hq b c' (by simpa using hk')).1
      have h5 := (hi.rng k b c hk).2
      omega
    · rw [h2] at hk
      rw [g2] at hk'
      exact hi.inj k k' b c c' hk hk'
  · intro k i hp hH
    rcases gAll_cases (γ := γ) (H := H') L k with ⟨p, hpm, h1, h2, h3⟩ | ⟨h1, h2, h3⟩
    · have := x.pinlo k i hp
      have := hlo p hpm
      have := osl_pin
      omega
    · rw [h3] at hH
      rw [h2]
      refine hi.pin k i hp ?_
      by_cases hkm : k ∈ ks
      · obtain ⟨i', ob, ob', e1, e2, e3, e4, e5, e6⟩ := hH2 k hkm
        rw [e2]
        simp
      · rwa [hH1 k hkm] at hH
  · intro y uu hr hv
    have h1 : VR γ w' (Av x (gAll γ L) w') H' y uu := by
      refine VR.sameH (fun k i hk => ?_) y uu (VR.mono hold y uu hv)
      by_cases hkm : k ∈ ks
      · obtain ⟨i', ob, ob', e1, e2, e3, e4, e5, e6⟩ := hH2 k hkm
        exact .inr ⟨ob, ob', e2, e3, e4⟩
      · exact .inl (hH1 k hkm)
    refine VR.key (ks := L.map (·.1)) ?_ ?_ y uu ?_ h1
    · intro j hj
      rcases gAll_cases (γ := γ) (H := H') L j with ⟨p, hp, h1, _⟩ | ⟨_, h2, _⟩
      · exact absurd (List.mem_map.2 ⟨p, hp, h1⟩) hj
      · exact h2
    · intro j hj
      rcases gAll_cases (γ := γ) (H := H') L j with ⟨p, hp, h1, _⟩ | ⟨_, _, h2⟩
      · exact absurd (List.mem_map.2 ⟨p, hp, h1⟩) hj
      · exact h2
    · intro k hk
      obtain ⟨p, hp, rfl⟩ := List.mem_map.1 hk
      exact hr _ (obsOf_mem hp)
theorem OutR.noSl {w : World} {A A' : Nat → Prop} {q : Out} {i : Info} (h : q.hasSl = false) (hq : OutR w A q i) : OutR w A' q i := by
  cases q with
  | box cs =>
    cases i with
    | emp => exact hq
    | «at» b c =>
      obtain ⟨cur, et, h1, h2⟩ := hq
      exact ⟨cur, et, h1, All2.noSl h h2⟩
  | arr e xs =>
    cases i with
    | emp => exact hq
    | «at» b c =>
      obtain ⟨g0, g1, cur, et, g2, g3, g4⟩ := hq
      exact ⟨g0, g1, cur, et, g2, g3, fun i x hx => VRs.noSl e x _ h (g4 i x hx)⟩
theorem OutR.mono {w : World} {A A' : Nat → Prop} (hA : ∀ b, A b → A' b) {q : Out} {i : Info} (hq : OutR w A q i) : OutR w A' q i := by
  cases q <;> exact objR.mono (fun b hb => ⟨hA b hb, rfl⟩) _ i (fun _ _ _ => rfl) hq
theorem outs_map {w : World} {A A' : Nat → Prop} : ∀ {outs : List Out} {is : List Info}, (∀ q ∈ outs, ∀ i, OutR w A q i → OutR w A' q i) → All2 (OutR w A) outs is → All2 (OutR w A') outs is
  | [], [], _, _ => trivial
  | q :: outs, i :: is, f, h => ⟨f q (by simp) i h.1, outs_map (fun q' hq => f q' (by simp [hq])) h.2⟩
  | [], _ :: _, _, h => h.elim
  | _ :: _, [], _, h => h.elim
theorem any_false {α : Type} {f : α → Bool} {l : List α} (h : l.any f = false) : ∀ q ∈ l, f q = false := by
  intro q hq
  cases hf : f q with
  | false => rfl
  | true =>
    have : l.any f = true := List.any_eq_true.2 ⟨q, hq, hf⟩
    rw [h] at this
    cases this
/-- A step that writes as well. -/
theorem RS.step2 {γ' : Gam} {w' : World} {v : V} {obs : List (Nat × O)} {u : Value} {dst : Option Tmp} {H2 : Heap} (h : RS x γ st a w) (hd : ∀ p ∈ obs, noRef p.1 (put st dst .undef).tm = true) (h1 : Inv x γ' (updAll H2 obs) w')
    (h2 : VR γ' w' (Av x γ' w') (updAll H2 obs) v u) (h3 : ∀ y uu, (∀ p ∈ obs, refs p.1 y = false) → VR γ w (Av x γ w) st.hp y uu → VR γ' w' (Av x γ' w') (updAll H2 obs) y uu) :
    RS x γ' { tm := (put st dst v).tm, hp := updAll H2 obs } (a.put dst u) w' := by
  refine ⟨h1, ?_, ?_, ?_⟩
  · rw [put_size, ← h.len]
    cases dst <;> simp [put]
  · intro t y hy
    cases dst with
    | none =>
      simp only [put] at hy
      refine h3 y _ (fun p hp => ?_) (h.tm t y hy)
      exact noRef_get (by simpa [put] using hd p hp) hy
    | some d =>
      rw [put_getD]
      simp only [put, List.getElem?_set] at hy
      split at hy
      · rename_i hdt
        split at hy
        · rename_i hlt
          cases hy
          rw [if_pos ⟨hdt.symm, by rw [← h.len]; exact hlt⟩]
          exact h2
        · cases hy
      · rename_i hdt
        rw [if_neg (fun e => hdt e.1.symm)]
        refine h3 y _ (fun p hp => ?_) (h.tm t y hy)
        refine noRef_get (tm := st.tm.set d .undef) (by simpa [put] using hd p hp) (t := t) ?_
        rw [List.getElem?_set, if_neg hdt]
        exact hy
  · rw [put_defers]; exact h.nod
/-- What a call that writes leaves, in the caller. -/
theorem Inv.callio {w' : World} {ks : List Nat} {outs : List Out} {H' : Heap} {A1 : Nat → Prop} {ret : Ret} {js : List Info} {us : List Value} {key : Nat} (hi : Inv x γ H w) (hnd : ks.Nodup) (hex : ∀ k ∈ ks, ∃ i ob, γ k = some i ∧ H k = some ob)
    (hput : outsPut H ks outs = some H') (g : GrowsBut (ks.map (infoOf γ)) w w') (hA1 : A1 = newA w w' (Av x γ w) (js ++ ks.map (infoOf γ))) (hret : RetRs w w' A1 ret js us) (hout : All2 (OutR w' A1) outs (ks.map (infoOf γ)))
    (hlo : ∀ p ∈ (retAll key ret).2, p.1 < oslLo) (hks : ∀ p ∈ (retAll key ret).2, p.1 ∉ ks) :
    ∃ γ', Inv x γ' (updAll H' (retAll key ret).2) w' ∧ VR γ' w' (Av x γ' w') (updAll H' (retAll key ret).2) (retAll key ret).1 (retVal us) ∧
      ∀ y uu, (∀ p ∈ (retAll key ret).2, refs p.1 y = false) → VR γ w (Av x γ w) H y uu → VR γ' w' (Av x γ' w') (updAll H' (retAll key ret).2) y uu := by
  have main : ∀ (L : List Ent), (∀ p ∈ obsOf L, p.1 < oslLo ∧ p.1 ∉ ks) → News x γ w w' L → (∀ p ∈ L, objR w' A1 p.2.1 p.2.2) → (∀ p ∈ L, p.2.2 ∈ js) → (∀ p ∈ L, NoOsl p.2.1) →
      (Inv x (gAll γ L) (updAll H' (obsOf L)) w' ∧ (∀ y uu, (∀ p ∈ obsOf L, refs p.1 y = false) → VR γ w (Av x γ w) H y uu → VR (gAll γ L) w' (Av x (gAll γ L) w') (updAll H' (obsOf L)) y uu)) ∧
      ∀ b, A1 b → Av x (gAll γ L) w' b := by
    intro L hl hn hob hsub hno
    have hA : ∀ b, A1 b → Av x (gAll γ L) w' b := by
      intro b hb
      rw [hA1] at hb
      refine ⟨hb.1, fun hlt => (hb.2.1 (Nat.lt_of_lt_of_le hlt hi.size)).2.1 hlt, fun k c hk => ?_⟩
      rcases gAll_cases (γ := γ) (H := emp) L k with ⟨p, hp, h1, h2, _⟩ | ⟨_, h2, _⟩
      · rw [h2] at hk
        exact hb.2.2 p.2.2 (List.mem_append.2 (.inl (hsub p hp))) c (by simpa using hk)
      · rw [h2] at hk
        exact (hb.2.1 (hi.rng k b c hk).2).2.2 k c hk
    exact ⟨Inv.io hi hnd hex hput g hout hA hn (fun p hp => (hl _ (obsOf_mem hp)).1) (fun p hp => (hl _ (obsOf_mem hp)).2) hob hno, hA⟩
  have hlen := hret.lengths
  match ret, js, us, hret, hlen with
  | [r], [i], [u], h1, _ =>
    have hn : News x γ w w' (ret1L key r i) := by
      refine ⟨fun p hp => ?_, ?_⟩
      · cases r <;> simp [ret1L] at hp
        subst hp
        exact h1.1.2.2
      · cases r <;> simp [ret1L]
    obtain ⟨⟨h2, h3⟩, h4⟩ := main (ret1L key r i) (by rw [obsOf_ret1L]; exact fun p hp => ⟨hlo p hp, hks p hp⟩) hn (fun p hp => by
      cases r <;> simp [ret1L] at hp
      subst hp
      exact h1.1.1) (fun p hp => by
      cases r <;> simp [ret1L] at hp
      subst hp
      simp) (fun p hp => ret1L_arr hp)
    have hv := ret1_VR (H := H') (key := key) hn h4 h1.1 (fun p hp => hp)
    rw [obsOf_ret1L] at h2 h3 hv
    refine ⟨_, h2, ?_, h3⟩
    have : (retAll key [r]).1 = retV key r := rfl
    rw [this]
    cases r <;> exact hv
  | [], [], [], h1, _ =>
    obtain ⟨⟨h2, h3⟩, h4⟩ := main [] (by simp [obsOf]) ⟨by simp, by simp⟩ (by simp) (by simp) (by simp)
    exact ⟨_, h2, ⟨[], rfl, trivial⟩, h3⟩
  | r :: r' :: rs, i :: i' :: is, u :: u' :: us, h1, hlen =>
    have hn : News x γ w w' (retL key (r :: r' :: rs) (i :: i' :: is)) := ⟨fun p hp => (RetRs.rng (x := x) (γ := γ) h1 p hp).1, h1.dis⟩
    obtain ⟨⟨h2, h3⟩, h4⟩ := main _ (by rw [obsOf_retL _ _ _ hlen.1]; exact fun p hp => ⟨hlo p hp, hks p hp⟩) hn (fun p hp => (RetRs.rng (x := x) (γ := γ) h1 p hp).2) (fun p hp => (retL_mem hp).2) (fun p hp => retL_arr hp)
    have hv := RetRs.VRs (H := H') (key := key) hn h4 h1 (fun p hp => hp)
    rw [obsOf_retL _ _ _ hlen.1] at h2 h3 hv
    exact ⟨_, h2, ⟨_, rfl, hv⟩, h3⟩
theorem infos_apart (hi : Inv x γ H w) : ∀ {ks : List Nat}, ks.Nodup → (∀ k ∈ ks, ∃ i ob, γ k = some i ∧ H k = some ob) → apartI (ks.map (infoOf γ))
  | [], _, _ => List.Pairwise.nil
  | k :: ks, hnd, hex => by
    obtain ⟨h1, h2⟩ := List.nodup_cons.1 hnd
    refine List.Pairwise.cons (fun j hj b c c' he => ?_) (infos_apart hi h2 fun q hq => hex q (by simp [hq]))
    obtain ⟨k', hk', rfl⟩ := List.mem_map.1 hj
    intro he'
    obtain ⟨i, _, e1, _⟩ := hex k (by simp)
    obtain ⟨i', _, e2, _⟩ := hex k' (by simp [hk'])
    simp only [infoOf, e1, e2, Option.getD_some] at he he'
    have := hi.inj k k' b c c' (by rw [e1, he]) (by rw [e2, he'])
    subst this
    exact h1 hk'
/-- A call of a closure, or of a function that is handed own things that live on in what it gives back. -/
theorem E_callv {c : Call} {f : Operand} (hT : TabOK P E.T) (hphi : EnvOK P E) (ho : o.op = .call c) (hc : c.callee = .value f) (h : evalE E o st ρ K = some r) (hr : RS x γ st a w) : Eff P o K r x a w := by
  have hv := hr.ops'
  simp only [evalE, ho, hc] at h
  cases hdl : isDelF E.T f with
  | true =>
    rw [hdl] at h
    exact E_del hT hdl ho hc h hr
  | false =>
  rw [hdl, cond_false] at h
  split at h
  · rename_i v hvf
    split at h
    · rename_i g caps0
      split at h
      · rename_i vs hvs
        split at h
        rotate_left
        · rename_i flags hfl
          split at h
          · rename_i ks oth hio
            split at h
            rotate_left
            · cases h
            rename_i caps hgk
            obtain ⟨ret, outs, hk, hfc, hcall⟩ := hphi.2 g flags (vs ++ caps) ρ _ r hfl h
            obtain ⟨hnd0, hk⟩ := cond_some hk rfl
            rw [Bool.and_eq_true] at hnd0
            have hnd := nodup_of hnd0.1
            have hdis : ∀ k ∈ ks, k ∉ oth := fun k hkm hko => by
              have := List.all_eq_true.1 hnd0.2 k hkm
              rw [mem_of_memN hko] at this
              cases this
            obtain ⟨hp', hput, hk, _⟩ := outsPutC_some hk
            obtain ⟨hdd, hk⟩ := cond_some hk rfl
            -- the closure
            obtain ⟨us, e1, h2⟩ := hv _ _ hvf
            have hel0 := argsV_elems hr.inv hv hvs
            have hel1 := gndsK_elems (ks0 := ks) hr.inv hgk h2
            have hlen := ioArgs_len hio
            have hel := ElemsK.app hel0 (by
              have h3 := hel0.len
              simp only [rawArgs, List.length_append, List.length_map] at hlen h3
              omega) hel1
            obtain ⟨hrel, hex⟩ := ioArgs_rel (keys := oth) hr.inv hio hel (fun k hk => hk)
            refine ⟨_, hk, .inr (.inr ⟨g, (c.args.toList.map a.eval ++ us).toArray, w, ?_, ?_⟩)⟩
            · have hargs : c.args.map a.eval ++ us.toArray = (c.args.toList.map a.eval ++ us).toArray := by
                apply Array.ext'
                simp
              simp only [execOp, ho, resolve, hc, e1, Deferred.ofValue, Sem.run_bind, Sem.run_pure, Result.andThen_ok, invoke]
              rw [← hargs]
              simpa using hcall _ w
            · have hA := hfc w (A0k x γ w oth) _ _ (fun b hb => A0k_lt hr.inv _ b hb) hrel (infos_apart hr.inv hnd hex) (by
                intro i hi b c' he
                obtain ⟨k, hkm, rfl⟩ := List.mem_map.1 hi
                obtain ⟨i', ob, e2, e3⟩ := hex k hkm
                simp only [infoOf, e2, Option.getD_some] at he
                subst he
                refine ⟨(hr.inv.rng k b c' e2).2, ?_⟩
                rintro (hb | ⟨k', hk', c2, e4⟩)
                · exact hb.2.2 k c' e2
                · have := hr.inv.inj k k' b c' c2 e2 e4
                  subst this
                  exact hdis k hkm hk')
              refine (hA (hr.inv.globs.mono (Nat.le_refl _) fun b hb => ⟨.inl hb, rfl⟩)).mono fun e w' he => ?_
              cases e with
              | returned u =>
                obtain ⟨hgw, js, us', rfl, hret, hout⟩ := he
                -- what is laid down is forgotten
                obtain ⟨γ2, hr2, hinfo, hex2, hA2⟩ : ∃ γ2, RS x γ2 (bif ret.any Ret1.hasSl || outs.any Out.hasSl then drop st oth else st) a w ∧ ks.map (infoOf γ2) = ks.map (infoOf γ) ∧
                    (∀ k ∈ ks, ∃ i ob, γ2 k = some i ∧ (bif ret.any Ret1.hasSl || outs.any Out.hasSl then drop st oth else st).hp k = some ob) ∧
                    (RetRs w w' (newA w w' (Av x γ2 w) (js ++ ks.map (infoOf γ))) ret js us' ∧ All2 (OutR w' (newA w w' (Av x γ2 w) (js ++ ks.map (infoOf γ)))) outs (ks.map (infoOf γ))) := by
                  cases hsl : ret.any Ret1.hasSl || outs.any Out.hasSl with
                  | true =>
                    have hsub : ∀ b, newA w w' (A0k x γ w oth) (js ++ ks.map (infoOf γ)) b → newA w w' (Av x (gdel γ oth) w) (js ++ ks.map (infoOf γ)) b := fun b hb => ⟨hb.1, fun hlt => A0k_del hr.inv (hb.2.1 hlt), hb.2.2⟩
                    refine ⟨gdel γ oth, hr.drop oth, ?_, fun k hkm => ?_, hret.map fun r _ i u hx => hx.mono hsub, outs_map (fun q _ i hq => hq.mono hsub) hout⟩
                    · refine List.map_congr_left fun k hkm => ?_
                      simp only [infoOf, gdel_ne (hdis k hkm)]
                    · obtain ⟨i, ob, e2, e3⟩ := hex k hkm
                      refine ⟨i, ob, by rw [gdel_ne (hdis k hkm)]; exact e2, ?_⟩
                      simp only [cond_true]
                      cases oth with
                      | nil => exact e3
                      | cons q qs =>
                        simp only [Vi.drop, eraAll_get, if_neg (hdis k hkm)]
                        exact e3
                  | false =>
                    rw [Bool.or_eq_false_iff] at hsl
                    exact ⟨γ, hr, rfl, hex, hret.map fun r hrm i u hx => RetR1.noSl (fun b hlt hb => ⟨hb.1, fun h => absurd h (Nat.not_lt.2 hlt), hb.2.2⟩) r i u (any_false hsl.1 r hrm) hx, outs_map (fun q hq i hx => hx.noSl (any_false hsl.2 q hq)) hout⟩
                generalize (bif ret.any Ret1.hasSl || outs.any Out.hasSl then drop st oth else st) = st2 at *
                have hdd0 : ∀ p ∈ (retAll (dstKey o.dst) ret).2, dead { tm := st2.tm, hp := hp' } o.dst p.1 = true ∧ p.1 ∉ ks := fun p hp => by
                  have := List.all_eq_true.1 hdd p hp
                  rw [Bool.and_eq_true] at this
                  refine ⟨this.1, fun hm => ?_⟩
                  rw [mem_of_memN hm] at this
                  cases this.2
                have htm : ∀ (s : St) (d : Option Tmp) (v : V) (h : Heap), (put { tm := s.tm, hp := h } d v).tm = (put s d v).tm := fun s d v h => by cases d <;> rfl
                rw [← hinfo] at hgw hA2
                obtain ⟨γ', q1, q2, q3⟩ := Inv.callio (key := dstKey o.dst) hr2.inv hnd hex2 hput hgw rfl hA2.1 hA2.2 (fun p hp => (dead_spec (hdd0 p hp).1).1) (fun p hp => (hdd0 p hp).2)
                exact ⟨γ', RS.step2 hr2 (fun p hp => by
                  have := (dead_spec (hdd0 p hp).1).2
                  rwa [htm] at this) q1 q2 q3⟩
              | _ => exact he.elim
          · cases h
        rename_i hfl
        split at h
        rotate_left
        · cases h
        rename_i caps hgk
        have hgn : gnd st.hp (.fn g caps0) = some (.fn g caps) := by simp [gnd, hgk]
        obtain ⟨ret, hk, hfc, hcall⟩ := hphi.1 g (vs ++ caps) ρ _ r h
        generalize hks : (V.fn g caps0).ownKey ++ c.args.toList.flatMap (opKey (opV st)) = keys at hk
        have hin1 : ∀ k ∈ (V.fn g caps0).ownKey, k ∈ keys := fun k hkm => hks ▸ List.mem_append.2 (.inl hkm)
        have hin2 : ∀ y ∈ c.args.toList, ∀ k ∈ opKey (opV st) y, k ∈ keys := fun y hy k hkm => hks ▸ List.mem_append.2 (.inr (List.mem_flatMap.2 ⟨y, hy, hkm⟩))
        obtain ⟨us, e1, hcs⟩ := gnd_VR (v' := .fn g caps) hr.inv hgn (hv _ _ hvf) hin1
        have hargs := argsV_VR hr.inv hv hvs hin2
        obtain ⟨hdd, hk⟩ := cond_some hk rfl
        refine ⟨_, hk, .inr (.inr ⟨g, (c.args.toList.map a.eval ++ us).toArray, w, ?_, ?_⟩)⟩
        · have hargs : c.args.map a.eval ++ us.toArray = (c.args.toList.map a.eval ++ us).toArray := by
            apply Array.ext'
            simp
          simp only [execOp, ho, resolve, hc, e1, Deferred.ofValue, Sem.run_bind, Sem.run_pure, Result.andThen_ok, invoke]
          rw [← hargs]
          simpa using hcall _ w
        · have hA := hfc w (A0k x γ w keys) _ (fun b hb => A0k_lt hr.inv _ b hb) (hargs.append (hcs.mono fun _ _ q => VR1.up q))
          refine (hA (hr.inv.globs.mono (Nat.le_refl _) fun b hb => ⟨.inl hb, rfl⟩)).mono fun e w' he => ?_
          cases e with
          | returned u =>
            obtain ⟨hgw, hret⟩ := he
            cases hsl : ret.any Ret1.hasSl with
            | true =>
              rw [hsl] at hdd
              simp only [cond_true] at hdd ⊢
              have h2 := hr.layS keys
              have h3 := Res.call (key := dstKey o.dst) h2.inv hgw (.inl fun b _ hb => A0k_del hr.inv hb) hret
              exact h2.step hdd h3
            | false =>
              rw [hsl] at hdd
              simp only [cond_false] at hdd ⊢
              exact hr.step hdd (Res.call (key := dstKey o.dst) hr.inv hgw (.inr hsl) hret)
          | _ => exact he.elim
      · cases h
    · cases h
  · cases h
end Go.Vi
/-
  Vi: every operation.
-/
set_option linter.unusedVariables false
set_option linter.unusedSimpArgs false
namespace Go.Vi
open Op
variable {P : Program} {E : Env} {o : Oper} {ρ : Type} {r : ρ} {x : Cx} {γ : Gam} {H : Heap} {w : World} {a : Act} {st : St} {K : St → Option ρ}
theorem evalE_eff (hT : TabOK P E.T) (hphi : EnvOK P E) (h : evalE E o st ρ K = some r) (hr : RS x γ st a w) : Eff P o K r x a w := by
  cases ho : o.op with
  | store t p y =>
    cases hf : memN t E.T.fns with
    | true => exact E_knot hT hf ho h hr
    | false => exact E_store hT hf ho h hr
  | mapUpdate t p q y => exact E_mapUpdate hT ho h hr
  | next y b =>
    cases b with
    | true => exact E_next ho h hr
    | false => simp only [evalE, ho] at h; cases h
  | buildSlice t n ps => exact E_buildSlice hT ho h hr
  | slice t y lo hi mx => exact E_cut hT ho (by simpa only [evalE, ho] using h) hr
  | call c =>
    cases hc : c.callee with
    | builtin b =>
      cases b with
      | append => exact E_append hT ho hc h hr
      | copy => exact E_copy hT ho hc h hr
      | delete => exact E_delete hT ho hc h hr
      | clear => exact E_clear hT ho hc h hr
      | _ => simp only [evalE, ho, hc] at h; cases h
    | value f => exact E_callv hT hphi ho hc h hr
    | invoke rv m => simp only [evalE, ho, hc] at h; cases h
  | _ => simp only [evalE, ho] at h; cases h
theorem evalOp_eff {all : List Oper} (hT : TabOK P E.T) (hE : EqsOK P E.T) (hphi : EnvOK P E) (h : evalOp E all o st ρ K = some r) (hr : RS x γ st a w) : Eff P o K r x a w := by
  unfold evalOp at h
  simp only [fTm_eq] at h
  cases he : isEff E all o with
  | true =>
    rw [he] at h
    exact evalE_eff hT hphi h hr
  | false =>
    rw [he] at h
    exact E_pure (fun v obs hk => cond_some hk rfl) (evalP_good hT hE hphi.1 h hr.inv hr.ops') hr
end Go.Vi
/-
  Vi: what an operation that changes nothing looks at: its operands and what they name, and no more.
-/
set_option linter.unusedVariables false
set_option linter.unusedSimpArgs false
namespace Go.Vi
open Op
def PhiPar (phi : Phi) : Prop :=
  ∀ g vs (ρ : Type) (K : Ret → Option ρ) r, phi g vs ρ K = some r → ∃ ret, K ret = some r ∧ ∀ (ρ' : Type) (K' : Ret → Option ρ'), phi g vs ρ' K' = K' ret
structure Agree (l : List Operand) (ρv ρv' : Val) (H H' : Heap) : Prop where
  a : ∀ y ∈ l, ρv' y = ρv y
  b : ∀ y ∈ l, ∀ u, ρv y = some u → ∀ k, refs k u = true → H' k = H k
  c : ∀ y ∈ l, ∀ u, ρv y = some u → ∀ k, refs k u = true → ∀ off, H' (hk k off) = H (hk k off)
def K0 : V → List (Nat × O) → Option (V × List (Nat × O)) := fun v obs => some (v, obs)
def isKey (o : Oper) (k : Nat) : Prop := ∃ j, k = dstKey o.dst + 10000 * j
structure Foot (E : Env) (o : Oper) (ρv : Val) (H : Heap) (v : V) (obs : List (Nat × O)) : Prop where
  dfd : ∀ t, Operand.tmp t ∈ o.op.operands.toList → ρv (.tmp t) ≠ some .undef
  prov : ∀ k, refs k v = true → (∃ y ∈ o.op.operands.toList, ∃ u, ρv y = some u ∧ refs k u = true) ∨ (∃ p ∈ obs, p.1 = k) ∨ ∃ k0 off, k = hk k0 off ∧ ∃ y ∈ o.op.operands.toList, ∃ u, ρv y = some u ∧ refs k0 u = true
  keys : ∀ p ∈ obs, isKey o p.1
  cong : ∀ ρv' H', Agree o.op.operands.toList ρv ρv' H H' → evalP E o ρv' H' _ K0 = some (v, obs)
section
variable {E : Env} {o : Oper} {ρv ρv' : Val} {H H' : Heap} {ρ : Type} {K : V → List (Nat × O) → Option ρ} {r : ρ}
theorem Foot.self {v : V} {obs : List (Nat × O)} (h : Foot E o ρv H v obs) : evalP E o ρv H _ K0 = some (v, obs) :=
  h.cong ρv H ⟨fun _ _ => rfl, fun _ _ _ _ _ _ => rfl, fun _ _ _ _ _ _ _ => rfl⟩
def Footed (E : Env) (o : Oper) (ρv : Val) (H : Heap) {ρ : Type} (K : V → List (Nat × O) → Option ρ) (r : ρ) : Prop :=
  ∃ v obs, K v obs = some r ∧ Foot E o ρv H v obs
theorem key0 {k : Nat} (h : k = dstKey o.dst) : isKey o k := ⟨0, by omega⟩
/-- A value that names nothing. -/
theorem foot0 {v : V} (hK : K v [] = some r) (hv : ∀ k, refs k v = false) (hd : ∀ t, Operand.tmp t ∈ o.op.operands.toList → ρv (.tmp t) ≠ some .undef)
    (hc : ∀ ρv' H', Agree o.op.operands.toList ρv ρv' H H' → evalP E o ρv' H' _ K0 = some (v, [])) : Footed E o ρv H K r :=
  ⟨v, [], hK, hd, fun k hk => (by rw [hv] at hk; cases hk), by simp, hc⟩
/-- A value that names what an operand names. -/
theorem foot1 {v : V} {y : Operand} {u : V} (hK : K v [] = some r) (hy : y ∈ o.op.operands.toList) (hu : ρv y = some u) (hv : ∀ k, refs k v = true → refs k u = true) (hd : ∀ t, Operand.tmp t ∈ o.op.operands.toList → ρv (.tmp t) ≠ some .undef)
    (hc : ∀ ρv' H', Agree o.op.operands.toList ρv ρv' H H' → evalP E o ρv' H' _ K0 = some (v, [])) : Footed E o ρv H K r :=
  ⟨v, [], hK, hd, fun k hk => .inl ⟨y, hy, u, hu, hv k hk⟩, by simp, hc⟩
/-- A new thing. -/
theorem footn {v : V} {ob : O} (hK : K v [(dstKey o.dst, ob)] = some r) (hv : ∀ k, refs k v = true → k = dstKey o.dst) (hd : ∀ t, Operand.tmp t ∈ o.op.operands.toList → ρv (.tmp t) ≠ some .undef)
    (hc : ∀ ρv' H', Agree o.op.operands.toList ρv ρv' H H' → evalP E o ρv' H' _ K0 = some (v, [(dstKey o.dst, ob)])) : Footed E o ρv H K r :=
  ⟨v, [(dstKey o.dst, ob)], hK, hd, fun k hk => .inr (.inl ⟨_, List.mem_singleton.2 rfl, (hv k hk).symm⟩), fun p hp => (by
    rw [List.mem_singleton.1 hp]
    exact key0 rfl), hc⟩
theorem refs_own {k j : Nat} {w : Option (Nat × Nat)} {t : Bool} (h : refs k (.own j w t) = true) : k = j := (Nat.eq_of_beq_eq_true h).symm
theorem refs_ptr {k j off : Nat} (h : refs k (.ptr j off) = true) : k = j := (Nat.eq_of_beq_eq_true h).symm
theorem refs_map {k j : Nat} (h : refs k (.map j) = true) : k = j := (Nat.eq_of_beq_eq_true h).symm
theorem own_refs (k : Nat) (w : Option (Nat × Nat)) (t : Bool) : refs k (.own k w t) = true := Nat.beq_refl k
theorem ptr_refs (k off : Nat) : refs k (.ptr k off) = true := Nat.beq_refl k
theorem map_refs (k : Nat) : refs k (.map k) = true := Nat.beq_refl k
theorem eptr_refs (k : Nat) (w : Option (Nat × Nat)) (i : Int) (off : Nat) : refs k (.eptr k w i off) = true := Nat.beq_refl k
theorem aptr_refs (k off n : Nat) (e : Sh) (i : Int) : refs k (.aptr k off n e i) = true := Nat.beq_refl k
theorem refs_mkV {k : Nat} {s : Sh} {cs : List C} {v : V} (h : mkV s cs = some v) : refs k v = false := by
  unfold mkV at h
  cases hs : s.agg with
  | true => rw [hs] at h; cases h; rfl
  | false =>
    rw [hs] at h
    simp only [cond_false] at h
    split at h
    · cases h; rfl
    · cases h
theorem F_move {y : Operand} (ho : o.op = .move y ∨ o.op = .assign y) (h : evalP E o ρv H ρ K = some r) : Footed E o ρv H K r := by
  have hops : o.op.operands.toList = [y] := by rcases ho with ho | ho <;> simp [ho, Op.operands]
  cases hn : isNil y with
  | true =>
    have hy := isNil_eq hn
    have hd : ∀ t, Operand.tmp t ∈ o.op.operands.toList → ρv (.tmp t) ≠ some .undef := by rw [hops, hy]; simp
    rcases ho with ho | ho
    all_goals
      simp only [evalP, ho, hn, cond_true] at h
      split at h
      · rename_i e he
        refine footn h (fun k hk => refs_own hk) hd ?_
        intro ρv' H' hA
        simp only [evalP, ho, hn, cond_true, he]
        rfl
      · cases h
  | false =>
    rcases ho with ho | ho
    all_goals
      simp only [evalP, ho, hn, cond_false] at h
      split at h
      · rename_i v hv
        obtain ⟨hu, h⟩ := cond_none h rfl
        refine foot1 h (by rw [hops]; simp) hv (fun k hk => hk) ?_ ?_
        · rw [hops]
          intro t ht e
          rw [← List.mem_singleton.1 ht] at hv
          rw [hv] at e
          cases e
          cases hu
        · intro ρv' H' hA
          rw [hops] at hA
          simp only [evalP, ho, hn, cond_false, hA.1 y (by simp), hv, hu]
          rfl
      · cases h
/-- The operands that are looked at are there. -/
theorem dfd1 {y : Operand} {v : V} (hops : o.op.operands.toList = [y]) (hv : ρv y = some v) (hu : v.isUndef = false) : ∀ t, Operand.tmp t ∈ o.op.operands.toList → ρv (.tmp t) ≠ some .undef := by
  rw [hops]
  intro t ht e
  rw [← List.mem_singleton.1 ht, e] at hv
  cases hv
  cases hu
theorem dfdl {l : List Operand} (hops : o.op.operands.toList = l) (hl : ∀ y ∈ l, ρv y ≠ some .undef) : ∀ t, Operand.tmp t ∈ o.op.operands.toList → ρv (.tmp t) ≠ some .undef := by
  rw [hops]
  exact fun t ht => hl _ ht
theorem F_pick {c y z : Operand} (ho : o.op = .pick c y z) (h : evalP E o ρv H ρ K = some r) : Footed E o ρv H K r := by
  have hops : o.op.operands.toList = [c, y, z] := by simp [ho, Op.operands]
  simp only [evalP, ho] at h
  split at h
  · rename_i p q s h1 h2 h3
    refine foot0 h (fun k => rfl) (dfdl hops (by simp [h1, h2, h3])) ?_
    intro ρv' H' hA
    rw [hops] at hA
    simp only [evalP, ho, hA.1 c (by simp), hA.1 y (by simp), hA.1 z (by simp), h1, h2, h3]
    rfl
  · cases h
theorem F_alloc {t : TypeId} (ho : o.op = .alloc t) (h : evalP E o ρv H ρ K = some r) : Footed E o ρv H K r := by
  have hops : o.op.operands.toList = [] := by simp [ho, Op.operands]
  simp only [evalP, ho] at h
  cases hf : memN t E.T.fns with
  | true =>
    rw [hf, cond_true] at h
    refine footn h (fun k hk => refs_ptr hk) (dfdl hops (by simp)) ?_
    intro ρv' H' hA
    simp only [evalP, ho, hf, cond_true]
    rfl
  | false =>
  rw [hf, cond_false] at h
  split at h
  · rename_i s hs
    refine footn h (fun k hk => refs_ptr hk) (dfdl hops (by simp)) ?_
    intro ρv' H' hA
    simp only [evalP, ho, hs, hf, cond_false]
    rfl
  · cases h
theorem ptrKeys_refs {k : Nat} : ∀ {caps : List V} {ks : List Nat}, ptrKeys caps = some ks → cdsRef k (ks.map .b) = true → refsAny k caps = true
  | [], ks, h, hr => by cases h; cases hr
  | v :: caps, ks, h, hr => by
    cases v with
    | ptr j off =>
      cases off with
      | succ off => simp [ptrKeys] at h
      | zero =>
        simp only [ptrKeys, Option.map_eq_some_iff] at h
        obtain ⟨l, hl, rfl⟩ := h
        simp only [List.map_cons, cdsRef, cdRef, Bool.or_eq_true] at hr
        simp only [refsAny, refs1, Bool.or_eq_true]
        exact hr.imp id (ptrKeys_refs hl)
    | _ => simp [ptrKeys] at h
theorem cdV_refs {k : Nat} {f : FuncId} {cds : List CD} : ∀ {l : List CD}, refsAny k (l.map (cdV f cds)) = true → cdsRef k l = true ∨ cdsRef k cds = true
  | [], h => by cases h
  | c :: l, h => by
    simp only [List.map_cons, refsAny, Bool.or_eq_true] at h
    rcases h with h | h
    · cases c with
      | b j => exact .inl (by simp only [cdsRef, cdRef, Bool.or_eq_true]; exact .inl h)
      | s => exact .inr h
      | v g ks =>
        refine .inl ?_
        simp only [cdsRef, cdRef, Bool.or_eq_true]
        refine .inl ?_
        simp only [cdV, refs1] at h
        clear cds
        induction ks with
        | nil => cases h
        | cons j ks ih =>
          simp only [List.map_cons, cdsRef, cdRef, Bool.or_eq_true] at h
          simp only [memN, List.any_cons, Bool.or_eq_true]
          rcases h with h | h
          · have := Nat.eq_of_beq_eq_true h
            subst this
            exact .inl (Nat.beq_refl _)
          · exact .inr (ih h)
    · rcases cdV_refs h with h | h
      · exact .inl (by simp only [cdsRef, Bool.or_eq_true]; exact .inr h)
      · exact .inr h
theorem F_makeMap {t : TypeId} (ho : o.op = .makeMap t none) (h : evalP E o ρv H ρ K = some r) : Footed E o ρv H K r := by
  have hops : o.op.operands.toList = [] := by simp [ho, Op.operands]
  simp only [evalP, ho] at h
  split at h
  · rename_i kk e hs
    refine footn h (fun k hk => refs_map hk) (dfdl hops (by simp)) ?_
    intro ρv' H' hA
    simp only [evalP, ho, hs]
    rfl
  · cases h
theorem bindC_some {y : Operand} {cs : List C} (h : (ρv y).bind cellsOf = some cs) : ∃ u, ρv y = some u ∧ cellsOf u = some cs ∧ ρv y ≠ some .undef := by
  obtain ⟨u, h1, h2⟩ := Option.bind_eq_some_iff.1 h
  refine ⟨u, h1, h2, ?_⟩
  rw [h1]
  intro e
  cases e
  cases h2
theorem F_box {t : TypeId} {y : Operand} (ho : o.op = .box t y) (h : evalP E o ρv H ρ K = some r) : Footed E o ρv H K r := by
  have hops : o.op.operands.toList = [y] := by simp [ho, Op.operands]
  simp only [evalP, ho] at h
  cases hf : memN t E.T.fns with
  | true =>
    rw [hf, cond_true] at h
    split at h
    · rename_i g caps hy
      obtain ⟨ks, hks, h⟩ := Option.bind_eq_some_iff.1 h
      refine foot1 h (by rw [hops]; simp) hy (fun k hk => ptrKeys_refs hks hk) (dfdl hops (by
        intro z hz
        rw [List.mem_singleton.1 hz, hy]
        simp)) ?_
      intro ρv' H' hA
      rw [hops] at hA
      simp only [evalP, ho, hf, cond_true, hA.1 y (by simp), hy, hks, Option.bind_some]
      rfl
    · cases h
  | false =>
  rw [hf, cond_false] at h
  split at h
  · rename_i s cs h1 h2
    obtain ⟨hd, h⟩ := cond_some h rfl
    obtain ⟨u, h3, h4, h5⟩ := bindC_some h2
    refine footn h (fun k hk => refs_ptr hk) (dfdl hops (by simpa using h5)) ?_
    intro ρv' H' hA
    rw [hops] at hA
    simp only [evalP, ho, hf, cond_false, hA.1 y (by simp), h1, h2, hd, cond_true]
    rfl
  · cases h
theorem partsFill_def {fs : List Sh} : ∀ {ps : List (Nat × Operand)} {cs cs' : List C}, partsFill fs ρv cs ps = some cs' → ∀ y ∈ ps.map (·.2), ρv y ≠ some .undef
  | [], _, _, _, y, hy => by simp at hy
  | (j, x) :: r, cs, cs', h, y, hy => by
    simp only [partsFill] at h
    split at h
    · rename_i vs s h1 h2
      obtain ⟨hd, h⟩ := cond_some h rfl
      simp only [List.map_cons, List.mem_cons] at hy
      rcases hy with rfl | hy
      · obtain ⟨_, _, _, h0⟩ := bindC_some h1
        exact h0
      · exact partsFill_def h y hy
    · cases h
theorem partsFill_cong {fs : List Sh} : ∀ (ps : List (Nat × Operand)) (cs : List C), (∀ y ∈ ps.map (·.2), ρv' y = ρv y) → partsFill fs ρv' cs ps = partsFill fs ρv cs ps
  | [], _, _ => rfl
  | (j, x) :: r, cs, h => by
    have h1 : ρv' x = ρv x := h x (by simp)
    have h2 : ∀ cs, partsFill fs ρv' cs r = partsFill fs ρv cs r := fun cs => partsFill_cong r cs fun y hy => h y (by simp only [List.map_cons, List.mem_cons]; exact .inr hy)
    simp only [partsFill, h1, h2]
theorem F_build {t : TypeId} {ps : Array (Nat × Operand)} (ho : o.op = .build t ps) (h : evalP E o ρv H ρ K = some r) : Footed E o ρv H K r := by
  have hops : o.op.operands.toList = ps.toList.map (·.2) := by simp [ho, Op.operands]
  simp only [evalP, ho] at h
  split at h
  · rename_i s hs
    split at h
    · rename_i fs hf
      obtain ⟨ha, h⟩ := cond_some h rfl
      split at h
      · rename_i cs hp
        refine foot0 h (fun k => rfl) (dfdl hops (partsFill_def hp)) ?_
        intro ρv' H' hA
        rw [hops] at hA
        simp only [evalP, ho, hs, hf, ha, cond_true, partsFill_cong _ _ hA.1, hp]
        rfl
      · cases h
    · cases h
  · cases h
theorem agree_elems {l : List Operand} (hA : Agree l ρv ρv' H H') {y : Operand} (hy : y ∈ l) {u : V} (hu : ρv y = some u) : elems H' u = elems H u := by
  cases u with
  | own k win t => simp only [elems, hA.2 y hy _ hu k (own_refs k win t)]
  | c x => cases x <;> rfl
  | _ => rfl
theorem agree_elemsAs {l : List Operand} (hA : Agree l ρv ρv' H H') {y : Operand} (hy : y ∈ l) {u : V} (hu : ρv y = some u) (e : Sh) : elemsAs e H' u = elemsAs e H u := by
  simp only [elemsAs, agree_elems hA hy hu]
theorem partEl_cong {l : List Operand} (hA : Agree l ρv ρv' H H') {y : Operand} (hy : y ∈ l) (e : Sh) : partEl e ρv' H' y = partEl e ρv H y := by
  unfold partEl
  rw [hA.1 y hy]
  cases hu : ρv y with
  | none => rfl
  | some u =>
    simp only
    split
    · rfl
    · cases e with
      | sl e' => exact agree_elemsAs hA hy hu e'
      | _ => rfl
theorem partEl_def {e : Sh} {y : Operand} {x : e.den} (h : partEl e ρv H y = some x) : ρv y ≠ some .undef := by
  intro hu
  simp only [partEl, hu, cellsOf] at h
  cases e <;> simp [elemsAs, elems] at h
theorem listFill_cong {l : List Operand} (hA : Agree l ρv ρv' H H') (e : Sh) : ∀ (ps : List (Nat × Operand)) (xs : List e.den), (∀ y ∈ ps.map (·.2), y ∈ l) → listFill e ρv' H' xs ps = listFill e ρv H xs ps
  | [], _, _ => rfl
  | (j, x) :: r, xs, h => by
    have h1 := partEl_cong hA (h x (by simp)) e
    have h2 : ∀ xs, listFill e ρv' H' xs r = listFill e ρv H xs r := fun xs => listFill_cong hA e r xs fun y hy => h y (by simp only [List.map_cons, List.mem_cons]; exact .inr hy)
    simp only [listFill, h1, h2]
theorem listFill_def {e : Sh} : ∀ {ps : List (Nat × Operand)} {xs xs' : List e.den}, listFill e ρv H xs ps = some xs' → ∀ y ∈ ps.map (·.2), ρv y ≠ some .undef
  | [], _, _, _, y, hy => by simp at hy
  | (j, x) :: r, xs, xs', h, y, hy => by
    simp only [listFill] at h
    split at h
    · rename_i z h1
      obtain ⟨hd, h⟩ := cond_some h rfl
      simp only [List.map_cons, List.mem_cons] at hy
      rcases hy with rfl | hy
      · exact partEl_def h1
      · exact listFill_def h y hy
    · cases h
theorem F_buildSlice {t : TypeId} {n : Nat} {ps : Array (Nat × Operand)} (ho : o.op = .buildSlice t n ps) (h : evalP E o ρv H ρ K = some r) : Footed E o ρv H K r := by
  have hops : o.op.operands.toList = ps.toList.map (·.2) := by simp [ho, Op.operands]
  simp only [evalP, ho] at h
  split at h
  · rename_i e hs
    cases hlit : memN t E.T.lits with
    | true =>
      rw [hlit] at h
      simp only [cond_true] at h
      obtain ⟨ha, h⟩ := cond_some h rfl
      split at h
      · rename_i xs hp
        refine ⟨_, _, h, ?_, fun k hk => (by cases hk), fun p hp => (by simp at hp), ?_⟩
        · exact dfdl hops (listFill_def hp)
        · intro ρv' H' hA
          have hc := listFill_cong hA e ps.toList (List.replicate n (zero e)) (by rw [hops]; exact fun y hy => hy)
          have hk : partKeys ρv' ps.toList = partKeys ρv ps.toList := by
            have : ∀ (qs : List (Nat × Operand)), (∀ q ∈ qs, q.2 ∈ o.op.operands.toList) → partKeys ρv' qs = partKeys ρv qs := by
              intro qs
              induction qs with
              | nil => intro _; rfl
              | cons q qs ih =>
                intro hq
                simp only [partKeys, opKey]
                rw [hA.1 q.2 (hq q (by simp)), ih fun p hp => hq p (by simp [hp])]
            exact this _ fun q hq => by rw [hops]; exact List.mem_map.2 ⟨q, hq, rfl⟩
          simp only [evalP, ho, hs, hlit, hk, ha, cond_true, hc, hp]
          rfl
      · cases h
    | false =>
    rw [hlit] at h
    simp only [cond_false] at h
    obtain ⟨ha, h⟩ := cond_some h rfl
    split at h
    · rename_i xs hp
      refine footn h (fun k hk => refs_own hk) (dfdl hops (listFill_def hp)) ?_
      intro ρv' H' hA
      have hc := listFill_cong hA e ps.toList (List.replicate n (zero e)) (by rw [hops]; exact fun y hy => hy)
      simp only [evalP, ho, hs, hlit, cond_false, ha, cond_true, hc, hp]
      rfl
    · cases h
  · cases h
theorem F_load {t : TypeId} {y : Operand} (ho : o.op = .load t y) (h : evalP E o ρv H ρ K = some r) : Footed E o ρv H K r := by
  have hops : o.op.operands.toList = [y] := by simp [ho, Op.operands]
  have hm : y ∈ o.op.operands.toList := by rw [hops]; simp
  simp only [evalP, ho] at h
  cases hf : memN t E.T.fns with
  | true =>
    rw [hf, cond_true] at h
    split at h
    · rename_i f cds hy
      refine foot1 h hm hy (fun k hk => ?_) (dfd1 hops hy rfl) ?_
      · rcases cdV_refs (show refsAny k (cds.map (cdV f cds)) = true from hk) with h1 | h1 <;> exact h1
      · intro ρv' H' hA
        simp only [evalP, ho, hf, cond_true, hA.1 y hm, hy]
        rfl
    · cases h
  | false =>
  rw [hf, cond_false] at h
  split at h
  · rename_i s k off h1 h2
    split at h
    · rename_i cs hH
      obtain ⟨hd, h⟩ := cond_some h rfl
      cases hos : oslAt s cs off with
      | true =>
        rw [hos, cond_true] at h
        split at h
        · rename_i e e' xs nn hH2 _
          obtain ⟨hd2, h⟩ := cond_some h rfl
          refine ⟨_, [], h, dfd1 hops h2 rfl, fun k' hk' => .inr (.inr ⟨k, off, refs_own hk', y, hm, _, h2, ptr_refs k off⟩), by simp, ?_⟩
          intro ρv' H' hA
          simp only [evalP, ho, hf, cond_false, hA.1 y hm, h1, h2, hA.2 y hm _ h2 k (ptr_refs k off), hA.3 y hm _ h2 k (ptr_refs k off) off, hH, hH2, hd, hos, hd2, cond_true]
          rfl
        · cases h
      | false =>
        rw [hos, cond_false] at h
        split at h
        · rename_i v hv
          refine foot0 h (fun k => refs_mkV hv) (dfd1 hops h2 rfl) ?_
          intro ρv' H' hA
          simp only [evalP, ho, hf, cond_false, hA.1 y hm, h1, h2, hA.2 y hm _ h2 k (ptr_refs k off), hH, hd, hos, cond_true, hv]
          rfl
        · cases h
    · cases h
  · rename_i s cs h1 h2
    obtain ⟨hd, h⟩ := cond_some h rfl
    split at h
    · rename_i v hv
      refine foot0 h (fun k => refs_mkV hv) (dfd1 hops h2 rfl) ?_
      intro ρv' H' hA
      simp only [evalP, ho, hf, cond_false, hA.1 y hm, h1, h2, hd, cond_true, hv]
      rfl
    · cases h
  · rename_i s k win i off h1 h2
    split at h
    · rename_i e xs n hH
      obtain ⟨hd, h⟩ := cond_some h rfl
      obtain ⟨z, hz, h⟩ := Option.bind_eq_some_iff.1 h
      split at h
      · rename_i v hv
        refine foot0 h (fun k => refs_mkV hv) (dfd1 hops h2 rfl) ?_
        intro ρv' H' hA
        simp only [evalP, ho, hf, cond_false, hA.1 y hm, h1, h2, hA.2 y hm _ h2 k (eptr_refs k win i off), hH, hd, cond_true, hz, Option.bind_some, hv]
        rfl
      · cases h
    · cases h
  · rename_i s k off n e i h1 h2
    split at h
    · rename_i kk cs hH
      obtain ⟨hd, h⟩ := cond_some h rfl
      split at h
      · rename_i ns hn
        obtain ⟨z, hz, h⟩ := Option.bind_eq_some_iff.1 h
        refine foot0 h (fun k => rfl) (dfd1 hops h2 rfl) ?_
        intro ρv' H' hA
        simp only [evalP, ho, hf, cond_false, hA.1 y hm, h1, h2, hA.2 y hm _ h2 k (aptr_refs k off n _ i), hH, hd, cond_true, hn, hz, Option.bind_some]
        rfl
      · cases h
    · rename_i e0 e1 x3 cs hne hH
      obtain ⟨hd, h⟩ := cond_some h rfl
      split at h
      · rename_i xs hxs
        obtain ⟨z, hz, h⟩ := Option.bind_eq_some_iff.1 h
        split at h
        · rename_i v hv
          refine foot0 h (fun k => refs_mkV hv) (dfd1 hops h2 rfl) ?_
          intro ρv' H' hA
          have e2 := hA.2 y hm _ h2 k (aptr_refs k off n e0 i)
          simp only [evalP, ho, hf, cond_false, hA.1 y hm, h1, h2, e2, hH]
          cases e0 <;> first | (exact absurd rfl (hne _)) | (simp only [hd, cond_true, hxs, hz, Option.bind_some, hv]; rfl)
        · cases h
      · cases h
    · cases h
  · cases h
theorem intBin_some {op : BinOp} {k : IntKind} {x y : Int} {K1 : Int → Option ρ} (h : intBin op k x y ρ K1 = some r) : ∃ n, K1 n = some r ∧ ∀ (ρ' : Type) (K' : Int → Option ρ'), intBin op k x y ρ' K' = K' n := by
  cases op
  case quo =>
    simp only [intBin] at h
    obtain ⟨h0, h⟩ := cond_none h rfl
    exact ⟨_, h, fun ρ' K' => by simp only [intBin, h0, cond_false]⟩
  case rem =>
    simp only [intBin] at h
    obtain ⟨h0, h⟩ := cond_none h rfl
    exact ⟨_, h, fun ρ' K' => by simp only [intBin, h0, cond_false]⟩
  case shl =>
    simp only [intBin] at h
    obtain ⟨h0, h⟩ := cond_none h rfl
    exact ⟨_, h, fun ρ' K' => by simp only [intBin, h0, cond_false]⟩
  case shr =>
    simp only [intBin] at h
    obtain ⟨h0, h⟩ := cond_none h rfl
    exact ⟨_, h, fun ρ' K' => by simp only [intBin, h0, cond_false]⟩
  all_goals first | exact ⟨_, h, fun ρ' K' => rfl⟩ | cases h
theorem isNil_undef {y : Operand} (hn : isNil y = true) : ∀ t, y ≠ .tmp t := by
  intro t e
  subst e
  cases hn
theorem F_binOp {op : BinOp} {t t' : TypeId} {y z : Operand} (ho : o.op = .binOp op t y z t') (h : evalP E o ρv H ρ K = some r) : Footed E o ρv H K r := by
  have hops : o.op.operands.toList = [y, z] := by simp [ho, Op.operands]
  have hm : y ∈ o.op.operands.toList := by rw [hops]; simp
  have hm2 : z ∈ o.op.operands.toList := by rw [hops]; simp
  simp only [evalP, ho, binop] at h
  have cong : ∀ {v : V}, (∀ ρv' H', Agree o.op.operands.toList ρv ρv' H H' → binop E.T op t y z ρv' H' _ (fun v => K0 v []) = some (v, [])) → ∀ ρv' H', Agree o.op.operands.toList ρv ρv' H H' → evalP E o ρv' H' _ K0 = some (v, []) := by
    intro v hc ρv' H' hA
    simp only [evalP, ho]
    exact hc ρv' H' hA
  split at h
  · rename_i k a h1
    split at h
    · rename_i k' b h2
      have hd := dfdl (ρv := ρv) hops (by simp [h1, h2])
      cases hs : isShift op with
      | true =>
        rw [hs] at h
        simp only [cond_true] at h
        obtain ⟨n, h, hn⟩ := intBin_some h
        refine foot0 h (fun k => rfl) hd (cong ?_)
        intro ρv' H' hA
        simp only [binop, hA.1 y hm, hA.1 z hm2, h1, h2, hs, cond_true, hn]
        rfl
      | false =>
        rw [hs] at h
        simp only [cond_false] at h
        split at h
        · rename_i hk
          split at h
          · rename_i c hc
            refine foot0 h (fun k => rfl) hd (cong ?_)
            intro ρv' H' hA
            simp only [binop, hA.1 y hm, hA.1 z hm2, h1, h2, hs, cond_false, if_pos hk, hc]
            rfl
          · rename_i hc
            obtain ⟨n, h, hn⟩ := intBin_some h
            refine foot0 h (fun k => rfl) hd (cong ?_)
            intro ρv' H' hA
            simp only [binop, hA.1 y hm, hA.1 z hm2, h1, h2, hs, cond_false, if_pos hk, hc, hn]
            rfl
        · cases h
    · cases h
  · rename_i a h1
    split at h
    · rename_i b h2
      have hd := dfdl (ρv := ρv) hops (by simp [h1, h2])
      split at h
      · rename_i hs
        split at h
        all_goals first | (cases h; done) | skip
        all_goals
          refine foot0 h (fun k => rfl) hd (cong ?_)
          intro ρv' H' hA
          simp only [binop, hA.1 y hm, hA.1 z hm2, h1, h2, hs]
          rfl
      · cases h
    · cases h
  · rename_i cs h1
    split at h
    · rename_i cs' h2
      have hd := dfdl (ρv := ρv) hops (by simp [h1, h2])
      split at h
      · rename_i b hb
        split at h
        all_goals first | (cases h; done) | skip
        all_goals
          refine foot0 h (fun k => rfl) hd (cong ?_)
          intro ρv' H' hA
          simp only [binop, hA.1 y hm, hA.1 z hm2, h1, h2, hb]
          rfl
      · cases h
    · cases h
  · rename_i k tt h1
    obtain ⟨hn, h⟩ := cond_some h rfl
    have hd : ∀ t, Operand.tmp t ∈ o.op.operands.toList → ρv (.tmp t) ≠ some .undef := by
      rw [hops]
      intro t ht
      simp only [List.mem_cons, List.not_mem_nil, or_false] at ht
      rcases ht with rfl | rfl
      · simp [h1]
      · exact absurd rfl (isNil_undef hn t)
    split at h
    · rename_i e xs hs hH
      split at h
      all_goals first | (cases h; done) | skip
      all_goals
        refine foot0 h (fun k => rfl) hd (cong ?_)
        intro ρv' H' hA
        simp only [binop, hA.1 y hm, h1, hn, cond_true, hA.2 y hm _ h1 k (own_refs k _ _), hs, hH]
        rfl
    · cases h
  · rename_i e xs tt h1
    obtain ⟨hn, h⟩ := cond_some h rfl
    have hn' := hn
    rw [Bool.and_eq_true] at hn'
    have hd : ∀ t, Operand.tmp t ∈ o.op.operands.toList → ρv (.tmp t) ≠ some .undef := by
      rw [hops]
      intro t ht
      simp only [List.mem_cons, List.not_mem_nil, or_false] at ht
      rcases ht with rfl | rfl
      · simp [h1]
      · exact absurd rfl (isNil_undef hn'.1 t)
    split at h
    · rename_i e' hs
      split at h
      all_goals first | (cases h; done) | skip
      all_goals
        refine foot0 h (fun k => rfl) hd (cong ?_)
        intro ρv' H' hA
        simp only [binop, hA.1 y hm, h1, hn, cond_true, hs]
        rfl
    · cases h
  · rename_i s1 h1
    split at h
    · rename_i s2 h2
      have hd2 : ∀ t, Operand.tmp t ∈ o.op.operands.toList → ρv (.tmp t) ≠ some .undef := dfdl hops (by simp [h1, h2])
      split at h
      · obtain ⟨hd, h⟩ := cond_some h rfl
        refine foot0 h (fun k => rfl) hd2 (cong ?_)
        intro ρv' H' hA
        simp only [binop, hA.1 y hm, hA.1 z hm2, h1, h2, hd, cond_true]
        rfl
      · refine foot0 h (fun k => rfl) hd2 (cong ?_)
        intro ρv' H' hA
        simp only [binop, hA.1 y hm, hA.1 z hm2, h1, h2]
        rfl
      · refine foot0 h (fun k => rfl) hd2 (cong ?_)
        intro ρv' H' hA
        simp only [binop, hA.1 y hm, hA.1 z hm2, h1, h2]
        rfl
      · cases h
    · cases h
  · cases h
theorem F_unOp {op : UnOp} {t : TypeId} {y : Operand} (ho : o.op = .unOp op t y) (h : evalP E o ρv H ρ K = some r) : Footed E o ρv H K r := by
  have hops : o.op.operands.toList = [y] := by simp [ho, Op.operands]
  have hm : y ∈ o.op.operands.toList := by rw [hops]; simp
  simp only [evalP, ho] at h
  split at h
  · rename_i k n h1
    refine foot0 h (fun k => rfl) (dfd1 hops h1 rfl) ?_
    intro ρv' H' hA
    simp only [evalP, ho, hA.1 y hm, h1]
    rfl
  · rename_i b h1
    refine foot0 h (fun k => rfl) (dfd1 hops h1 rfl) ?_
    intro ρv' H' hA
    simp only [evalP, ho, hA.1 y hm, h1]
    rfl
  · rename_i k n h1
    refine foot0 h (fun k => rfl) (dfd1 hops h1 rfl) ?_
    intro ρv' H' hA
    simp only [evalP, ho, hA.1 y hm, h1]
    rfl
  · cases h
theorem F_convert {s t : TypeId} {y : Operand} (ho : o.op = .convert s t y) (h : evalP E o ρv H ρ K = some r) : Footed E o ρv H K r := by
  have hops : o.op.operands.toList = [y] := by simp [ho, Op.operands]
  have hm : y ∈ o.op.operands.toList := by rw [hops]; simp
  simp only [evalP, ho] at h
  split at h
  · rename_i k' n k s' h1 h2 h3
    refine foot0 h (fun k => rfl) (dfd1 hops h1 rfl) ?_
    intro ρv' H' hA
    simp only [evalP, ho, hA.1 y hm, h1, h2, h3]
    rfl
  · rename_i s1 h1 h2 h3
    refine foot0 h (fun k => rfl) (dfd1 hops h1 rfl) ?_
    intro ρv' H' hA
    simp only [evalP, ho, hA.1 y hm, h1, h2, h3]
    rfl
  · rename_i v0 h1 h2 h3
    split at h
    · rename_i xs hxs
      have hd : v0.isUndef = false := by
        cases v0 <;> first | rfl | cases hxs
      refine foot0 h (fun k => rfl) (dfd1 hops h1 hd) ?_
      intro ρv' H' hA
      have e2 : elemsAs (.int .u8) H' v0 = some xs := by rw [agree_elemsAs hA hm h1]; exact hxs
      simp only [evalP, ho, hA.1 y hm, h1, h2, h3]
      cases v0 <;> first | (simp only [e2]; rfl) | (cases hxs; done)
    · cases h
  · cases h
theorem F_nilCheck {y : Operand} (ho : o.op = .nilCheck y) (h : evalP E o ρv H ρ K = some r) : Footed E o ρv H K r := by
  have hops : o.op.operands.toList = [y] := by simp [ho, Op.operands]
  have hm : y ∈ o.op.operands.toList := by rw [hops]; simp
  simp only [evalP, ho] at h
  split at h
  · rename_i v h1
    obtain ⟨hd, h⟩ := cond_some h rfl
    refine foot1 h hm h1 (fun k hk => hk) (dfd1 hops h1 (by cases v <;> first | rfl | cases hd)) ?_
    intro ρv' H' hA
    simp only [evalP, ho, hA.1 y hm, h1, hd, cond_true]
    rfl
  · cases h
theorem F_range {t : TypeId} {y : Operand} (ho : o.op = .range t y) (h : evalP E o ρv H ρ K = some r) : Footed E o ρv H K r := by
  have hops : o.op.operands.toList = [y] := by simp [ho, Op.operands]
  have hm : y ∈ o.op.operands.toList := by rw [hops]; simp
  simp only [evalP, ho] at h
  split at h
  · rename_i s h1 h2
    refine footn h (fun k hk => refs_ptr hk) (dfd1 hops h1 rfl) ?_
    intro ρv' H' hA
    simp only [evalP, ho, hA.1 y hm, h1, h2]
    rfl
  · cases h
theorem refsAny_mem {k : Nat} : ∀ {vs : List V} {v : V}, v ∈ vs → refs1 k v = true → refsAny k vs = true
  | [], _, h, _ => by simp at h
  | x :: r, v, h, hr => by
    simp only [refsAny, Bool.or_eq_true]
    rcases List.mem_cons.1 h with rfl | h
    · exact .inl hr
    · exact .inr (refsAny_mem h hr)
theorem F_extract {y : Operand} {j : Nat} (ho : o.op = .extract y j) (h : evalP E o ρv H ρ K = some r) : Footed E o ρv H K r := by
  have hops : o.op.operands.toList = [y] := by simp [ho, Op.operands]
  have hm : y ∈ o.op.operands.toList := by rw [hops]; simp
  simp only [evalP, ho] at h
  split at h
  · rename_i vs h1
    split at h
    · rename_i v h2
      obtain ⟨hf, h⟩ := cond_some h rfl
      refine foot1 h hm h1 (fun k hk => ?_) (dfd1 hops h1 rfl) ?_
      · refine refsAny_mem (v := v) (List.mem_of_getElem? h2) ?_
        cases v <;> first | exact hk | cases hf
      · intro ρv' H' hA
        simp only [evalP, ho, hA.1 y hm, h1, h2, hf, cond_true]
        rfl
    · cases h
  · cases h
theorem F_fieldAddr {s : TypeId} {y : Operand} {f : Nat} (ho : o.op = .fieldAddr s y f) (h : evalP E o ρv H ρ K = some r) : Footed E o ρv H K r := by
  have hops : o.op.operands.toList = [y] := by simp [ho, Op.operands]
  have hm : y ∈ o.op.operands.toList := by rw [hops]; simp
  simp only [evalP, ho] at h
  split at h
  · rename_i d k off h1 h2
    refine foot1 h hm h2 (fun k hk => hk) (dfd1 hops h2 rfl) ?_
    intro ρv' H' hA
    simp only [evalP, ho, hA.1 y hm, h1, h2]
    rfl
  · rename_i d k win i off h1 h2
    refine foot1 h hm h2 (fun k hk => hk) (dfd1 hops h2 rfl) ?_
    intro ρv' H' hA
    simp only [evalP, ho, hA.1 y hm, h1, h2]
    rfl
  · rename_i d cs h1 h2
    obtain ⟨hd, h⟩ := cond_some h rfl
    refine foot0 h (fun k => rfl) (dfd1 hops h2 rfl) ?_
    intro ρv' H' hA
    simp only [evalP, ho, hA.1 y hm, h1, h2, hd, cond_true]
    rfl
  · cases h
theorem F_field {s : TypeId} {y : Operand} {f : Nat} (ho : o.op = .field s y f) (h : evalP E o ρv H ρ K = some r) : Footed E o ρv H K r := by
  have hops : o.op.operands.toList = [y] := by simp [ho, Op.operands]
  have hm : y ∈ o.op.operands.toList := by rw [hops]; simp
  simp only [evalP, ho] at h
  split at h
  · rename_i fs cs h1 h2
    split at h
    · rename_i e h3
      obtain ⟨hd, h⟩ := cond_some h rfl
      split at h
      · rename_i v hv
        refine foot0 h (fun k => refs_mkV hv) (dfd1 hops h2 rfl) ?_
        intro ρv' H' hA
        simp only [evalP, ho, hA.1 y hm, h1, h2, h3, hd, cond_true, hv]
        rfl
      · cases h
    · cases h
  · cases h
theorem F_indexAddr {t : TypeId} {y z : Operand} (ho : o.op = .indexAddr t y z) (h : evalP E o ρv H ρ K = some r) : Footed E o ρv H K r := by
  have hops : o.op.operands.toList = [y, z] := by simp [ho, Op.operands]
  have hm : y ∈ o.op.operands.toList := by rw [hops]; simp
  have hm2 : z ∈ o.op.operands.toList := by rw [hops]; simp
  simp only [evalP, ho] at h
  split at h
  · rename_i k win tt kk n h1 h2
    split at h
    · rename_i e xs n' e' hH hs
      obtain ⟨hd, h⟩ := cond_some h rfl
      refine foot1 h hm h1 (fun k hk => hk) (dfdl hops (by simp [h1, h2])) ?_
      intro ρv' H' hA
      simp only [evalP, ho, hA.1 y hm, hA.1 z hm2, h1, h2, hA.2 y hm _ h1 k (own_refs k _ _), hH, hs, hd, cond_true]
      rfl
    · cases h
  · rename_i e xs tt kk n h1 h2
    split at h
    · rename_i e' hs
      obtain ⟨hd, h⟩ := cond_some h rfl
      obtain ⟨x, hx, h⟩ := Option.bind_eq_some_iff.1 h
      refine foot0 h (fun k => rfl) (dfdl hops (by simp [h1, h2])) ?_
      intro ρv' H' hA
      simp only [evalP, ho, hA.1 y hm, hA.1 z hm2, h1, h2, hs, hd, cond_true, hx, Option.bind_some]
      rfl
    · cases h
  · rename_i k off kk n h1 h2
    split at h
    · rename_i len e hs
      obtain ⟨hd, h⟩ := cond_some h rfl
      refine foot1 h hm h1 (fun k hk => hk) (dfdl hops (by simp [h1, h2])) ?_
      intro ρv' H' hA
      simp only [evalP, ho, hA.1 y hm, hA.1 z hm2, h1, h2, hs, hd, cond_true]
      rfl
    · cases h
  · rename_i cs kk n h1 h2
    split at h
    · rename_i len kk' hs
      obtain ⟨hd, h⟩ := cond_some h rfl
      split at h
      · rename_i ns hn
        obtain ⟨x, hx, h⟩ := Option.bind_eq_some_iff.1 h
        refine foot0 h (fun k => rfl) (dfdl hops (by simp [h1, h2])) ?_
        intro ρv' H' hA
        simp only [evalP, ho, hA.1 y hm, hA.1 z hm2, h1, h2, hs, hd, cond_true, hn, hx, Option.bind_some]
        rfl
      · cases h
    · rename_i len e hne hs
      obtain ⟨hd, h⟩ := cond_some h rfl
      split at h
      · rename_i xs hxs
        obtain ⟨x, hx, h⟩ := Option.bind_eq_some_iff.1 h
        refine foot0 h (fun k => rfl) (dfdl hops (by simp [h1, h2])) ?_
        intro ρv' H' hA
        simp only [evalP, ho, hA.1 y hm, hA.1 z hm2, h1, h2, hs]
        cases e <;> first | (exact absurd rfl (hne _)) | (simp only [hd, cond_true, hxs, hx, Option.bind_some]; rfl)
      · cases h
    · cases h
  · cases h
theorem F_index {t : TypeId} {y z : Operand} (ho : o.op = .index t y z) (h : evalP E o ρv H ρ K = some r) : Footed E o ρv H K r := by
  have hops : o.op.operands.toList = [y, z] := by simp [ho, Op.operands]
  have hm : y ∈ o.op.operands.toList := by rw [hops]; simp
  have hm2 : z ∈ o.op.operands.toList := by rw [hops]; simp
  simp only [evalP, ho] at h
  split at h
  · rename_i len kk cs k n h1 h2 h3
    obtain ⟨hd, h⟩ := cond_some h rfl
    split at h
    · rename_i ns hn
      obtain ⟨x, hx, h⟩ := Option.bind_eq_some_iff.1 h
      refine foot0 h (fun k => rfl) (dfdl hops (by simp [h2, h3])) ?_
      intro ρv' H' hA
      simp only [evalP, ho, hA.1 y hm, hA.1 z hm2, h1, h2, h3, hd, cond_true, hn, hx, Option.bind_some]
      rfl
    · cases h
  · rename_i s kk n h2 h3
    split at h
    · rename_i hs
      obtain ⟨x, hx, h⟩ := Option.bind_eq_some_iff.1 h
      refine foot0 h (fun k => rfl) (dfdl hops (by simp [h2, h3])) ?_
      intro ρv' H' hA
      simp only [evalP, ho, hA.1 y hm, hA.1 z hm2, h2, h3, hs, hx, Option.bind_some]
      rfl
    · cases h
  · rename_i len e cs kk n hne h1 h2 h3
    obtain ⟨hd, h⟩ := cond_some h rfl
    split at h
    · rename_i xs hxs
      obtain ⟨x, hx, h⟩ := Option.bind_eq_some_iff.1 h
      split at h
      · rename_i v hv
        refine foot0 h (fun k => refs_mkV hv) (dfdl hops (by simp [h2, h3])) ?_
        intro ρv' H' hA
        simp only [evalP, ho, hA.1 y hm, hA.1 z hm2, h1, h2, h3]
        cases e <;> first | (exact absurd rfl (hne _)) | (simp only [hd, cond_true, hxs, hx, Option.bind_some, hv]; rfl)
      · cases h
    · cases h
  · cases h
theorem optI_cong {l : List Operand} (hA : Agree l ρv ρv' H H') {x : Option Operand} (hx : ∀ y, x = some y → y ∈ l) : optI ρv' x = optI ρv x := by
  cases x with
  | none => rfl
  | some y => simp only [optI, hA.1 y (hx y rfl)]
theorem optI_def {x : Option Operand} {n : Option Int} (h : optI ρv x = some n) : ∀ y, x = some y → ρv y ≠ some .undef := by
  intro y hy hu
  subst hy
  simp [optI, hu] at h
theorem F_slice {t : TypeId} {y : Operand} {lo hi mx : Option Operand} (ho : o.op = .slice t y lo hi mx) (h : evalP E o ρv H ρ K = some r) : Footed E o ρv H K r := by
  have hops : o.op.operands.toList = y :: (lo.toList ++ hi.toList ++ mx.toList) := by simp [ho, Op.operands]
  have hm : y ∈ o.op.operands.toList := by rw [hops]; simp
  have hlo : ∀ z, lo = some z → z ∈ o.op.operands.toList := by rw [hops]; intro z hz; simp [hz]
  have hhi : ∀ z, hi = some z → z ∈ o.op.operands.toList := by rw [hops]; intro z hz; simp [hz]
  have hmx : ∀ z, mx = some z → z ∈ o.op.operands.toList := by rw [hops]; intro z hz; simp [hz]
  simp only [evalP, ho] at h
  split at h
  · rename_i lo' hi' mx' e' g1 g2 g3 hs
    have hd0 : ρv y ≠ some .undef → ∀ t, Operand.tmp t ∈ o.op.operands.toList → ρv (.tmp t) ≠ some .undef := by
      intro hy t ht
      rw [hops] at ht
      simp only [List.mem_cons, List.mem_append, Option.mem_toList] at ht
      rcases ht with rfl | (ht | ht) | ht
      · exact hy
      · exact optI_def g1 _ ht
      · exact optI_def g2 _ ht
      · exact optI_def g3 _ ht
    split at h
    · rename_i k win tight h1
      split at h
      · rename_i e xs n hH
        obtain ⟨hd, h⟩ := cond_some h rfl
        refine foot1 h hm h1 (fun k hk => hk) (hd0 (by simp [h1])) ?_
        intro ρv' H' hA
        simp only [evalP, ho, hA.1 y hm, optI_cong hA hlo, optI_cong hA hhi, optI_cong hA hmx, g1, g2, g3, hs, h1, hA.2 y hm _ h1 k (own_refs k _ _), hH, hd, cond_true]
        rfl
      · cases h
    · rename_i e xs tight h1
      obtain ⟨hd, h⟩ := cond_some h rfl
      refine foot0 h (fun k => rfl) (hd0 (by simp [h1])) ?_
      intro ρv' H' hA
      simp only [evalP, ho, hA.1 y hm, optI_cong hA hlo, optI_cong hA hhi, optI_cong hA hmx, g1, g2, g3, hs, h1, hd, cond_true]
      rfl
    · cases h
  · rename_i lo' hi' g1 g2 g3 hs
    split at h
    · rename_i s1 h1
      obtain ⟨hd, h⟩ := cond_some h rfl
      refine foot0 h (fun k => rfl) (fun t ht => ?_) ?_
      · rw [hops] at ht
        simp only [List.mem_cons, List.mem_append, Option.mem_toList] at ht
        rcases ht with rfl | (ht | ht) | ht
        · simp [h1]
        · exact optI_def g1 _ ht
        · exact optI_def g2 _ ht
        · exact optI_def g3 _ ht
      intro ρv' H' hA
      simp only [evalP, ho, hA.1 y hm, optI_cong hA hlo, optI_cong hA hhi, optI_cong hA hmx, g1, g2, g3, hs, h1, hd, cond_true]
      rfl
    · cases h
  · cases h
theorem F_makeSlice {t : TypeId} {y z : Operand} (ho : o.op = .makeSlice t y z) (h : evalP E o ρv H ρ K = some r) : Footed E o ρv H K r := by
  have hops : o.op.operands.toList = [y, z] := by simp [ho, Op.operands]
  have hm : y ∈ o.op.operands.toList := by rw [hops]; simp
  have hm2 : z ∈ o.op.operands.toList := by rw [hops]; simp
  simp only [evalP, ho] at h
  split at h
  · rename_i e n m hs h1 h2
    obtain ⟨hd, h⟩ := cond_some h rfl
    refine footn h (fun k hk => refs_own hk) (dfdl hops (by simp [h1, h2])) ?_
    intro ρv' H' hA
    simp only [evalP, ho, hA.1 y hm, hA.1 z hm2, hs, h1, h2, hd, cond_true]
    rfl
  · cases h
theorem opVs_cong {l : List Operand} (hA : Agree l ρv ρv' H H') : ∀ (ys : List Operand), (∀ y ∈ ys, y ∈ l) → opVs ρv' ys = opVs ρv ys
  | [], _ => rfl
  | y :: ys, h => by simp only [opVs, hA.1 y (h y (by simp)), opVs_cong hA ys fun z hz => h z (by simp [hz])]
theorem opVs_mem : ∀ {ys : List Operand} {vs : List V}, opVs ρv ys = some vs → (∀ y ∈ ys, ∃ v ∈ vs, ρv y = some v) ∧ ∀ v ∈ vs, ∃ y ∈ ys, ρv y = some v
  | [], vs, h => by cases h; simp
  | y :: ys, vs, h => by
    simp only [opVs] at h
    split at h
    · rename_i v vs' h1 h2
      cases h
      obtain ⟨i1, i2⟩ := opVs_mem h2
      refine ⟨fun z hz => ?_, fun u hu => ?_⟩
      · rcases List.mem_cons.1 hz with rfl | hz
        · exact ⟨v, by simp, h1⟩
        · obtain ⟨u, hu, hz⟩ := i1 z hz
          exact ⟨u, by simp [hu], hz⟩
      · rcases List.mem_cons.1 hu with rfl | hu
        · exact ⟨y, by simp, h1⟩
        · obtain ⟨z, hz, hu⟩ := i2 u hu
          exact ⟨z, by simp [hz], hu⟩
    · cases h
theorem refsAny_ex {k : Nat} : ∀ {vs : List V}, refsAny k vs = true → ∃ v ∈ vs, refs1 k v = true
  | [], h => by cases h
  | v :: vs, h => by
    simp only [refsAny, Bool.or_eq_true] at h
    rcases h with h | h
    · exact ⟨v, by simp, h⟩
    · obtain ⟨u, hu, h⟩ := refsAny_ex h
      exact ⟨u, by simp [hu], h⟩
theorem F_makeFunc {fn : Fn} {first caps : Array Operand} (ho : o.op = .makeFunc fn first caps) (h : evalP E o ρv H ρ K = some r) : Footed E o ρv H K r := by
  have hops : o.op.operands.toList = first.toList ++ caps.toList := by simp [ho, Op.operands]
  simp only [evalP, ho] at h
  split at h
  · rename_i f vs hf hv
    obtain ⟨hfl, h⟩ := cond_some h rfl
    rw [hf] at hops
    simp only [List.nil_append] at hops
    obtain ⟨i1, i2⟩ := opVs_mem hv
    refine ⟨_, _, h, ?_, ?_, by simp, ?_⟩
    · refine dfdl hops fun y hy hu => ?_
      obtain ⟨v, hv', he⟩ := i1 y hy
      rw [hu] at he
      cases he
      have := List.all_eq_true.1 hfl _ hv'
      cases this
    · intro k hk
      obtain ⟨v, hv', hr⟩ := refsAny_ex hk
      obtain ⟨y, hy, he⟩ := i2 v hv'
      refine .inl ⟨y, by rw [hops]; exact hy, v, he, ?_⟩
      have := List.all_eq_true.1 hfl _ hv'
      cases v <;> first | exact hr | cases this
    · intro ρv' H' hA
      rw [hops] at hA
      simp only [evalP, ho, hf, opVs_cong hA _ (fun y hy => hy), hv, hfl, cond_true]
      rfl
  · cases h
theorem F_lookup {t : TypeId} {y z : Operand} {ok : Bool} (ho : o.op = .lookup t y z ok) (h : evalP E o ρv H ρ K = some r) : Footed E o ρv H K r := by
  have hops : o.op.operands.toList = [y, z] := by simp [ho, Op.operands]
  have hm : y ∈ o.op.operands.toList := by rw [hops]; simp
  have hm2 : z ∈ o.op.operands.toList := by rw [hops]; simp
  simp only [evalP, ho] at h
  split at h
  · rename_i k kk n kk2 e2 h1 h2 h3
    split at h
    · rename_i kk' e m hH
      obtain ⟨hd, h⟩ := cond_some h rfl
      split at h
      · rename_i v hv
        refine foot0 h (fun k => ?_) (dfdl hops (by simp [h1, h2])) ?_
        · cases ok
          · exact refs_mkV hv
          · have := refs_mkV (k := k) hv
            simp only [cond_true, refs, refsAny, refs1, Bool.or_false]
            cases v <;> first | exact this | rfl
        · intro ρv' H' hA
          simp only [evalP, ho, hA.1 y hm, hA.1 z hm2, h1, h2, h3, hA.2 y hm _ h1 k (map_refs k), hH, hd, cond_true, hv]
          rfl
      · cases h
    · cases h
  · cases h
theorem call_ops {c : Call} {b : Builtin} (ho : o.op = .call c) (hc : c.callee = .builtin b) : o.op.operands.toList = c.args.toList := by
  simp [ho, Op.operands, Call.operands, hc]
theorem elems_def {u : V} {x : Σ e : Sh, List e.den} (h : elems H u = some x) : u.isUndef = false := by
  cases u <;> first | rfl | simp [elems] at h
theorem F_len {c : Call} (ho : o.op = .call c) (hc : c.callee = .builtin .len) (h : evalP E o ρv H ρ K = some r) : Footed E o ρv H K r := by
  have hops := call_ops ho hc
  simp only [evalP, ho, hc] at h
  split at h
  · rename_i x t ts hx ht
    rw [hx] at hops
    have hm : x ∈ o.op.operands.toList := by rw [hops]; simp
    split at h
    · rename_i s h1
      split at h
      · rename_i hs
        refine foot0 h (fun k => rfl) (dfd1 hops h1 rfl) ?_
        intro ρv' H' hA
        simp only [evalP, ho, hc, hx, ht, hA.1 x hm, h1, hs]
        rfl
      · cases h
    · rename_i k h1
      split at h
      · rename_i kk e m p hH hs
        refine foot0 h (fun k => rfl) (dfd1 hops h1 rfl) ?_
        intro ρv' H' hA
        simp only [evalP, ho, hc, hx, ht, hA.1 x hm, h1, hA.2 x hm _ h1 k (map_refs k), hH, hs]
        rfl
      · cases h
    · rename_i v n1 n2 h1
      split at h
      · rename_i e xs e' hH hs
        refine foot0 h (fun k => rfl) (dfd1 hops h1 (elems_def hH)) ?_
        intro ρv' H' hA
        have hE := agree_elems hA hm h1
        simp only [evalP, ho, hc, hx, ht, hA.1 x hm, h1]
        rw [hE, hH, hs]
        rfl
      · cases h
    · cases h
  · cases h
theorem F_cap {c : Call} (ho : o.op = .call c) (hc : c.callee = .builtin .cap) (h : evalP E o ρv H ρ K = some r) : Footed E o ρv H K r := by
  have hops := call_ops ho hc
  simp only [evalP, ho, hc] at h
  split at h
  · rename_i x t ts hx ht
    rw [hx] at hops
    have hm : x ∈ o.op.operands.toList := by rw [hops]; simp
    split at h
    · rename_i e xs e' h1 hs
      refine foot0 h (fun k => rfl) (dfd1 hops h1 rfl) ?_
      intro ρv' H' hA
      simp only [evalP, ho, hc, hx, ht, hA.1 x hm, h1, hs]
      rfl
    · cases h
  · cases h
theorem max2_def {k : IntKind} : ∀ {vs : List V} {x m : Int}, max2 k x vs = some m → ∀ v ∈ vs, v.isUndef = false
  | [], _, _, _, v, hv => by simp at hv
  | u :: vs, x, m, h, v, hv => by
    cases u with
    | c y =>
      cases y with
      | int k' y =>
        simp only [max2] at h
        split at h
        · rcases List.mem_cons.1 hv with rfl | hv
          · rfl
          · exact max2_def h v hv
        · cases h
      | _ => simp [max2] at h
    | _ => simp [max2] at h
theorem min2_def {k : IntKind} : ∀ {vs : List V} {x m : Int}, min2 k x vs = some m → ∀ v ∈ vs, v.isUndef = false
  | [], _, _, _, v, hv => by simp at hv
  | u :: vs, x, m, h, v, hv => by
    cases u with
    | c y =>
      cases y with
      | int k' y =>
        simp only [min2] at h
        split at h
        · rcases List.mem_cons.1 hv with rfl | hv
          · rfl
          · exact min2_def h v hv
        · cases h
      | _ => simp [min2] at h
    | _ => simp [min2] at h
theorem F_max {c : Call} (ho : o.op = .call c) (hc : c.callee = .builtin .max) (h : evalP E o ρv H ρ K = some r) : Footed E o ρv H K r := by
  have hops := call_ops ho hc
  simp only [evalP, ho, hc] at h
  split at h
  · rename_i k n vs h1
    split at h
    · rename_i m h2
      obtain ⟨i1, i2⟩ := opVs_mem h1
      refine foot0 h (fun k => rfl) (dfdl hops fun y hy hu => ?_) ?_
      · obtain ⟨v, hv, he⟩ := i1 y hy
        rw [hu] at he
        cases he
        rcases List.mem_cons.1 hv with hv | hv
        · cases hv
        · have := max2_def h2 _ hv
          cases this
      · intro ρv' H' hA
        rw [hops] at hA
        simp only [evalP, ho, hc, opVs_cong hA _ (fun y hy => hy), h1, h2]
        rfl
    · cases h
  · cases h
theorem F_min {c : Call} (ho : o.op = .call c) (hc : c.callee = .builtin .min) (h : evalP E o ρv H ρ K = some r) : Footed E o ρv H K r := by
  have hops := call_ops ho hc
  simp only [evalP, ho, hc] at h
  split at h
  · rename_i k n vs h1
    split at h
    · rename_i m h2
      obtain ⟨i1, i2⟩ := opVs_mem h1
      refine foot0 h (fun k => rfl) (dfdl hops fun y hy hu => ?_) ?_
      · obtain ⟨v, hv, he⟩ := i1 y hy
        rw [hu] at he
        cases he
        rcases List.mem_cons.1 hv with hv | hv
        · cases hv
        · have := min2_def h2 _ hv
          cases this
      · intro ρv' H' hA
        rw [hops] at hA
        simp only [evalP, ho, hc, opVs_cong hA _ (fun y hy => hy), h1, h2]
        rfl
    · cases h
  · cases h
theorem F_append {c : Call} (ho : o.op = .call c) (hc : c.callee = .builtin .append) (h : evalP E o ρv H ρ K = some r) : Footed E o ρv H K r := by
  have hops := call_ops ho hc
  simp only [evalP, ho, hc] at h
  split at h
  · rename_i x y t tx hx ht
    rw [hx] at hops
    have hm : x ∈ o.op.operands.toList := by rw [hops]; simp
    have hm2 : y ∈ o.op.operands.toList := by rw [hops]; simp
    split at h
    · rename_i e e1 e2 ys2 hs1 hs2 hy
      obtain ⟨uy, hy1, hy2⟩ := Option.bind_eq_some_iff.1 hy
      have hyd := elems_def hy2
      have hdd : ∀ {v : V}, ρv x = some v → v.isUndef = false → ∀ t, Operand.tmp t ∈ o.op.operands.toList → ρv (.tmp t) ≠ some .undef := by
        intro v hv hvu
        refine dfdl hops ?_
        simp only [List.mem_cons, List.not_mem_nil, or_false, forall_eq_or_imp, forall_eq, hv, hy1]
        exact ⟨fun e => (by cases e; cases hvu), fun e => (by cases e; cases hyd)⟩
      have hyA : ∀ ρv' H', Agree o.op.operands.toList ρv ρv' H H' → ((ρv' y).bind fun w => elems H' w) = some ⟨e2, ys2⟩ := by
        intro ρv' H' hA
        rw [hA.1 y hm2, hy1, Option.bind_some, agree_elems hA hm2 hy1]
        exact hy2
      split at h
      · rename_i ys v hcs h1
        split at h
        · rename_i k win
          split at h
          · rename_i xs hxs
            obtain ⟨hd, h⟩ := cond_some h rfl
            refine footn h (fun k hk => refs_own hk) (hdd h1 rfl) ?_
            intro ρv' H' hA
            have h4 := agree_elemsAs hA hm h1 e
            rw [hxs] at h4
            simp only [evalP, ho, hc, hx, ht, hs1, hs2, hyA ρv' H' hA, hA.1 x hm, h1, hcs]
            simp only [h4, hd, cond_true]
            rfl
          · cases h
        · rename_i e' xs'
          split at h
          · rename_i xs hxs
            obtain ⟨hd, h⟩ := cond_some h rfl
            refine footn h (fun k hk => refs_own hk) (hdd h1 rfl) ?_
            intro ρv' H' hA
            simp only [evalP, ho, hc, hx, ht, hs1, hs2, hyA ρv' H' hA, hA.1 x hm, h1, hcs]
            simp only [hxs, hd, cond_true]
            rfl
          · cases h
        · cases h
      · cases h
    · cases h
  · cases h
theorem gnd1_cong {u : V} (h : ∀ k, refs1 k u = true → H' k = H k) : gnd1 H' u = gnd1 H u := by
  cases u with
  | own k win t => simp only [gnd1, h k (Nat.beq_refl k)]
  | ptr k off => simp only [gnd1, h k (Nat.beq_refl k)]
  | _ => rfl
theorem gnds_cong : ∀ (vs : List V), (∀ k, refsAny k vs = true → H' k = H k) → gnds H' vs = gnds H vs
  | [], _ => rfl
  | v :: vs, h => by
    have h1 : gnd1 H' v = gnd1 H v := gnd1_cong fun k hk => h k (by simp [refsAny, hk])
    have h2 : gnds H' vs = gnds H vs := gnds_cong vs fun k hk => h k (by simp [refsAny, hk])
    simp only [gnds, h1, h2]
theorem gnd_cong {u : V} (h : ∀ k, refs k u = true → H' k = H k) : gnd H' u = gnd H u := by
  cases u with
  | fn f caps => simp only [gnd, gnds_cong caps h]
  | tup vs => rfl
  | undef => rfl
  | c y => rfl
  | agg cs => rfl
  | ptr j off => exact gnd1_cong (u := .ptr j off) fun k hk => h k hk
  | own j w t => exact gnd1_cong (u := .own j w t) fun k hk => h k hk
  | _ => rfl
theorem argV_cong {l : List Operand} {T : Tab} {t : TypeId} {y : Operand} (hA : Agree l ρv ρv' H H') (hy : y ∈ l) : argV T ρv' H' t y = argV T ρv H t y := by
  unfold argV
  rw [hA.1 y hy]
  cases hu : ρv y with
  | none => rfl
  | some u => simp only [Option.bind_some, gnd_cong fun k hk => hA.2 y hy u hu k hk]
theorem argsV_cong {l : List Operand} {T : Tab} (hA : Agree l ρv ρv' H H') : ∀ (ts : List TypeId) (ys : List Operand), (∀ y ∈ ys, y ∈ l) → argsV T ρv' H' ts ys = argsV T ρv H ts ys
  | [], [], _ => rfl
  | t :: ts, y :: ys, h => by
    simp only [argsV, argV_cong hA (h y (by simp)), argsV_cong hA ts ys fun z hz => h z (by simp [hz])]
  | [], _ :: _, _ => rfl
  | _ :: _, [], _ => rfl
theorem argsV_def {T : Tab} : ∀ {ts : List TypeId} {ys : List Operand} {vs : List V}, argsV T ρv H ts ys = some vs → ∀ t, Operand.tmp t ∈ ys → ρv (.tmp t) ≠ some .undef
  | [], [], _, _, t, ht => by simp at ht
  | t' :: ts, y :: ys, vs, h, t, ht => by
    simp only [argsV] at h
    split at h
    · rename_i v vs' h1 h2
      rcases List.mem_cons.1 ht with rfl | ht
      · intro hu
        simp [argV, isNil, hu, gnd, gnd1] at h1
      · exact argsV_def h2 t ht
    · cases h
  | [], _ :: _, _, h, _, _ => by simp [argsV] at h
  | _ :: _, [], _, h, _, _ => by simp [argsV] at h
theorem retOs_keys : ∀ {key : Nat} {rs : List Ret1}, ∀ p ∈ retOs key rs, ∃ j, p.1 = key + 10000 * j
  | _, [], p, h => by simp [retOs] at h
  | key, r :: rs, p, h => by
    simp only [retOs, List.mem_append] at h
    rcases h with h | h
    · cases r <;> simp [retO] at h
      exact ⟨1, by rw [h]⟩
    · obtain ⟨j, hj⟩ := retOs_keys p h
      exact ⟨j + 1, by omega⟩
theorem retAll_keys {key : Nat} {ret : Ret} : ∀ p ∈ (retAll key ret).2, ∃ j, p.1 = key + 10000 * j := by
  intro p h
  match ret with
  | [r] =>
    simp only [retAll] at h
    cases r <;> simp [retO] at h
    exact ⟨0, by rw [h]; rfl⟩
  | [] => exact retOs_keys p h
  | r :: r' :: rs => exact retOs_keys p h
theorem retV_refs {key k : Nat} {r : Ret1} (h : refs1 k (retV key r) = true) : ∃ p ∈ retO key r, p.1 = k := by
  cases r with
  | fresh e xs n => exact ⟨_, List.mem_singleton.2 rfl, Nat.eq_of_beq_eq_true h⟩
  | val c => cases h
  | agg cs => cases h
  | lay e xs => cases h
theorem retVs_refs {k : Nat} : ∀ {key : Nat} {rs : List Ret1}, refsAny k (retVs key rs) = true → ∃ p ∈ retOs key rs, p.1 = k
  | _, [], h => by cases h
  | key, r :: rs, h => by
    simp only [retVs, refsAny, Bool.or_eq_true] at h
    simp only [retOs, List.mem_append]
    rcases h with h | h
    · obtain ⟨p, hp, he⟩ := retV_refs h
      exact ⟨p, .inl hp, he⟩
    · obtain ⟨p, hp, he⟩ := retVs_refs h
      exact ⟨p, .inr hp, he⟩
theorem retAll_refs {key k : Nat} {ret : Ret} (h : refs k (retAll key ret).1 = true) : ∃ p ∈ (retAll key ret).2, p.1 = k := by
  match ret with
  | [r] =>
    refine retV_refs (r := r) ?_
    simp only [retAll] at h
    cases r <;> exact h
  | [] => exact retVs_refs h
  | r :: r' :: rs => exact retVs_refs h
theorem F_call {c : Call} {g : FuncId} (hphi : PhiPar E.phi) (ho : o.op = .call c) (hc : c.callee = .value (.func g)) (h : evalP E o ρv H ρ K = some r) : Footed E o ρv H K r := by
  have hops : o.op.operands.toList = .func g :: c.args.toList := by simp [ho, Op.operands, Call.operands, hc]
  have hm : ∀ y ∈ c.args.toList, y ∈ o.op.operands.toList := by rw [hops]; intro y hy; simp only [List.mem_cons]; exact .inr hy
  simp only [evalP, ho, hc] at h
  cases hid : memN g E.T.idf with
  | true =>
    rw [hid] at h
    simp only [cond_true] at h
    split at h
    · rename_i y hy
      split at h
      · rename_i v hv
        obtain ⟨hu, h⟩ := cond_none h rfl
        refine foot1 h (hm y (by rw [hy]; simp)) hv (fun k hk => hk) ?_ ?_
        · rw [hops, hy]
          intro t ht e
          rcases List.mem_cons.1 ht with ht | ht
          · cases ht
          · rw [← List.mem_singleton.1 ht] at hv
            rw [hv] at e
            cases e
            cases hu
        · intro ρv' H' hA
          have hv' : ρv' y = some v := by rw [hA.1 y (hm y (by rw [hy]; simp)), hv]
          simp only [evalP, ho, hc, hid, cond_true, hy, hv', hu, cond_false]
          rfl
      · cases h
    · cases h
  | false =>
  rw [hid] at h
  simp only [cond_false] at h
  split at h
  · rename_i vs hvs
    obtain ⟨ret, h, hpar⟩ := hphi _ _ _ _ _ h
    obtain ⟨hb, h⟩ := cond_none h rfl
    refine ⟨_, _, h, ?_, fun k hk => .inr (.inl (retAll_refs hk)), retAll_keys, ?_⟩
    · rw [hops]
      intro t ht
      rcases List.mem_cons.1 ht with ht | ht
      · cases ht
      · exact argsV_def hvs t ht
    · intro ρv' H' hA
      have hk : (c.args.toList.any fun x => !(opKey ρv' x).isEmpty) = c.args.toList.any fun x => !(opKey ρv x).isEmpty := by
        rw [Bool.eq_iff_iff]
        simp only [List.any_eq_true]
        constructor
        · rintro ⟨x, hx, h2⟩
          exact ⟨x, hx, by rwa [opKey, hA.1 x (hm x hx)] at h2⟩
        · rintro ⟨x, hx, h2⟩
          exact ⟨x, hx, by rwa [opKey, hA.1 x (hm x hx)]⟩
      simp only [evalP, ho, hc, hid, argsV_cong hA _ _ hm, hvs, hpar, hk, hb, cond_false]
      rfl
  · cases h
theorem F_callt {c : Call} {t : Tmp} (hphi : PhiPar E.phi) (ho : o.op = .call c) (hc : c.callee = .value (.tmp t)) (h : evalP E o ρv H ρ K = some r) : Footed E o ρv H K r := by
  have hops : o.op.operands.toList = .tmp t :: c.args.toList := by simp [ho, Op.operands, Call.operands, hc]
  have hm : ∀ y ∈ c.args.toList, y ∈ o.op.operands.toList := by rw [hops]; intro y hy; simp only [List.mem_cons]; exact .inr hy
  have hmt : Operand.tmp t ∈ o.op.operands.toList := by rw [hops]; simp
  simp only [evalP, ho, hc] at h
  split at h
  · rename_i g caps hg
    obtain ⟨v, hvf, hgn⟩ := Option.bind_eq_some_iff.1 hg
    split at h
    · rename_i vs hvs
      obtain ⟨ret, h, hpar⟩ := hphi _ _ _ _ _ h
      obtain ⟨hb, h⟩ := cond_none h rfl
      refine ⟨_, _, h, ?_, fun k hk => .inr (.inl (retAll_refs hk)), retAll_keys, ?_⟩
      · rw [hops]
        intro t' ht
        rcases List.mem_cons.1 ht with ht | ht
        · cases ht
          rw [hvf]
          intro e
          cases e
          simp [gnd, gnd1] at hgn
        · exact argsV_def hvs t' ht
      · intro ρv' H' hA
        have hf : (ρv' (.tmp t)).bind (gnd H') = some (.fn g caps) := by
          rw [hA.1 _ hmt, hvf, Option.bind_some, gnd_cong fun k hk => hA.2 _ hmt v hvf k hk, hgn]
        simp only [evalP, ho, hc, hf, argsV_cong hA _ _ hm, hvs, hpar, hb, cond_false]
        rfl
    · cases h
  · cases h
/-- Each operation that changes nothing looks at its operands alone. -/
theorem evalP_foot (hphi : PhiPar E.phi) (h : evalP E o ρv H ρ K = some r) : Footed E o ρv H K r := by
  cases ho : o.op with
  | move y => exact F_move (.inl ho) h
  | assign y => exact F_move (.inr ho) h
  | pick c y z => exact F_pick ho h
  | alloc t => exact F_alloc ho h
  | box t y => exact F_box ho h
  | build t ps => exact F_build ho h
  | buildSlice t n ps => exact F_buildSlice ho h
  | load t y => exact F_load ho h
  | binOp op t y z t' => exact F_binOp ho h
  | unOp op t y => exact F_unOp ho h
  | convert s t y => exact F_convert ho h
  | extract y j => exact F_extract ho h
  | fieldAddr s y f => exact F_fieldAddr ho h
  | field s y f => exact F_field ho h
  | indexAddr t y z => exact F_indexAddr ho h
  | index t y z => exact F_index ho h
  | slice t y lo hi' mx => exact F_slice ho h
  | makeSlice t l c => exact F_makeSlice ho h
  | makeFunc fn first caps => exact F_makeFunc ho h
  | makeMap t rs =>
    cases rs with
    | none => exact F_makeMap ho h
    | some y => simp only [evalP, ho] at h; cases h
  | lookup t y z ok => exact F_lookup ho h
  | nilCheck y => exact F_nilCheck ho h
  | range t y => exact F_range ho h
  | call c =>
    cases hc : c.callee with
    | builtin b =>
      cases b with
      | len => exact F_len ho hc h
      | cap => exact F_cap ho hc h
      | max => exact F_max ho hc h
      | min => exact F_min ho hc h
      | append => exact F_append ho hc h
      | _ => simp only [evalP, ho, hc] at h; cases h
    | value f =>
      cases f with
      | func g => exact F_call hphi ho hc h
      | tmp t => exact F_callt hphi ho hc h
      | _ => simp only [evalP, ho, hc] at h; cases h
    | invoke rv m => simp only [evalP, ho, hc] at h; cases h
  | _ => simp only [evalP, ho] at h; cases h
end
end Go.Vi
