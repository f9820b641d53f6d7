/-
  Vi: operations that change what is the call's own: forgetting; calls of closures; a slice's literal that takes in own arrays.
-/
import Derived.Test.YtombednapelokaaViE
set_option linter.unusedVariables false
set_option linter.unusedSimpArgs false
namespace Go.Vi
open Op

variable {P : Program} {E : Env} {o : Oper} {ρ : Type} {r : ρ} {x : Cx} {γ : Gam} {H : Heap} {w : World} {a : Act} {st : St} {K : St → Option ρ}

theorem eraAll_get (H : Heap) : ∀ (ks : List Nat) (j : Nat), eraAll H ks j = if j ∈ ks then none else H j
  | [], j => by simp [eraAll]
  | k :: ks, j => by
    by_cases h : j = k
    · subst h
      simp [eraAll, era]
    · simp [eraAll, era, beq_false h, eraAll_get H ks j, h]

theorem cleanTm_get (ks : List Nat) : ∀ (tm : List V) (t : Nat), (cleanTm ks tm)[t]? = (tm[t]?).map fun v => bif anyRefs ks v then .undef else v
  | [], t => by simp [cleanTm]
  | v :: r, 0 => by simp [cleanTm]
  | v :: r, t + 1 => by simp [cleanTm, cleanTm_get ks r t]

theorem cleanTm_length (ks : List Nat) : ∀ (tm : List V), (cleanTm ks tm).length = tm.length
  | [] => rfl
  | v :: r => by simp [cleanTm, cleanTm_length ks r]

theorem gdel_some {ks : List Nat} {k : Nat} {i : Info} (h : gdel γ ks k = some i) : k ∉ ks ∧ γ k = some i := by
  unfold gdel at h
  split at h
  · cases h
  · rename_i hk
    exact ⟨hk, h⟩

theorem gdel_ne {ks : List Nat} {k : Nat} (h : k ∉ ks) : gdel γ ks k = γ k := by simp [gdel, h]

theorem Inv.drop (hi : Inv x γ H w) (ks : List Nat) : Inv x (gdel γ ks) (eraAll H ks) w ∧
    ∀ y u, anyRefs ks y = false → VR γ w (Av x γ w) H y u → VR (gdel γ ks) w (Av x (gdel γ ks) w) (eraAll H ks) y u := by
  have hav : ∀ b, Av x γ w b → Av x (gdel γ ks) w b ∧ w.heap[b]? = w.heap[b]? := fun b hb => Av.del (fun k i hk => ⟨k, (gdel_some hk).2⟩) b hb
  refine ⟨⟨hi.size, hi.os, hi.tape, hi.output, hi.blk, ?_, ?_, ?_, ?pin⟩, ?_⟩
  case pin =>
    intro k i hp hH
    rw [eraAll_get] at hH
    split at hH
    · exact absurd rfl hH
    · rename_i hk
      rw [gdel_ne hk]
      exact hi.pin k i hp hH
  · intro k i hk
    obtain ⟨h1, h2⟩ := gdel_some hk
    obtain ⟨ob, h3, h4⟩ := hi.own k i h2
    exact ⟨ob, by rw [eraAll_get, if_neg h1]; exact h3, objR.mono hav ob i (fun _ _ _ => rfl) h4⟩
  · intro k b c hk
    exact hi.rng k b c (gdel_some hk).2
  · intro k k' b c c' hk hk'
    exact hi.inj k k' b c c' (gdel_some hk).2 (gdel_some hk').2
  · intro y u hr h
    refine VR.key (ks := ks) (fun j hj => gdel_ne hj) (fun j hj => by rw [eraAll_get, if_neg hj]) y u (fun k hk => ?_) (VR.mono hav y u h)
    have := List.any_eq_false.1 hr k hk
    simpa using this

theorem RS.drop (h : RS x γ st a w) (ks : List Nat) : RS x (gdel γ ks) (drop st ks) a w := by
  cases ks with
  | nil =>
    have : gdel γ [] = γ := by funext k; simp [gdel]
    rw [this]
    exact h
  | cons k ks =>
    obtain ⟨h1, h2⟩ := h.inv.drop (k :: ks)
    refine ⟨h1, by simp only [Vi.drop, cleanTm_length]; exact h.len, ?_, h.nod⟩
    intro t v hv
    simp only [Vi.drop, cleanTm_get, Option.map_eq_some_iff] at hv
    obtain ⟨y, hy, hyv⟩ := hv
    cases hr : anyRefs (k :: ks) y with
    | true =>
      rw [hr] at hyv
      simp only [cond_true] at hyv
      subst hyv
      trivial
    | false =>
      rw [hr] at hyv
      simp only [cond_false] at hyv
      subst hyv
      exact h2 y _ hr (h.tm t y hy)

theorem A0k_del (hi : Inv x γ H w) {ks : List Nat} {b : Nat} (h : A0k x γ w ks b) : Av x (gdel γ ks) w b := by
  rcases h with h | ⟨k, hk, c, hg⟩
  · exact (Av.del (fun k i hk => ⟨k, (gdel_some hk).2⟩) b h).1
  · have hr := hi.rng k b c hg
    refine ⟨hr.2, fun hb => x.ma b (hr.1.resolve_left (by omega)), fun k' c' hk' => ?_⟩
    obtain ⟨h1, h2⟩ := gdel_some hk'
    exact h1 (hi.inj k' k b c' c h2 hg ▸ hk)

theorem VR1.up {A : Nat → Prop} {v : V} {u : Value} (h : VR1 γ w A H v u) : VR γ w A H v u := by
  cases v with
  | tup vs => exact h.elim
  | fn f vs => exact h.elim
  | _ => exact h

theorem partKeys_mem {ρv : Val} {k : Nat} : ∀ {ps : List (Nat × Operand)} {p : Nat × Operand}, p ∈ ps → k ∈ opKey ρv p.2 → k ∈ partKeys ρv ps
  | [], p, h, _ => by simp at h
  | (j, y) :: ps, p, h, hk => by
    rcases List.mem_cons.1 h with rfl | h
    · exact List.mem_append.2 (.inl hk)
    · exact List.mem_append.2 (.inr (partKeys_mem h hk))

theorem partEl_VRs {ρv : Val} {e : Sh} {y : e.den} {p : Operand} {keys : List Nat} (hi : Inv x γ H w) (hv : Ops ρv H x γ w a) (h : partEl e ρv H p = some y) (hk : ∀ k ∈ opKey ρv p, k ∈ keys) :
    VRs w (A0k x γ w keys) e y (a.eval p).cells.toList := by
  unfold partEl at h
  split at h
  · rename_i v h1
    have hvr := hv _ _ h1
    split at h
    · rename_i vs h2
      exact VRs.mono (fun b hb => ⟨.inl hb, rfl⟩) e y _ (VRs.of_ofC e vs y _ h (cellsOf_VR h2 hvr))
    · rename_i h2
      split at h
      · rename_i e'
        cases v with
        | own k win t =>
          unfold elemsAs at h
          split at h
          · rename_i e2 xs hel
            obtain ⟨he, hx⟩ := castL_eq h
            subst he
            have hx : xs = y := hx
            subst hx
            have hg : gnd1 H (.own k win t) = some (.c (.sl e2 xs t)) := by
              unfold elems at hel
              simp only at hel
              split at hel
              · rename_i e3 xs3 n3 hH
                cases hel
                simp only [gnd1, hH]
              · cases hel
            have h3 := gnd1_VR (keys := keys) hi hg hvr (fun j hj => hk j (by simpa [opKey, h1] using hj))
            obtain ⟨ad, cap, g1, g2, g3, g4⟩ := h3
            exact ⟨ad, cap, by rw [g1]; rfl, g2, g4⟩
          · cases h
        | c z => cases h2
        | agg z => cases h2
        | _ => simp [elemsAs, elems] at h
      · cases h
  · cases h

theorem put_hp (st : St) (dst : Option Tmp) (v : V) : (put st dst v).hp = st.hp := by cases dst <;> rfl

theorem hset_put (st : St) (dst : Option Tmp) (v : V) (k : Nat) (ob : O) : hset (put st dst v) k ob = { tm := (put st dst v).tm, hp := updAll st.hp [(k, ob)] } := by
  simp only [hset, put_hp]
  rfl

theorem E_buildSlice {t : TypeId} {len : Nat} {parts : Array (Nat × Operand)} (hT : TabOK P E.T) (ho : o.op = .buildSlice t len parts) (h : evalE E o st ρ K = some r) (hr : RS x γ st a w) : Eff P o K r x a w := by
  have hv := hr.ops'
  simp only [evalE, ho] at h
  split at h
  · rename_i e hs
    split at h
    · rename_i xs hxs
      generalize hks : partKeys (opV st) parts.toList = keys at h
      obtain ⟨hd, h⟩ := cond_some h rfl
      simp only [Bool.and_eq_true, decide_eq_true_eq] at hd
      obtain ⟨cells, et, hrun, hR, hl⟩ := run_buildSlice (w := w) (a := a) (A := A0k x γ w keys) hT ho hs hd.2 (fun p hp y hy => partEl_VRs hr.inv hv hy fun k hk => hks ▸ partKeys_mem hp hk) hxs
      have h2 := hr.drop keys
      rw [hset_put] at h
      refine ⟨_, h, .inl ⟨_, _, hrun, h2.step (by simpa using hd.1) (Res.new (i := .at w.heap.size len) h2.inv (Grows.alloc w _) (by simp) ?_ ?_)⟩⟩
      · refine ⟨by simp, by omega, cells, et, heap_new w _, ?_, fun i q hq => ?_⟩
        · have := hR.1
          simp only [Array.length_toList] at this
          rw [this, hl]
          exact Nat.le_refl _
        · refine VRs.mono (fun b hb => ?_) e q _ (hR.2 i q hq)
          exact Av.set (by simp) (Grows.alloc w _) b (A0k_del hr.inv hb)
      · exact ⟨.at w.heap.size len, e, xs, false, by simp [gset], by simp [Vi.upd], by rw [hl], by omega, by simp⟩
    · cases h
  · cases h

end Go.Vi
