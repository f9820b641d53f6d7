/-
  Vi: operations that change nothing that is there. Part 8: calls of functions that only read; all of them together.
-/
import Derived.Test.YtombednapelokaaViP7
set_option linter.unusedVariables false
set_option linter.unusedSimpArgs false
namespace Go.Vi

section
variable {P : Program} {E : Env} {o : Oper} {ρv : Val} {H : Heap} {ρ : Type} {K : V → List (Nat × O) → Option ρ} {r : ρ} {x : Cx} {γ : Gam} {w : World} {a : Act}

/-- What a callee may read: data, and what is handed to it. -/
def A0k (x : Cx) (γ : Gam) (w : World) (keys : List Nat) (b : Nat) : Prop := Av x γ w b ∨ ∃ k ∈ keys, ∃ c, γ k = some (.at b c)

theorem A0k_lt (hi : Inv x γ H w) (keys : List Nat) (b : Nat) (h : A0k x γ w keys b) : b < w.heap.size := by
  rcases h with h | ⟨k, _, c, hk⟩
  · exact h.1
  · exact (hi.rng k b c hk).2

theorem gnd1_VR {v v' : V} {u : Value} {keys : List Nat} (hi : Inv x γ H w) (h : gnd1 H v = some v') (hv : VR1 γ w (Av x γ w) H v u) (hk : ∀ k ∈ v.ownKey, k ∈ keys) : VR1 noGam w (A0k x γ w keys) emp v' u := by
  have hA : ∀ b, Av x γ w b → A0k x γ w keys b ∧ w.heap[b]? = w.heap[b]? := fun b hb => ⟨.inl hb, rfl⟩
  cases v with
  | c y => simp only [gnd1, Option.some.injEq] at h; subst h; exact CR.mono hA y u hv
  | agg cs => simp only [gnd1, Option.some.injEq] at h; subst h; exact VR1.mono (γ := noGam) (H := emp) hA (.agg cs) u hv
  | iptr cs => simp only [gnd1, Option.some.injEq] at h; subst h; exact VR1.mono (γ := noGam) (H := emp) hA (.iptr cs) u hv
  | own k win t =>
    obtain ⟨i, e, xs, nilE, hg, hH, hsl⟩ := hv
    simp only [gnd1, hH, Option.some.injEq] at h
    subst h
    have hkm : k ∈ keys := hk k (by simp [V.ownKey])
    obtain ⟨ob, hob, hR⟩ := hi.own k _ hg
    rw [hH] at hob
    cases hob
    cases i with
    | emp =>
      obtain ⟨ad, e1, _, h0, h1⟩ := hsl
      have hx : view win xs = [] := by
        apply List.eq_nil_of_length_eq_zero
        cases win <;> simp [view, h0]
      exact ⟨ad, 0, by rw [hx]; exact e1, by rw [hx]; exact Nat.le_refl _, fun _ => by rw [hx]; rfl, .inl hx⟩
    | «at» b c =>
      obtain ⟨_, hxc, cur, et, hb, hsz, hel⟩ := hR
      have hAb : A0k x γ w keys b := .inr ⟨k, hkm, c, hg⟩
      cases win with
      | none =>
        obtain ⟨g1, g2, g3⟩ := hsl
        refine ⟨_, _, g1, g2, g3, .inr ⟨b, 0, cur, et, (0, 0), rfl, hAb, hb, ?_, fun i y hy => ?_⟩⟩
        · have := Nat.mul_le_mul_right e.nc hxc
          show 0 + xs.length * e.nc ≤ cur.size
          omega
        · rw [Nat.zero_add]
          exact VRs.mono hA e y _ (hel i y hy)
      | some p =>
        obtain ⟨p, l⟩ := p
        obtain ⟨oo, cap, g1, g2, g3, g4, g5, g6, g7⟩ := hsl
        have hl : (view (some (p, l)) xs).length = l := by simp [view]; omega
        refine ⟨_, cap, by rw [hl]; exact g1, by omega, by rw [hl]; exact g5, ?_⟩
        by_cases hl0 : l = 0
        · exact .inl (List.eq_nil_of_length_eq_zero (by omega))
        · have hoo := g6 (by omega)
          refine .inr ⟨b, oo, cur, et, (0, 0), rfl, hAb, hb, ?_, fun i y hy => ?_⟩
          · rw [hl, hoo, ← Nat.add_mul]
            have := Nat.mul_le_mul_right e.nc (show p + l ≤ c by omega)
            omega
          · obtain ⟨v1, v2⟩ := view_get hy
            rw [hoo, ← Nat.add_mul]
            exact VRs.mono hA e y _ (hel _ y v1)
  | ptr k off =>
    obtain ⟨b, c, hg, e1⟩ := hv
    have hkm : k ∈ keys := hk k (by simp [V.ownKey])
    simp only [gnd1] at h
    split at h
    · rename_i cs hH
      obtain ⟨hd, h⟩ := cond_some h rfl
      have hd := of_decide_eq_true hd
      cases h
      obtain ⟨ob, hob, hR⟩ := hi.own k _ hg
      rw [hH] at hob
      cases hob
      obtain ⟨cur, et, hb, hc⟩ := hR
      have hl := hc.length
      simp only [Array.length_toList] at hl
      refine ⟨b, off, cur, et, (0, 0), e1, .inr ⟨k, hkm, c, hg⟩, hb, by simp; omega, ?_⟩
      have h2 := hc.drop off
      rw [List.take_of_length_le (by simp; omega)]
      exact h2.mono (CR.mono hA)
    · cases h
  | undef => simp [gnd1] at h
  | eptr k win i off => simp [gnd1] at h
  | aptr k off n e i => simp [gnd1] at h
  | tup vs => simp [gnd1] at h
  | fn f vs => simp [gnd1] at h
  | map k => simp [gnd1] at h

theorem gnds_VR {keys : List Nat} (hi : Inv x γ H w) : ∀ {vs vs' : List V} {us : List Value}, gnds H vs = some vs' → All2 (VR1 γ w (Av x γ w) H) vs us → (∀ v ∈ vs, ∀ k ∈ v.ownKey, k ∈ keys) → All2 (VR1 noGam w (A0k x γ w keys) emp) vs' us
  | [], vs', [], h, _, _ => by simp [gnds] at h; subst h; trivial
  | v :: vs, vs', u :: us, h, hv, hk => by
    simp only [gnds] at h
    split at h
    · rename_i v1 vs1 h1 h2
      cases h
      exact ⟨gnd1_VR hi h1 hv.1 (hk v (by simp)), gnds_VR hi h2 hv.2 (fun v' hv' => hk v' (by simp [hv']))⟩
    · cases h
  | [], _, _ :: _, _, h, _ => h.elim
  | _ :: _, _, [], _, h, _ => h.elim

def isOP (k : Nat) : V → Prop
  | .own j _ _ => j = k
  | .ptr j _ => j = k
  | _ => False

theorem ownKey_caps : ∀ {vs : List V} {v : V}, v ∈ vs → ∀ k, isOP k v → k ∈ V.ownKey.capKeys vs
  | [], v, h, _, _ => by simp at h
  | y :: vs, v, h, k, hk => by
    rcases List.mem_cons.1 h with rfl | h
    · cases v <;> simp_all [isOP, V.ownKey.capKeys]
    · have ih := ownKey_caps h k hk
      cases y <;> simp_all [V.ownKey.capKeys]

theorem VR1_noFn {v : V} {u : Value} {A : Nat → Prop} (h : VR1 γ w A H v u) : ∀ k ∈ v.ownKey, isOP k v := by
  intro k hk
  cases v with
  | fn f vs => exact h.elim
  | _ => first | exact (List.not_mem_nil hk).elim | (simp only [V.ownKey, List.mem_singleton] at hk; exact hk.symm) | (simp [V.ownKey] at hk)

theorem gnd_VR {v v' : V} {u : Value} {keys : List Nat} (hi : Inv x γ H w) (h : gnd H v = some v') (hv : VR γ w (Av x γ w) H v u) (hk : ∀ k ∈ v.ownKey, k ∈ keys) : VR noGam w (A0k x γ w keys) emp v' u := by
  cases v with
  | fn f caps =>
    simp only [gnd, Option.map_eq_some_iff] at h
    obtain ⟨caps', h1, rfl⟩ := h
    obtain ⟨us, e1, h2⟩ := hv
    refine ⟨us, e1, gnds_VR hi h1 h2 (fun v hvm k hkm => hk k ?_)⟩
    obtain ⟨i, hi'⟩ := List.getElem?_of_mem hvm
    obtain ⟨u', _, hr⟩ := h2.get hi'
    exact ownKey_caps hvm k (VR1_noFn hr k hkm)
  | tup vs => simp [gnd, gnd1] at h
  | c y => simp only [gnd, gnd1, Option.some.injEq] at h; subst h; exact gnd1_VR (v := .c y) hi rfl hv hk
  | agg cs => simp only [gnd, gnd1, Option.some.injEq] at h; subst h; exact gnd1_VR (v := .agg cs) hi rfl hv hk
  | iptr cs => simp only [gnd, gnd1, Option.some.injEq] at h; subst h; exact gnd1_VR (v := .iptr cs) hi rfl hv hk
  | own k win t =>
    simp only [gnd] at h
    have := gnd1_VR hi h hv hk
    simp only [gnd1] at h
    split at h
    · cases h; exact this
    · cases h
  | ptr k off =>
    simp only [gnd] at h
    have := gnd1_VR hi h hv hk
    simp only [gnd1] at h
    split at h
    · obtain ⟨_, h⟩ := cond_some h rfl
      cases h; exact this
    · cases h
  | undef => simp [gnd, gnd1] at h
  | eptr k win i off => simp [gnd, gnd1] at h
  | aptr k off n e i => simp [gnd, gnd1] at h
  | map k => simp [gnd, gnd1] at h

theorem argsV_VR {T : Tab} {keys : List Nat} (hi : Inv x γ H w) (hv : Ops ρv H x γ w a) : ∀ {ts : List TypeId} {ys : List Operand} {vs : List V}, argsV T ρv H ts ys = some vs → (∀ y ∈ ys, ∀ k ∈ opKey ρv y, k ∈ keys) →
    All2 (VR noGam w (A0k x γ w keys) emp) vs (ys.map a.eval)
  | [], [], vs, h, _ => by simp [argsV] at h; subst h; trivial
  | t :: ts, y :: ys, vs, h, hk => by
    simp only [argsV] at h
    split at h
    · rename_i v vs' h1 h2
      cases h
      refine ⟨?_, argsV_VR hi hv h2 (fun y' hy' => hk y' (by simp [hy']))⟩
      unfold argV at h1
      cases hn : isNil y with
      | true =>
        rw [hn] at h1
        simp only [cond_true, nilV] at h1
        have hy := isNil_eq hn
        subst hy
        split at h1
        · cases h1
          exact ⟨none, 0, rfl, Nat.le_refl _, fun _ => rfl, .inl rfl⟩
        · cases h1
      | false =>
        rw [hn] at h1
        simp only [cond_false] at h1
        obtain ⟨v0, g1, g2⟩ := Option.bind_eq_some_iff.1 h1
        exact gnd_VR hi g2 (hv y v0 g1) (fun k hkm => hk y (by simp) k (by simp [opKey, g1, hkm]))
    · cases h
  | [], _ :: _, _, h, _ => by simp [argsV] at h
  | _ :: _, [], _, h, _ => by simp [argsV] at h

theorem P_call {c : Call} {g : FuncId} (hT : TabOK P E.T) (hphi : PhiOK P E.phi) (ho : o.op = .call c) (hc : c.callee = .value (.func g)) (h : evalP E o ρv H ρ K = some r) (hi : Inv x γ H w) (hv : Ops ρv H x γ w a) : Good P o H K r x γ w a := by
  simp only [evalP, ho, hc] at h
  cases hid : memN g E.T.idf with
  | true =>
    rw [hid] at h
    simp only [cond_true] at h
    obtain ⟨hcall, hret⟩ := hT.idf g (memN_mem hid)
    split at h
    · rename_i y hy
      split at h
      · rename_i v hv1
        obtain ⟨hu, h⟩ := cond_none h rfl
        refine ⟨v, [], h, .inr (.inr ⟨g, #[a.eval y], w, ?_, ?_⟩)⟩
        · have hargs : c.args.map a.eval = #[a.eval y] := by
            apply Array.ext'
            rw [Array.toList_map, hy]
            rfl
          simp only [execOp, ho, resolve, hc, Act.eval, Deferred.ofValue, Sem.run_bind, Sem.run_pure, Result.andThen_ok, invoke, hargs]
          simpa using hcall _ w
        · refine (hret (a.eval y) w).mono fun e w' he => ?_
          obtain ⟨rfl, rfl⟩ := he
          exact Res.same hi (hv y v hv1)
      · cases h
    · cases h
  | false =>
  rw [hid] at h
  simp only [cond_false] at h
  split at h
  · rename_i vs hvs
    obtain ⟨ret, hk, hfc, hcall⟩ := hphi g vs ρ _ r h
    cases hsl : (ret.any Ret1.hasSl && c.args.toList.any fun y => !(opKey ρv y).isEmpty) with
    | true => rw [hsl] at hk; cases hk
    | false =>
      rw [hsl] at hk
      simp only [cond_false] at hk
      refine ⟨_, _, hk, .inr (.inr ⟨g, (c.args.toList.map a.eval).toArray, w, ?_, ?_⟩)⟩
      · have hargs : c.args.map a.eval = (c.args.toList.map a.eval).toArray := by
          apply Array.ext'
          rw [Array.toList_map]
        simp only [execOp, ho, resolve, hc, Act.eval, Deferred.ofValue, Sem.run_bind, Sem.run_pure, Result.andThen_ok, invoke, hargs]
        simpa using hcall _ w
      · have hA := hfc w (A0k x γ w (c.args.toList.flatMap (opKey ρv))) _ (fun b hb => A0k_lt hi _ b hb) (argsV_VR hi hv hvs fun y hy k hkm => List.mem_flatMap.2 ⟨y, hy, hkm⟩)
        refine hA.mono fun e w' he => ?_
        cases e with
        | returned u =>
          obtain ⟨hgw, hret⟩ := he
          refine Res.call hi hgw ?_ hret
          simp only [Bool.and_eq_false_iff] at hsl
          rcases hsl with h1 | h1
          · exact .inr h1
          · refine .inl fun b hb hA0 => ?_
            rcases hA0 with hA0 | ⟨k, hkm, _⟩
            · exact hA0
            · obtain ⟨y, hy, hyk⟩ := List.mem_flatMap.1 hkm
              have := List.any_eq_false.1 h1 y hy
              simp only [Bool.not_eq_true, Bool.not_eq_false'] at this
              have : opKey ρv y = [] := by simpa using this
              rw [this] at hyk
              simp at hyk
        | panicked chain => exact he.elim
        | outgrown => exact he.elim
  · cases h

/-- Each operation that changes nothing comes to what the interpreter says. -/
theorem evalP_good (hT : TabOK P E.T) (hE : EqsOK P E.T) (hphi : PhiOK P E.phi) (h : evalP E o ρv H ρ K = some r) (hi : Inv x γ H w) (hv : Ops ρv H x γ w a) : Good P o H K r x γ w a := by
  cases ho : o.op with
  | move y => exact P_move (.inl ho) h hi hv
  | assign y => exact P_move (.inr ho) h hi hv
  | pick c y z => exact P_pick ho h hi hv
  | alloc t => exact P_alloc hT ho h hi
  | box t y => exact P_box hT ho h hi hv
  | build t ps => exact P_build hT ho h hi hv
  | buildSlice t n ps => exact P_buildSlice hT ho h hi hv
  | load t y => exact P_load hT ho h hi hv
  | binOp op t y z t' => exact P_binOp hT hE ho h hi hv
  | unOp op t y => exact P_unOp ho h hi hv
  | convert s t y => exact P_convert hT ho h hi hv
  | extract y j => exact P_extract ho h hi hv
  | fieldAddr s y f => exact P_fieldAddr hT ho h hi hv
  | field s y f => exact P_field hT ho h hi hv
  | indexAddr t y z => exact P_indexAddr hT ho h hi hv
  | index t y z => exact P_index hT ho h hi hv
  | slice t y lo hi' mx => exact P_slice hT ho h hi hv
  | makeSlice t l c => exact P_makeSlice hT ho h hi hv
  | makeFunc fn first caps => exact P_makeFunc ho h hi hv
  | makeMap t rs =>
    cases rs with
    | none => exact P_makeMap hT ho h hi
    | some y => simp only [evalP, ho] at h; cases h
  | lookup t y z ok => exact P_lookup hT ho h hi hv
  | call c =>
    cases hc : c.callee with
    | builtin b =>
      cases b with
      | len => exact P_len hT ho hc h hi hv
      | cap => exact P_cap hT ho hc h hi hv
      | max => exact P_max ho hc h hi hv
      | min => exact P_min ho hc h hi hv
      | append => exact P_append hT ho hc h hi hv
      | _ => simp only [evalP, ho, hc] at h; cases h
    | value f =>
      cases f with
      | func g => exact P_call hT hphi ho hc h hi hv
      | _ => simp only [evalP, ho, hc] at h; cases h
    | invoke rv m => simp only [evalP, ho, hc] at h; cases h
  | _ => simp only [evalP, ho] at h; cases h

end
end Go.Vi
