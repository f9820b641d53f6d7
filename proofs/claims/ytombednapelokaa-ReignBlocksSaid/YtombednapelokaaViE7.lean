/-
  Vi: calls of closures; calls that write what they are handed.
-/
import Derived.Test.YtombednapelokaaViE5
set_option linter.unusedVariables false
set_option linter.unusedSimpArgs false
namespace Go.Vi
open Op

/-- A thing that is handed in to be written. -/
def IoV (w : World) (A0 : Nat → Prop) : V → Info → Value → Prop
  | .c (.sl e xs _), i, u => OwnSl i e.nc xs.length false none false u ∧ objR w A0 (.arr e xs false) i
  | .iptr cs, i, u => (∃ b c, i = .at b c ∧ u = .pointer (some ⟨b, 0, none⟩)) ∧ objR w A0 (.box cs) i
  | _, _, _ => False

def IoL (w : World) (A0 : Nat → Prop) : List V → List Info → List Value → Prop
  | [], [], [] => True
  | v :: vs, i :: is, u :: us => IoV w A0 v i u ∧ IoL w A0 vs is us
  | _, _, _ => False

def IoRel (w : World) (A0 : Nat → Prop) : List Bool → List V → List Info → List Value → Prop
  | [], [], [], [] => True
  | false :: fs, v :: vs, is, u :: us => VR noGam w A0 emp v u ∧ IoRel w A0 fs vs is us
  | true :: fs, .fn g caps :: vs, is, u :: us => ∃ is1 is2 us', is = is1 ++ is2 ∧ u = .func (.func g) #[] us'.toArray ∧ IoL w A0 caps is1 us' ∧ IoRel w A0 fs vs is2 us
  | true :: fs, v :: vs, i :: is, u :: us => IoV w A0 v i u ∧ IoRel w A0 fs vs is us
  | _, _, _, _ => False

def OutR (w : World) (A : Nat → Prop) : Out → Info → Prop
  | .box cs, i => objR w A (.box cs) i
  | .arr e xs, i => objR w A (.arr e xs false) i

def apartI (is : List Info) : Prop := is.Pairwise fun i j => ∀ b c c', i = .at b c → j ≠ .at b c'

/-- The world behind a call that may write these. -/
structure GrowsBut (is : List Info) (w w' : World) : Prop where
  size : w.heap.size ≤ w'.heap.size
  os : w'.os = w.os
  tape : w'.tape = w.tape
  output : w'.output = w.output
  blk : ∀ b, b < w.heap.size → (∀ i ∈ is, ∀ c, i ≠ .at b c) → w'.heap[b]? = w.heap[b]?

/-- The contract of a function that writes what it is handed. -/
def FCio (P : Program) (g : FuncId) (flags : List Bool) (vs : List V) (ret : Ret) (outs : List Out) : Prop :=
  ∀ (w : World) (A0 : Nat → Prop) (is : List Info) (args : List Value), (∀ b, A0 b → b < w.heap.size) → IoRel w A0 flags vs is args → apartI is → (∀ i ∈ is, ∀ b c, i = .at b c → b < w.heap.size ∧ ¬ A0 b) →
    Calls P g args.toArray w fun
      | .returned u, w' => GrowsBut is w w' ∧ ∃ js us, u = retVal us ∧ RetRs w w' (newA w w' A0 (js ++ is)) ret js us ∧ All2 (OutR w' (newA w w' A0 (js ++ is))) outs is
      | _, _ => False

def PhioOK (P : Program) (E : Env) : Prop :=
  ∀ g flags vs ρ (K : Ret → List Out → Option ρ) r, E.iop g = some flags → E.phio g vs ρ K = some r → ∃ ret outs, K ret outs = some r ∧ FCio P g flags vs ret outs ∧ ∀ args w, (callFunc g args).run P w = .ok (.enter g args) w

/-- All callees' contracts. -/
def EnvOK (P : Program) (E : Env) : Prop := PhiOK P E.phi ∧ PhioOK P E

variable {P : Program} {E : Env} {o : Oper} {ρ : Type} {r : ρ} {x : Cx} {γ : Gam} {H : Heap} {w : World} {a : Act} {st : St} {K : St → Option ρ}

/-! ### The arguments -/

def infoOf (γ : Gam) (k : Nat) : Info := (γ k).getD .emp

/-- An argument as it stands, as it reads, and as it is. -/
def Elem (x : Cx) (γ : Gam) (w : World) (H : Heap) (raw v : V) (u : Value) : Prop :=
  (∀ keys : List Nat, (∀ k ∈ raw.ownKey, k ∈ keys) → VR noGam w (A0k x γ w keys) emp v u) ∧ (raw ≠ .undef → gnd H raw = some v ∧ VR γ w (Av x γ w) H raw u)

def Elems (x : Cx) (γ : Gam) (w : World) (H : Heap) : List V → List V → List Value → Prop
  | [], [], [] => True
  | r :: rs, v :: vs, u :: us => Elem x γ w H r v u ∧ Elems x γ w H rs vs us
  | _, _, _ => False

theorem Elems.append : ∀ {rs vs : List V} {us : List Value} {rs' vs' : List V} {us' : List Value}, Elems x γ w H rs vs us → Elems x γ w H rs' vs' us' → Elems x γ w H (rs ++ rs') (vs ++ vs') (us ++ us')
  | [], [], [], _, _, _, _, h' => h'
  | _ :: _, _ :: _, _ :: _, _, _, _, h, h' => ⟨h.1, Elems.append h.2 h'⟩
  | [], [], _ :: _, _, _, _, h, _ => h.elim
  | [], _ :: _, _, _, _, _, h, _ => h.elim
  | _ :: _, [], _, _, _, _, h, _ => h.elim
  | _ :: _, _ :: _, [], _, _, _, h, _ => h.elim

theorem A0k_mono {keys : List Nat} {b : Nat} (hb : Av x γ w b) : A0k x γ w keys b := .inl hb

theorem ioK1_V {k : Nat} {raw v : V} {u : Value} {keys : List Nat} (hi : Inv x γ H w) (h : ioK1 raw = some k) (hg : gnd1 H raw = some v) (hv : VR1 γ w (Av x γ w) H raw u) :
    IoV w (A0k x γ w keys) v (infoOf γ k) u ∧ ∃ i ob, γ k = some i ∧ H k = some ob := by
  have hA : ∀ b, Av x γ w b → A0k x γ w keys b ∧ w.heap[b]? = w.heap[b]? := fun b hb => ⟨.inl hb, rfl⟩
  unfold ioK1 at h
  split at h
  · cases h
    obtain ⟨i, e, xs, nilE, h1, h2, h3⟩ := hv
    simp only [gnd1, h2, view] at hg
    cases hg
    obtain ⟨ob, h4, h5⟩ := hi.own k i h1
    rw [h2] at h4
    cases h4
    refine ⟨?_, i, _, h1, h2⟩
    simp only [infoOf, h1, Option.getD_some]
    refine ⟨?_, ?_⟩
    · cases i with
      | emp =>
        obtain ⟨a, q1, q2, q3, q4⟩ := h3
        exact ⟨a, q1, by simp, q3, q4⟩
      | «at» b c =>
        obtain ⟨q1, q2, q3⟩ := h3
        exact ⟨q1, q2, by simp⟩
    · have := objR.mono hA _ i (fun _ _ _ => rfl) h5
      cases i with
      | emp => exact this
      | «at» b c => exact ⟨by simp, this.2⟩
  · cases h
    obtain ⟨b, c, h1, h2⟩ := hv
    obtain ⟨ob, h4, h5⟩ := hi.own k _ h1
    simp only [gnd1] at hg
    split at hg
    · rename_i cs hH
      obtain ⟨hd, hg⟩ : _ ∧ some (V.iptr (cs.drop 0)) = some v := by
        cases hd : decide (0 ≤ cs.length) with
        | true => rw [hd] at hg; exact ⟨trivial, hg⟩
        | false => rw [hd] at hg; cases hg
      cases hg
      rw [hH] at h4
      cases h4
      refine ⟨?_, _, _, h1, hH⟩
      simp only [infoOf, h1, Option.getD_some, List.drop_zero]
      exact ⟨⟨b, c, rfl, h2⟩, objR.mono hA _ _ (fun _ _ _ => rfl) h5⟩
    · cases hg
  · cases h

theorem ioKL_L {keys : List Nat} (hi : Inv x γ H w) : ∀ {raws vs : List V} {us : List Value} {ks : List Nat}, ioKL raws = some ks → gnds H raws = some vs → All2 (VR1 γ w (Av x γ w) H) raws us →
    IoL w (A0k x γ w keys) vs (ks.map (infoOf γ)) us ∧ ∀ k ∈ ks, ∃ i ob, γ k = some i ∧ H k = some ob
  | [], vs, [], ks, h, hg, _ => by
    cases h
    cases hg
    exact ⟨trivial, by simp⟩
  | r :: rs, vs, u :: us, ks, h, hg, hv => by
    simp only [ioKL] at h
    split at h
    · rename_i k ks' h1 h2
      cases h
      simp only [gnds] at hg
      split at hg
      · rename_i v vs' g1 g2
        cases hg
        obtain ⟨i1, i2⟩ := ioK1_V (keys := keys) hi h1 g1 hv.1
        obtain ⟨j1, j2⟩ := ioKL_L hi h2 g2 hv.2
        refine ⟨⟨i1, j1⟩, fun k' hk' => ?_⟩
        rcases List.mem_cons.1 hk' with rfl | hk'
        · exact i2
        · exact j2 k' hk'
      · cases hg
    · cases h
  | [], _, _ :: _, _, _, _, h => h.elim
  | _ :: _, _, [], _, _, _, h => h.elim

theorem ioArgs_rel {keys : List Nat} (hi : Inv x γ H w) : ∀ {flags : List Bool} {raws vs : List V} {us : List Value} {ks oth : List Nat}, ioArgs flags raws = some (ks, oth) → Elems x γ w H raws vs us → (∀ k ∈ oth, k ∈ keys) →
    IoRel w (A0k x γ w keys) flags vs (ks.map (infoOf γ)) us ∧ ∀ k ∈ ks, ∃ i ob, γ k = some i ∧ H k = some ob
  | [], [], [], [], ks, oth, h, _, _ => by
    cases h
    exact ⟨trivial, by simp⟩
  | false :: fs, raw :: raws, v :: vs, u :: us, ks, oth, h, he, hk => by
    simp only [ioArgs] at h
    split at h
    · rename_i k o' h1
      cases h
      obtain ⟨i1, i2⟩ := ioArgs_rel hi h1 he.2 fun q hq => hk q (by simp [hq])
      exact ⟨⟨he.1.1 keys fun q hq => hk q (by simp [hq]), i1⟩, i2⟩
    · cases h
  | true :: fs, raw :: raws, v :: vs, u :: us, ks, oth, h, he, hk => by
    simp only [ioArgs] at h
    split at h
    · rename_i ks1 k o' h1 h2
      cases h
      obtain ⟨i1, i2⟩ := ioArgs_rel hi h2 he.2 hk
      have hne : raw ≠ .undef := by
        intro e
        subst e
        cases h1
      obtain ⟨hg, hv⟩ := he.1.2 hne
      have one : ∀ (k' : Nat), ioK1 raw = some k' → gnd1 H raw = some v → VR1 γ w (Av x γ w) H raw u → ks1 = [k'] → (∀ f caps, v ≠ .fn f caps) →
          IoRel w (A0k x γ w keys) (true :: fs) (v :: vs) ((ks1 ++ k).map (infoOf γ)) (u :: us) ∧ ∀ q ∈ ks1 ++ k, ∃ i ob, γ q = some i ∧ H q = some ob := by
        intro k' e1 e2 e3 e4 e5
        subst e4
        obtain ⟨j1, j2⟩ := ioK1_V (keys := keys) hi e1 e2 e3
        refine ⟨?_, fun q hq => ?_⟩
        · simp only [List.singleton_append, List.map_cons]
          cases v <;> first | exact ⟨j1, i1⟩ | exact absurd rfl (e5 _ _)
        · rcases List.mem_append.1 hq with hq | hq
          · rw [List.mem_singleton.1 hq]
            exact j2
          · exact i2 q hq
      cases raw with
      | fn f caps =>
        simp only [gnd, Option.map_eq_some_iff] at hg
        obtain ⟨vs', g1, rfl⟩ := hg
        obtain ⟨us', e1, hvs⟩ := hv
        obtain ⟨j1, j2⟩ := ioKL_L (keys := keys) hi h1 g1 hvs
        refine ⟨⟨ks1.map (infoOf γ), k.map (infoOf γ), us', by simp, e1, j1, i1⟩, fun q hq => ?_⟩
        rcases List.mem_append.1 hq with hq | hq
        · exact j2 q hq
        · exact i2 q hq
      | own k' win t =>
        simp only [ioKs, Option.map_eq_some_iff] at h1
        obtain ⟨k2, h1, rfl⟩ := h1
        refine one k2 h1 hg hv rfl ?_
        intro f caps e
        subst e
        simp only [gnd, gnd1] at hg
        split at hg <;> cases hg
      | ptr k' off =>
        simp only [ioKs, Option.map_eq_some_iff] at h1
        obtain ⟨k2, h1, rfl⟩ := h1
        refine one k2 h1 hg hv rfl ?_
        intro f caps e
        subst e
        simp only [gnd, gnd1] at hg
        split at hg
        · rename_i cs _
          cases hd : decide (off ≤ cs.length) <;> rw [hd] at hg <;> cases hg
        · cases hg
      | _ => simp [ioKs, ioK1] at h1
    · cases h
  | [], _ :: _, _, _, _, _, h, _, _ => by simp [ioArgs] at h
  | f :: _, [], _, _, _, _, h, _, _ => by cases f <;> simp [ioArgs] at h
  | [], [], [], _ :: _, _, _, _, h, _ => h.elim
  | [], [], _ :: _, _, _, _, _, h, _ => h.elim
  | _ :: _, _ :: _, [], _, _, _, _, h, _ => h.elim
  | _ :: _, _ :: _, _ :: _, [], _, _, _, h, _ => h.elim

theorem argV_elem {T : Tab} {t : TypeId} {y : Operand} {v : V} (hi : Inv x γ st.hp w) (hv : Ops (opV st) st.hp x γ w a) (h : argV T (opV st) st.hp t y = some v) :
    Elem x γ w st.hp (match opV st y with | some u => u | none => .undef) v (a.eval y) := by
  unfold argV at h
  cases hn : isNil y with
  | true =>
    rw [hn] at h
    simp only [cond_true, nilV] at h
    have hy := isNil_eq hn
    subst hy
    split at h
    · cases h
      exact ⟨fun keys _ => ⟨none, 0, rfl, Nat.le_refl _, fun _ => rfl, .inl rfl⟩, fun hne => absurd rfl hne⟩
    · cases h
  | false =>
    rw [hn] at h
    simp only [cond_false] at h
    obtain ⟨v0, g1, g2⟩ := Option.bind_eq_some_iff.1 h
    rw [g1]
    exact ⟨fun keys hk => gnd_VR hi g2 (hv y v0 g1) hk, fun _ => ⟨g2, hv y v0 g1⟩⟩

theorem argsV_elems {T : Tab} (hi : Inv x γ st.hp w) (hv : Ops (opV st) st.hp x γ w a) : ∀ {ts : List TypeId} {ys : List Operand} {vs : List V}, argsV T (opV st) st.hp ts ys = some vs →
    Elems x γ w st.hp (ys.map fun y => match opV st y with | some u => u | none => .undef) vs (ys.map a.eval)
  | [], [], vs, h => by
    cases h
    trivial
  | t :: ts, y :: ys, vs, h => by
    simp only [argsV] at h
    split at h
    · rename_i v vs' h1 h2
      cases h
      exact ⟨argV_elem hi hv h1, argsV_elems hi hv h2⟩
    · cases h
  | [], _ :: _, _, h => by cases h
  | _ :: _, [], _, h => by cases h

theorem gnds_elems (hi : Inv x γ H w) : ∀ {caps caps' : List V} {us : List Value}, gnds H caps = some caps' → All2 (VR1 γ w (Av x γ w) H) caps us → Elems x γ w H caps caps' us
  | [], caps', [], h, _ => by
    cases h
    trivial
  | c :: cs, caps', u :: us, h, hv => by
    simp only [gnds] at h
    split at h
    · rename_i v vs h1 h2
      cases h
      have hv1 := VR1.up hv.1
      have hg : gnd H c = some v := by
        cases c <;> first | exact h1 | exact hv.1.elim
      exact ⟨⟨fun keys hk => gnd_VR hi hg hv1 hk, fun _ => ⟨hg, hv1⟩⟩, gnds_elems hi h2 hv.2⟩
    · cases h
  | [], _, _ :: _, _, h => h.elim
  | _ :: _, _, [], _, h => h.elim

/-! ### What is written -/

theorem out1_same {ob ob' : O} {x' : Out} (h : out1 ob x' = some ob') : sameO ob ob' := by
  unfold out1 at h
  split at h
  · obtain ⟨_, h⟩ := cond_some h rfl
    cases h
    trivial
  · split at h
    · rename_i ys hys
      obtain ⟨hd, h⟩ := cond_some h rfl
      cases h
      exact ⟨rfl, Nat.eq_of_beq_eq_true hd, rfl⟩
    · cases h
  · cases h

theorem castL_eq' {e' e : Sh} {xs : List e'.den} {ys : List e.den} (h : castL e' e xs = some ys) : ∃ he : e' = e, ys = he ▸ xs := by
  unfold castL at h
  split at h
  · rename_i he
    cases h
    exact ⟨he, rfl⟩
  · cases h

theorem out1_obj {A : Nat → Prop} {ob ob' : O} {x' : Out} {i : Info} {w0 : World} {A' : Nat → Prop} (h : out1 ob x' = some ob') (hold : objR w0 A' ob i) (hn : OutR w A x' i) : objR w A ob' i := by
  unfold out1 at h
  split at h
  · obtain ⟨_, h⟩ := cond_some h rfl
    cases h
    exact hn
  · rename_i e xs n e' ys
    split at h
    · rename_i ys' hys
      obtain ⟨he, rfl⟩ := castL_eq' hys
      subst he
      obtain ⟨hd, h⟩ := cond_some h rfl
      have hl := Nat.eq_of_beq_eq_true hd
      cases h
      cases i with
      | emp => exact hn
      | «at» b c =>
        refine ⟨fun e => ?_, hn.2⟩
        have := hold.1 e
        intro hys
        have hys : ys = [] := hys
        have hl : ys.length = xs.length := hl
        rw [hys] at hl
        exact this (List.length_eq_zero_iff.1 hl.symm)
    · cases h
  · cases h

theorem out1C_some {ob : O} {q : Out} {Ko : O → Option ρ} (h : out1C ob q ρ Ko = some r) : ∃ ob', out1 ob q = some ob' ∧ Ko ob' = some r ∧ ∀ (ρ' : Type) (K' : O → Option ρ'), out1C ob q ρ' K' = K' ob' := by
  cases ob with
  | box cs =>
    cases q with
    | box cs' =>
      simp only [out1C] at h
      obtain ⟨h1, h2⟩ := cond_some h rfl
      exact ⟨_, by simp only [out1, h1, cond_true], h2, fun ρ' K' => by simp only [out1C, h1, cond_true]⟩
    | arr e xs => cases h
  | arr e xs n =>
    cases q with
    | box cs' => cases h
    | arr e' ys =>
      simp only [out1C] at h
      split at h
      · rename_i ys' hys
        obtain ⟨h1, h2⟩ := cond_some h rfl
        exact ⟨_, by simp only [out1, hys, h1, cond_true], h2, fun ρ' K' => by simp only [out1C, hys, h1, cond_true]⟩
      · cases h
  | mp _ _ _ => cases q <;> cases h

theorem outsPutC_some : ∀ {ks : List Nat} {outs : List Out} {H : Heap} {Kh : Heap → Option ρ}, outsPutC H ks outs ρ Kh = some r → ∃ H', outsPut H ks outs = some H' ∧ Kh H' = some r ∧ ∀ (ρ' : Type) (K' : Heap → Option ρ'), outsPutC H ks outs ρ' K' = K' H'
  | [], [], H, Kh, h => ⟨H, rfl, h, fun _ _ => rfl⟩
  | k :: ks, q :: outs, H, Kh, h => by
    simp only [outsPutC] at h
    split at h
    · rename_i ob hob
      obtain ⟨ob', h1, h2, h3⟩ := out1C_some h
      obtain ⟨H', h4, h5, h6⟩ := outsPutC_some h2
      exact ⟨H', by simp only [outsPut, hob, h1, h4], h5, fun ρ' K' => by simp only [outsPutC, hob, h3, h6]⟩
    · cases h
  | [], _ :: _, _, _, h => by cases h
  | _ :: _, [], _, _, h => by cases h

/-- What the writing leaves under each key. -/
theorem outsPut_spec {A : Nat → Prop} {w0 : World} {A' : Nat → Prop} : ∀ {ks : List Nat} {outs : List Out} {H H' : Heap}, outsPut H ks outs = some H' → ks.Nodup → All2 (OutR w A) outs (ks.map (infoOf γ)) →
    (∀ k ∈ ks, ∃ i ob, γ k = some i ∧ H k = some ob ∧ objR w0 A' ob i) →
    (∀ j, j ∉ ks → H' j = H j) ∧ ∀ k ∈ ks, ∃ i ob ob', γ k = some i ∧ H k = some ob ∧ H' k = some ob' ∧ sameO ob ob' ∧ objR w A ob' i
  | [], [], H, H', h, _, _, _ => by
    cases h
    exact ⟨fun _ _ => rfl, by simp⟩
  | k :: ks, q :: outs, H, H', h, hnd, hout, hex => by
    obtain ⟨hn1, hn2⟩ := List.nodup_cons.1 hnd
    simp only [outsPut] at h
    obtain ⟨i, ob, hγ, hH, hob⟩ := hex k (by simp)
    rw [hH] at h
    simp only at h
    split at h
    · rename_i ob' ho
      have hne : ∀ j ∈ ks, j ≠ k := fun j hj e => hn1 (by rw [← e]; exact hj)
      obtain ⟨h1, h2⟩ := outsPut_spec (w0 := w0) (A' := A') h hn2 hout.2 fun j hj => by
        obtain ⟨i', ob2, e1, e2, e3⟩ := hex j (by simp [hj])
        exact ⟨i', ob2, e1, by rw [upd_ne _ _ (hne j hj)]; exact e2, e3⟩
      refine ⟨fun j hj => ?_, fun j hj => ?_⟩
      · simp only [List.mem_cons, not_or] at hj
        rw [h1 j hj.2, upd_ne _ _ hj.1]
      · rcases List.mem_cons.1 hj with rfl | hj
        · refine ⟨i, ob, ob', hγ, hH, by rw [h1 j hn1, upd_self], out1_same ho, ?_⟩
          have h3 : OutR w A q (infoOf γ j) := hout.1
          simp only [infoOf, hγ, Option.getD_some] at h3
          exact out1_obj ho hob h3
        · obtain ⟨i', ob1, ob2, e1, e2, e3, e4, e5⟩ := h2 j hj
          exact ⟨i', ob1, ob2, e1, by rw [← upd_ne H ob' (hne j hj)]; exact e2, e3, e4, e5⟩
    · cases h
  | [], _ :: _, _, _, h, _, _, _ => by cases h
  | _ :: _, [], _, _, h, _, _, _ => by simp [outsPut] at h

theorem VR.sameH {A : Nat → Prop} {H' : Heap} (hs : ∀ k i, γ k = some i → (H' k = H k ∨ ∃ ob ob', H k = some ob ∧ H' k = some ob' ∧ sameO ob ob')) : ∀ (y : V) (u : Value), VR γ w A H y u → VR γ w A H' y u := by
  have one : ∀ (y : V) (u : Value), VR1 γ w A H y u → VR1 γ w A H' y u := by
    intro y u h
    cases y with
    | own j win t =>
      obtain ⟨i, e, xs, nilE, h1, h2, h3⟩ := h
      rcases hs j i h1 with e1 | ⟨ob, ob', e1, e2, e3⟩
      · exact ⟨i, e, xs, nilE, h1, e1.trans h2, h3⟩
      · rw [h2] at e1
        cases e1
        cases ob' with
        | arr e' xs' n' =>
          obtain ⟨rfl, hl, rfl⟩ := e3
          exact ⟨i, _, xs', _, h1, e2, by rw [hl]; exact h3⟩
        | _ => exact e3.elim
    | eptr j win i off =>
      obtain ⟨b, c, e, xs, nilE, h1, h2, h3, h4, h5⟩ := h
      rcases hs j _ h1 with e1 | ⟨ob, ob', e1, e2, e3⟩
      · exact ⟨b, c, e, xs, nilE, h1, e1.trans h2, h3, h4, h5⟩
      · rw [h2] at e1
        cases e1
        cases ob' with
        | arr e' xs' n' =>
          obtain ⟨rfl, hl, rfl⟩ := e3
          exact ⟨b, c, _, xs', _, h1, e2, h3, by rw [view_len hl]; exact h4, h5⟩
        | _ => exact e3.elim
    | ptr j off => exact h
    | aptr j off n e i => exact h
    | map j => exact h
    | undef => trivial
    | c y => exact h
    | agg cs => exact h
    | iptr cs => exact h
    | tup vs => exact h
    | fn f vs => exact h
  intro y u h
  cases y with
  | tup vs => obtain ⟨us, h1, h2⟩ := h; exact ⟨us, h1, h2.mono one⟩
  | fn f caps => obtain ⟨us, h1, h2⟩ := h; exact ⟨us, h1, h2.mono one⟩
  | _ => simp only [VR] at h ⊢; exact one _ _ h

theorem mem_of_memN {d : Nat} {l : List Nat} (h : d ∈ l) : memN d l = true := List.any_eq_true.2 ⟨d, h, Nat.beq_refl d⟩
theorem nodup_of : ∀ {l : List Nat}, nodupB l = true → l.Nodup
  | [], _ => List.nodup_nil
  | d :: l, h => by
    simp only [nodupB, Bool.and_eq_true, Bool.not_eq_true'] at h
    refine List.nodup_cons.2 ⟨fun hm => ?_, nodup_of h.2⟩
    rw [mem_of_memN hm] at h
    cases h.1

/-- The world behind a call that writes some own things and makes new ones. -/
theorem Inv.io {w' : World} {ks : List Nat} {outs : List Out} {H' : Heap} {L : List Ent} {A1 : Nat → Prop} (hi : Inv x γ H w) (hnd : ks.Nodup) (hex : ∀ k ∈ ks, ∃ i ob, γ k = some i ∧ H k = some ob) (hput : outsPut H ks outs = some H')
    (g : GrowsBut (ks.map (infoOf γ)) w w') (hout : All2 (OutR w' A1) outs (ks.map (infoOf γ))) (hA1 : ∀ b, A1 b → Av x (gAll γ L) w' b) (h : News x γ w w' L) (hlo : ∀ p ∈ L, p.1 < pinLo) (hLk : ∀ p ∈ L, p.1 ∉ ks)
    (hob : ∀ p ∈ L, objR w' A1 p.2.1 p.2.2) :
    Inv x (gAll γ L) (updAll H' (obsOf L)) w' ∧
    (∀ y uu, (∀ p ∈ obsOf L, refs p.1 y = false) → VR γ w (Av x γ w) H y uu → VR (gAll γ L) w' (Av x (gAll γ L) w') (updAll H' (obsOf L)) y uu) := by
  obtain ⟨hH1, hH2⟩ := outsPut_spec (w0 := w) (A' := Av x γ w) hput hnd hout fun k hk => by
    obtain ⟨i, ob, h1, h2⟩ := hex k hk
    obtain ⟨ob', h3, h4⟩ := hi.own k i h1
    rw [h2] at h3
    cases h3
    exact ⟨i, ob, h1, h2, h4⟩
  -- blocks that are not written
  have hun : ∀ b, b < w.heap.size → (∀ k ∈ ks, ∀ c, γ k ≠ some (.at b c)) → w'.heap[b]? = w.heap[b]? := by
    intro b hb hk
    refine g.blk b hb fun i hm c he => ?_
    obtain ⟨k, hkm, rfl⟩ := List.mem_map.1 hm
    obtain ⟨i, ob, h1, _⟩ := hex k hkm
    simp only [infoOf, h1, Option.getD_some] at he
    exact hk k hkm c (by rw [h1, he])
  have hold : ∀ b, Av x γ w b → Av x (gAll γ L) w' b ∧ w'.heap[b]? = w.heap[b]? := by
    intro b hb
    refine ⟨⟨Nat.lt_of_lt_of_le hb.1 g.size, hb.2.1, fun k c hk => ?_⟩, hun b hb.1 fun k _ c => hb.2.2 k c⟩
    rcases gAll_cases (γ := γ) (H := H) L k with ⟨p, hp, h1, h2, _⟩ | ⟨_, h2, _⟩
    · rw [h2] at hk
      have := (h.rng p hp b c (by simpa using hk)).1
      have := hb.1
      omega
    · rw [h2] at hk
      exact hb.2.2 k c hk
  have hA1' : ∀ b, A1 b → Av x (gAll γ L) w' b ∧ w'.heap[b]? = w'.heap[b]? := fun b hb => ⟨hA1 b hb, rfl⟩
  refine ⟨⟨Nat.le_trans hi.size g.size, g.os.trans hi.os, g.tape.trans hi.tape, g.output.trans hi.output, ?_, ?_, ?_, ?_, ?_⟩, ?_⟩
  · intro b hb hm
    refine (hun b (Nat.lt_of_lt_of_le hb hi.size) fun k _ c hk => ?_).trans (hi.blk b hb hm)
    rcases (hi.rng k b c hk).1 with h1 | h1
    · omega
    · exact hm h1
  · intro k i hk
    rcases gAll_cases (γ := γ) (H := H') L k with ⟨p, hp, h1, h2, h3⟩ | ⟨h1, h2, h3⟩
    · rw [h2] at hk
      cases hk
      exact ⟨_, h3, objR.mono hA1' _ _ (fun _ _ _ => rfl) (hob p hp)⟩
    · rw [h2] at hk
      by_cases hkm : k ∈ ks
      · obtain ⟨i', ob, ob', e1, e2, e3, e4, e5⟩ := hH2 k hkm
        rw [e1] at hk
        cases hk
        exact ⟨ob', h3.trans e3, objR.mono hA1' _ _ (fun _ _ _ => rfl) e5⟩
      · obtain ⟨ob, h4, h5⟩ := hi.own k i hk
        refine ⟨ob, (h3.trans (hH1 k hkm)).trans h4, objR.mono hold ob i (fun b c hb => ?_) h5⟩
        refine hun b (hi.rng k b c (hb ▸ hk)).2 fun k' hk' c' he => ?_
        have := hi.inj k k' b c c' (hb ▸ hk) he
        subst this
        exact hkm hk'
  · intro k b c hk
    rcases gAll_cases (γ := γ) (H := H) L k with ⟨p, hp, h1, h2, h3⟩ | ⟨h1, h2, h3⟩
    · rw [h2] at hk
      have h4 := h.rng p hp b c (by simpa using hk)
      have := hi.size
      exact ⟨.inl (by omega), h4.2⟩
    · rw [h2] at hk
      exact ⟨(hi.rng k b c hk).1, Nat.lt_of_lt_of_le (hi.rng k b c hk).2 g.size⟩
  · intro k k' b c c' hk hk'
    rcases gAll_cases (γ := γ) (H := H) L k with ⟨p, hp, h1, h2, h3⟩ | ⟨h1, h2, h3⟩ <;> rcases gAll_cases (γ := γ) (H := H) L k' with ⟨q, hq, g1, g2, g3⟩ | ⟨g1, g2, g3⟩
    · rw [h2] at hk
      rw [g2] at hk'
      rcases pair_eq h.dis hp hq with rfl | h4 | h4
      · exact h1.symm.trans g1
      · exact absurd (by simpa using hk') (h4.2 b c c' (by simpa using hk))
      · exact absurd (by simpa using hk) (h4.2 b c' c (by simpa using hk'))
    · rw [h2] at hk
      rw [g2] at hk'
      have h4 := (h.rng p hp b c (by simpa using hk)).1
      have h5 := (hi.rng k' b c' hk').2
      omega
    · rw [h2] at hk
      rw [g2] at hk'
      have h4 := (h.rng q hq b c' (by simpa using hk')).1
      have h5 := (hi.rng k b c hk).2
      omega
    · rw [h2] at hk
      rw [g2] at hk'
      exact hi.inj k k' b c c' hk hk'
  · intro k i hp hH
    rcases gAll_cases (γ := γ) (H := H') L k with ⟨p, hpm, h1, h2, h3⟩ | ⟨h1, h2, h3⟩
    · have := x.pinlo k i hp
      have := hlo p hpm
      omega
    · rw [h3] at hH
      rw [h2]
      refine hi.pin k i hp ?_
      by_cases hkm : k ∈ ks
      · obtain ⟨i', ob, ob', e1, e2, e3, e4, e5⟩ := hH2 k hkm
        rw [e2]
        simp
      · rwa [hH1 k hkm] at hH
  · intro y uu hr hv
    have h1 : VR γ w' (Av x (gAll γ L) w') H' y uu := by
      refine VR.sameH (fun k i hk => ?_) y uu (VR.mono hold y uu hv)
      by_cases hkm : k ∈ ks
      · obtain ⟨i', ob, ob', e1, e2, e3, e4, e5⟩ := hH2 k hkm
        exact .inr ⟨ob, ob', e2, e3, e4⟩
      · exact .inl (hH1 k hkm)
    refine VR.key (ks := L.map (·.1)) ?_ ?_ y uu ?_ h1
    · intro j hj
      rcases gAll_cases (γ := γ) (H := H') L j with ⟨p, hp, h1, _⟩ | ⟨_, h2, _⟩
      · exact absurd (List.mem_map.2 ⟨p, hp, h1⟩) hj
      · exact h2
    · intro j hj
      rcases gAll_cases (γ := γ) (H := H') L j with ⟨p, hp, h1, _⟩ | ⟨_, _, h2⟩
      · exact absurd (List.mem_map.2 ⟨p, hp, h1⟩) hj
      · exact h2
    · intro k hk
      obtain ⟨p, hp, rfl⟩ := List.mem_map.1 hk
      exact hr _ (obsOf_mem hp)

theorem OutR.noSl {w : World} {A A' : Nat → Prop} {q : Out} {i : Info} (h : q.hasSl = false) (hq : OutR w A q i) : OutR w A' q i := by
  cases q with
  | box cs =>
    cases i with
    | emp => exact hq
    | «at» b c =>
      obtain ⟨cur, et, h1, h2⟩ := hq
      exact ⟨cur, et, h1, All2.noSl h h2⟩
  | arr e xs =>
    cases i with
    | emp => exact hq
    | «at» b c =>
      obtain ⟨g0, g1, cur, et, g2, g3, g4⟩ := hq
      exact ⟨g0, g1, cur, et, g2, g3, fun i x hx => VRs.noSl e x _ h (g4 i x hx)⟩

theorem OutR.mono {w : World} {A A' : Nat → Prop} (hA : ∀ b, A b → A' b) {q : Out} {i : Info} (hq : OutR w A q i) : OutR w A' q i := by
  cases q <;> exact objR.mono (fun b hb => ⟨hA b hb, rfl⟩) _ i (fun _ _ _ => rfl) hq

theorem outs_map {w : World} {A A' : Nat → Prop} : ∀ {outs : List Out} {is : List Info}, (∀ q ∈ outs, ∀ i, OutR w A q i → OutR w A' q i) → All2 (OutR w A) outs is → All2 (OutR w A') outs is
  | [], [], _, _ => trivial
  | q :: outs, i :: is, f, h => ⟨f q (by simp) i h.1, outs_map (fun q' hq => f q' (by simp [hq])) h.2⟩
  | [], _ :: _, _, h => h.elim
  | _ :: _, [], _, h => h.elim

theorem any_false {α : Type} {f : α → Bool} {l : List α} (h : l.any f = false) : ∀ q ∈ l, f q = false := by
  intro q hq
  cases hf : f q with
  | false => rfl
  | true =>
    have : l.any f = true := List.any_eq_true.2 ⟨q, hq, hf⟩
    rw [h] at this
    cases this

/-- A step that writes as well. -/
theorem RS.step2 {γ' : Gam} {w' : World} {v : V} {obs : List (Nat × O)} {u : Value} {dst : Option Tmp} {H2 : Heap} (h : RS x γ st a w) (hd : ∀ p ∈ obs, noRef p.1 (put st dst .undef).tm = true) (h1 : Inv x γ' (updAll H2 obs) w')
    (h2 : VR γ' w' (Av x γ' w') (updAll H2 obs) v u) (h3 : ∀ y uu, (∀ p ∈ obs, refs p.1 y = false) → VR γ w (Av x γ w) st.hp y uu → VR γ' w' (Av x γ' w') (updAll H2 obs) y uu) :
    RS x γ' { tm := (put st dst v).tm, hp := updAll H2 obs } (a.put dst u) w' := by
  refine ⟨h1, ?_, ?_, ?_⟩
  · rw [put_size, ← h.len]
    cases dst <;> simp [put]
  · intro t y hy
    cases dst with
    | none =>
      simp only [put] at hy
      refine h3 y _ (fun p hp => ?_) (h.tm t y hy)
      exact noRef_get (by simpa [put] using hd p hp) hy
    | some d =>
      rw [put_getD]
      simp only [put, List.getElem?_set] at hy
      split at hy
      · rename_i hdt
        split at hy
        · rename_i hlt
          cases hy
          rw [if_pos ⟨hdt.symm, by rw [← h.len]; exact hlt⟩]
          exact h2
        · cases hy
      · rename_i hdt
        rw [if_neg (fun e => hdt e.1.symm)]
        refine h3 y _ (fun p hp => ?_) (h.tm t y hy)
        refine noRef_get (tm := st.tm.set d .undef) (by simpa [put] using hd p hp) (t := t) ?_
        rw [List.getElem?_set, if_neg hdt]
        exact hy
  · rw [put_defers]; exact h.nod

/-- What a call that writes leaves, in the caller. -/
theorem Inv.callio {w' : World} {ks : List Nat} {outs : List Out} {H' : Heap} {A1 : Nat → Prop} {ret : Ret} {js : List Info} {us : List Value} {key : Nat} (hi : Inv x γ H w) (hnd : ks.Nodup) (hex : ∀ k ∈ ks, ∃ i ob, γ k = some i ∧ H k = some ob)
    (hput : outsPut H ks outs = some H') (g : GrowsBut (ks.map (infoOf γ)) w w') (hA1 : A1 = newA w w' (Av x γ w) (js ++ ks.map (infoOf γ))) (hret : RetRs w w' A1 ret js us) (hout : All2 (OutR w' A1) outs (ks.map (infoOf γ)))
    (hlo : ∀ p ∈ (retAll key ret).2, p.1 < pinLo) (hks : ∀ p ∈ (retAll key ret).2, p.1 ∉ ks) :
    ∃ γ', Inv x γ' (updAll H' (retAll key ret).2) w' ∧ VR γ' w' (Av x γ' w') (updAll H' (retAll key ret).2) (retAll key ret).1 (retVal us) ∧
      ∀ y uu, (∀ p ∈ (retAll key ret).2, refs p.1 y = false) → VR γ w (Av x γ w) H y uu → VR γ' w' (Av x γ' w') (updAll H' (retAll key ret).2) y uu := by
  have main : ∀ (L : List Ent), (∀ p ∈ obsOf L, p.1 < pinLo ∧ p.1 ∉ ks) → News x γ w w' L → (∀ p ∈ L, objR w' A1 p.2.1 p.2.2) → (∀ p ∈ L, p.2.2 ∈ js) →
      (Inv x (gAll γ L) (updAll H' (obsOf L)) w' ∧ (∀ y uu, (∀ p ∈ obsOf L, refs p.1 y = false) → VR γ w (Av x γ w) H y uu → VR (gAll γ L) w' (Av x (gAll γ L) w') (updAll H' (obsOf L)) y uu)) ∧
      ∀ b, A1 b → Av x (gAll γ L) w' b := by
    intro L hl hn hob hsub
    have hA : ∀ b, A1 b → Av x (gAll γ L) w' b := by
      intro b hb
      rw [hA1] at hb
      refine ⟨hb.1, fun hlt => (hb.2.1 (Nat.lt_of_lt_of_le hlt hi.size)).2.1 hlt, fun k c hk => ?_⟩
      rcases gAll_cases (γ := γ) (H := emp) L k with ⟨p, hp, h1, h2, _⟩ | ⟨_, h2, _⟩
      · rw [h2] at hk
        exact hb.2.2 p.2.2 (List.mem_append.2 (.inl (hsub p hp))) c (by simpa using hk)
      · rw [h2] at hk
        exact (hb.2.1 (hi.rng k b c hk).2).2.2 k c hk
    exact ⟨Inv.io hi hnd hex hput g hout hA hn (fun p hp => (hl _ (obsOf_mem hp)).1) (fun p hp => (hl _ (obsOf_mem hp)).2) hob, hA⟩
  have hlen := hret.lengths
  match ret, js, us, hret, hlen with
  | [r], [i], [u], h1, _ =>
    have hn : News x γ w w' (ret1L key r i) := by
      refine ⟨fun p hp => ?_, ?_⟩
      · cases r <;> simp [ret1L] at hp
        subst hp
        exact h1.1.2.2
      · cases r <;> simp [ret1L]
    obtain ⟨⟨h2, h3⟩, h4⟩ := main (ret1L key r i) (by rw [obsOf_ret1L]; exact fun p hp => ⟨hlo p hp, hks p hp⟩) hn (fun p hp => by
      cases r <;> simp [ret1L] at hp
      subst hp
      exact h1.1.1) (fun p hp => by
      cases r <;> simp [ret1L] at hp
      subst hp
      simp)
    have hv := ret1_VR (H := H') (key := key) hn h4 h1.1 (fun p hp => hp)
    rw [obsOf_ret1L] at h2 h3 hv
    refine ⟨_, h2, ?_, h3⟩
    have : (retAll key [r]).1 = retV key r := rfl
    rw [this]
    cases r <;> exact hv
  | [], [], [], h1, _ =>
    obtain ⟨⟨h2, h3⟩, h4⟩ := main [] (by simp [obsOf]) ⟨by simp, by simp⟩ (by simp) (by simp)
    exact ⟨_, h2, ⟨[], rfl, trivial⟩, h3⟩
  | r :: r' :: rs, i :: i' :: is, u :: u' :: us, h1, hlen =>
    have hn : News x γ w w' (retL key (r :: r' :: rs) (i :: i' :: is)) := ⟨fun p hp => (RetRs.rng (x := x) (γ := γ) h1 p hp).1, h1.dis⟩
    obtain ⟨⟨h2, h3⟩, h4⟩ := main _ (by rw [obsOf_retL _ _ _ hlen.1]; exact fun p hp => ⟨hlo p hp, hks p hp⟩) hn (fun p hp => (RetRs.rng (x := x) (γ := γ) h1 p hp).2) (fun p hp => (retL_mem hp).2)
    have hv := RetRs.VRs (H := H') (key := key) hn h4 h1 (fun p hp => hp)
    rw [obsOf_retL _ _ _ hlen.1] at h2 h3 hv
    exact ⟨_, h2, ⟨_, rfl, hv⟩, h3⟩

theorem infos_apart (hi : Inv x γ H w) : ∀ {ks : List Nat}, ks.Nodup → (∀ k ∈ ks, ∃ i ob, γ k = some i ∧ H k = some ob) → apartI (ks.map (infoOf γ))
  | [], _, _ => List.Pairwise.nil
  | k :: ks, hnd, hex => by
    obtain ⟨h1, h2⟩ := List.nodup_cons.1 hnd
    refine List.Pairwise.cons (fun j hj b c c' he => ?_) (infos_apart hi h2 fun q hq => hex q (by simp [hq]))
    obtain ⟨k', hk', rfl⟩ := List.mem_map.1 hj
    intro he'
    obtain ⟨i, _, e1, _⟩ := hex k (by simp)
    obtain ⟨i', _, e2, _⟩ := hex k' (by simp [hk'])
    simp only [infoOf, e1, e2, Option.getD_some] at he he'
    have := hi.inj k k' b c c' (by rw [e1, he]) (by rw [e2, he'])
    subst this
    exact h1 hk'

/-- A call of a closure, or of a function that is handed own things that live on in what it gives back. -/
theorem E_callv {c : Call} {f : Operand} (hT : TabOK P E.T) (hphi : EnvOK P E) (ho : o.op = .call c) (hc : c.callee = .value f) (h : evalE E o st ρ K = some r) (hr : RS x γ st a w) : Eff P o K r x a w := by
  have hv := hr.ops'
  simp only [evalE, ho, hc] at h
  cases hdl : isDelF E.T f with
  | true =>
    rw [hdl] at h
    exact E_del hT hdl ho hc h hr
  | false =>
  rw [hdl, cond_false] at h
  split at h
  · rename_i v hvf
    split at h
    · rename_i g caps hgn
      split at h
      · rename_i vs hvs
        split at h
        rotate_left
        · rename_i flags hfl
          split at h
          · rename_i ks oth hio
            obtain ⟨ret, outs, hk, hfc, hcall⟩ := hphi.2 g flags (vs ++ caps) ρ _ r hfl h
            obtain ⟨hnd0, hk⟩ := cond_some hk rfl
            rw [Bool.and_eq_true] at hnd0
            have hnd := nodup_of hnd0.1
            have hdis : ∀ k ∈ ks, k ∉ oth := fun k hkm hko => by
              have := List.all_eq_true.1 hnd0.2 k hkm
              rw [mem_of_memN hko] at this
              cases this
            obtain ⟨hp', hput, hk, _⟩ := outsPutC_some hk
            obtain ⟨hdd, hk⟩ := cond_some hk rfl
            -- the closure
            obtain ⟨caps0, us, e1, hcs, hvc⟩ : ∃ caps0 us, a.eval f = .func (.func g) #[] us.toArray ∧ Elems x γ w st.hp caps0 caps us ∧ rawArgs st v c = (c.args.toList.map fun y => match opV st y with | some u => u | none => .undef) ++ caps0 := by
              have hvr := hv _ _ hvf
              cases v with
              | fn g' caps0 =>
                simp only [gnd, Option.map_eq_some_iff] at hgn
                obtain ⟨caps', hg1, hg2⟩ := hgn
                cases hg2
                obtain ⟨us, e1, h2⟩ := hvr
                exact ⟨caps0, us, e1, gnds_elems hr.inv hg1 h2, rfl⟩
              | own k win t => simp only [gnd, gnd1] at hgn; split at hgn <;> cases hgn
              | ptr k off =>
                simp only [gnd, gnd1] at hgn
                split at hgn
                · rename_i cs _
                  cases hd : decide (off ≤ cs.length) <;> rw [hd] at hgn <;> cases hgn
                · cases hgn
              | _ => simp [gnd, gnd1] at hgn
            have hel := (argsV_elems hr.inv hv hvs).append hcs
            rw [hvc] at hio
            obtain ⟨hrel, hex⟩ := ioArgs_rel (keys := oth) hr.inv hio hel (fun k hk => hk)
            refine ⟨_, hk, .inr (.inr ⟨g, (c.args.toList.map a.eval ++ us).toArray, w, ?_, ?_⟩)⟩
            · have hargs : c.args.map a.eval ++ us.toArray = (c.args.toList.map a.eval ++ us).toArray := by
                apply Array.ext'
                simp
              simp only [execOp, ho, resolve, hc, e1, Deferred.ofValue, Sem.run_bind, Sem.run_pure, Result.andThen_ok, invoke]
              rw [← hargs]
              simpa using hcall _ w
            · have hA := hfc w (A0k x γ w oth) _ _ (fun b hb => A0k_lt hr.inv _ b hb) hrel (infos_apart hr.inv hnd hex) (by
                intro i hi b c' he
                obtain ⟨k, hkm, rfl⟩ := List.mem_map.1 hi
                obtain ⟨i', ob, e2, e3⟩ := hex k hkm
                simp only [infoOf, e2, Option.getD_some] at he
                subst he
                refine ⟨(hr.inv.rng k b c' e2).2, ?_⟩
                rintro (hb | ⟨k', hk', c2, e4⟩)
                · exact hb.2.2 k c' e2
                · have := hr.inv.inj k k' b c' c2 e2 e4
                  subst this
                  exact hdis k hkm hk')
              refine hA.mono fun e w' he => ?_
              cases e with
              | returned u =>
                obtain ⟨hgw, js, us', rfl, hret, hout⟩ := he
                -- what is laid down is forgotten
                obtain ⟨γ2, hr2, hinfo, hex2, hA2⟩ : ∃ γ2, RS x γ2 (bif ret.any Ret1.hasSl || outs.any Out.hasSl then drop st oth else st) a w ∧ ks.map (infoOf γ2) = ks.map (infoOf γ) ∧
                    (∀ k ∈ ks, ∃ i ob, γ2 k = some i ∧ (bif ret.any Ret1.hasSl || outs.any Out.hasSl then drop st oth else st).hp k = some ob) ∧
                    (RetRs w w' (newA w w' (Av x γ2 w) (js ++ ks.map (infoOf γ))) ret js us' ∧ All2 (OutR w' (newA w w' (Av x γ2 w) (js ++ ks.map (infoOf γ)))) outs (ks.map (infoOf γ))) := by
                  cases hsl : ret.any Ret1.hasSl || outs.any Out.hasSl with
                  | true =>
                    have hsub : ∀ b, newA w w' (A0k x γ w oth) (js ++ ks.map (infoOf γ)) b → newA w w' (Av x (gdel γ oth) w) (js ++ ks.map (infoOf γ)) b := fun b hb => ⟨hb.1, fun hlt => A0k_del hr.inv (hb.2.1 hlt), hb.2.2⟩
                    refine ⟨gdel γ oth, hr.drop oth, ?_, fun k hkm => ?_, hret.map fun r _ i u hx => hx.mono hsub, outs_map (fun q _ i hq => hq.mono hsub) hout⟩
                    · refine List.map_congr_left fun k hkm => ?_
                      simp only [infoOf, gdel_ne (hdis k hkm)]
                    · obtain ⟨i, ob, e2, e3⟩ := hex k hkm
                      refine ⟨i, ob, by rw [gdel_ne (hdis k hkm)]; exact e2, ?_⟩
                      simp only [cond_true]
                      cases oth with
                      | nil => exact e3
                      | cons q qs =>
                        simp only [Vi.drop, eraAll_get, if_neg (hdis k hkm)]
                        exact e3
                  | false =>
                    rw [Bool.or_eq_false_iff] at hsl
                    exact ⟨γ, hr, rfl, hex, hret.map fun r hrm i u hx => RetR1.noSl r i u (any_false hsl.1 r hrm) hx, outs_map (fun q hq i hx => hx.noSl (any_false hsl.2 q hq)) hout⟩
                generalize (bif ret.any Ret1.hasSl || outs.any Out.hasSl then drop st oth else st) = st2 at *
                have hdd0 : ∀ p ∈ (retAll (dstKey o.dst) ret).2, dead { tm := st2.tm, hp := hp' } o.dst p.1 = true ∧ p.1 ∉ ks := fun p hp => by
                  have := List.all_eq_true.1 hdd p hp
                  rw [Bool.and_eq_true] at this
                  refine ⟨this.1, fun hm => ?_⟩
                  rw [mem_of_memN hm] at this
                  cases this.2
                have htm : ∀ (s : St) (d : Option Tmp) (v : V) (h : Heap), (put { tm := s.tm, hp := h } d v).tm = (put s d v).tm := fun s d v h => by cases d <;> rfl
                rw [← hinfo] at hgw hA2
                obtain ⟨γ', q1, q2, q3⟩ := Inv.callio (key := dstKey o.dst) hr2.inv hnd hex2 hput hgw rfl hA2.1 hA2.2 (fun p hp => (dead_spec (hdd0 p hp).1).1) (fun p hp => (hdd0 p hp).2)
                exact ⟨γ', RS.step2 hr2 (fun p hp => by
                  have := (dead_spec (hdd0 p hp).1).2
                  rwa [htm] at this) q1 q2 q3⟩
              | _ => exact he.elim
          · cases h
        rename_i hfl
        obtain ⟨ret, hk, hfc, hcall⟩ := hphi.1 g (vs ++ caps) ρ _ r h
        generalize hks : v.ownKey ++ c.args.toList.flatMap (opKey (opV st)) = keys at hk
        have hin1 : ∀ k ∈ v.ownKey, k ∈ keys := fun k hkm => hks ▸ List.mem_append.2 (.inl hkm)
        have hin2 : ∀ y ∈ c.args.toList, ∀ k ∈ opKey (opV st) y, k ∈ keys := fun y hy k hkm => hks ▸ List.mem_append.2 (.inr (List.mem_flatMap.2 ⟨y, hy, hkm⟩))
        obtain ⟨us, e1, hcs⟩ := gnd_VR (v' := .fn g caps) hr.inv hgn (hv _ _ hvf) hin1
        have hargs := argsV_VR hr.inv hv hvs hin2
        obtain ⟨hdd, hk⟩ := cond_some hk rfl
        refine ⟨_, hk, .inr (.inr ⟨g, (c.args.toList.map a.eval ++ us).toArray, w, ?_, ?_⟩)⟩
        · have hargs : c.args.map a.eval ++ us.toArray = (c.args.toList.map a.eval ++ us).toArray := by
            apply Array.ext'
            simp
          simp only [execOp, ho, resolve, hc, e1, Deferred.ofValue, Sem.run_bind, Sem.run_pure, Result.andThen_ok, invoke]
          rw [← hargs]
          simpa using hcall _ w
        · have hA := hfc w (A0k x γ w keys) _ (fun b hb => A0k_lt hr.inv _ b hb) (hargs.append (hcs.mono fun _ _ q => VR1.up q))
          refine hA.mono fun e w' he => ?_
          cases e with
          | returned u =>
            obtain ⟨hgw, hret⟩ := he
            cases hsl : ret.any Ret1.hasSl with
            | true =>
              rw [hsl] at hdd
              simp only [cond_true] at hdd ⊢
              have h2 := hr.drop keys
              have h3 := Res.call (key := dstKey o.dst) h2.inv hgw (.inl fun b _ hb => A0k_del hr.inv hb) hret
              exact h2.step hdd h3
            | false =>
              rw [hsl] at hdd
              simp only [cond_false] at hdd ⊢
              exact hr.step hdd (Res.call (key := dstKey o.dst) hr.inv hgw (.inr hsl) hret)
          | _ => exact he.elim
      · cases h
    · cases h
  · cases h


end Go.Vi
