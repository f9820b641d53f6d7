/-
  Vi: operations: what an operation may come to; calls.
-/
import Derived.Test.YtombednapelokaaViT
set_option linter.unusedVariables false
set_option linter.unusedSimpArgs false
namespace Go.Vi

/-- An operation comes to a value. -/
def OpTo (P : Program) (o : Oper) (a : Act) (w : World) (R : Value → World → Prop) : Prop :=
  (∃ u w', (execOp a.eval o).run P w = .ok (.value u) w' ∧ R u w') ∨
  (∃ w', (execOp a.eval o).run P w = .ok .skip w' ∧ R undef w') ∨
  (∃ f args w1, (execOp a.eval o).run P w = .ok (.enter f args) w1 ∧ Calls P f args w1 fun
    | .returned u, w' => R u w'
    | _, _ => False)

theorem OpTo.mono {P : Program} {o : Oper} {a : Act} {w : World} {R R' : Value → World → Prop} (h : OpTo P o a w R) (f : ∀ u w', R u w' → R' u w') : OpTo P o a w R' := by
  rcases h with ⟨u, w', h1, h2⟩ | ⟨w', h1, h2⟩ | ⟨g, args, w1, h1, h2⟩
  · exact .inl ⟨u, w', h1, f _ _ h2⟩
  · exact .inr (.inl ⟨w', h1, f _ _ h2⟩)
  · refine .inr (.inr ⟨g, args, w1, h1, h2.mono ?_⟩)
    intro e w' he
    cases e <;> simp_all

theorem OpTo.wp {P : Program} {o : Oper} {a : Act} {w : World} {next : Act → World → Prop} {Q : Exit → Act → World → Prop} (h : OpTo P o a w fun u w' => next (a.put o.dst u) w') : o.wp P a w next Q := by
  unfold Oper.wp
  rcases h with ⟨u, w', h1, h2⟩ | ⟨w', h1, h2⟩ | ⟨g, args, w1, h1, h2⟩
  · rw [h1]; exact h2
  · rw [h1]; exact h2
  · rw [h1]
    refine h2.mono ?_
    intro e w' he
    cases e <;> simp_all

/-- What an operation leaves: its value, the new things, and all that was. -/
def Res (x : Cx) (γ : Gam) (H : Heap) (w : World) (v : V) (obs : List (Nat × O)) (u : Value) (w' : World) : Prop :=
  (∀ p ∈ obs, p.1 < pinLo) → ∃ γ', Inv x γ' (updAll H obs) w' ∧ VR γ' w' (Av x γ' w') (updAll H obs) v u ∧
    ∀ y uu, (∀ p ∈ obs, refs p.1 y = false) → VR γ w (Av x γ w) H y uu → VR γ' w' (Av x γ' w') (updAll H obs) y uu

theorem Res.same {x : Cx} {γ : Gam} {H : Heap} {w : World} {v : V} {u : Value} (hi : Inv x γ H w) (hv : VR γ w (Av x γ w) H v u) : Res x γ H w v [] u w :=
  fun _ => ⟨γ, hi, hv, fun y uu _ h => h⟩

theorem Res.new {x : Cx} {γ : Gam} {H : Heap} {w w' : World} {v : V} {u : Value} {k : Nat} {ob : O} {i : Info} (hi : Inv x γ H w) (g : Grows w w')
    (hn : ∀ b c, i = .at b c → w.heap.size ≤ b ∧ b < w'.heap.size) (hob : objR w' (Av x (gset γ k i) w') ob i)
    (hv : VR (gset γ k i) w' (Av x (gset γ k i) w') (upd H k ob) v u) : Res x γ H w v [(k, ob)] u w' :=
  fun hlo => ⟨gset γ k i, hi.set g (hlo (k, ob) (by simp)) hn hob, hv, fun y uu hr h => VR.set g (fun b c hb => (hn b c hb).1) y uu (hr (k, ob) (by simp)) h⟩

theorem dead_spec {st : St} {dst : Option Tmp} {k : Nat} (h : dead st dst k = true) : k < pinLo ∧ noRef k (put st dst .undef).tm = true := by
  unfold dead at h
  rw [Bool.and_eq_true] at h
  exact ⟨Nat.le_of_ble_eq_true h.1, h.2⟩

theorem noRef_get {k : Nat} : ∀ {tm : List V}, noRef k tm = true → ∀ {t : Nat} {y : V}, tm[t]? = some y → refs k y = false
  | [], _, t, y, h => by simp at h
  | v :: r, hn, 0, y, h => by
    simp only [noRef, Bool.and_eq_true, Bool.not_eq_true'] at hn
    simp at h
    subst h
    exact hn.1
  | v :: r, hn, t + 1, y, h => by
    simp only [noRef, Bool.and_eq_true, Bool.not_eq_true'] at hn
    exact noRef_get hn.2 (by simpa using h)

theorem put_size (a : Act) (d : Option Tmp) (u : Value) : (a.put d u).tmps.size = a.tmps.size := by
  cases d <;> simp [Act.put]

theorem put_defers (a : Act) (d : Option Tmp) (u : Value) : (a.put d u).defers = a.defers := by
  cases d <;> rfl

theorem put_getD (a : Act) (d t : Nat) (u : Value) : (a.put (some d) u).tmps.getD t undef = if t = d ∧ d < a.tmps.size then u else a.tmps.getD t undef := by
  simp only [Act.put, Array.getD_eq_getD_getElem?, Array.getElem?_setIfInBounds]
  by_cases h : d = t
  · subst h
    by_cases h2 : d < a.tmps.size <;> simp [h2]
  · have : ¬ (t = d) := fun e => h e.symm
    simp [h, this]

/-- A step of a region. -/
theorem RS.step {x : Cx} {γ : Gam} {st : St} {a : Act} {w w' : World} {v : V} {obs : List (Nat × O)} {u : Value} {dst : Option Tmp} (h : RS x γ st a w)
    (hd : obs.all (fun p => dead st dst p.1) = true) (hr : Res x γ st.hp w v obs u w') :
    ∃ γ', RS x γ' { tm := (put st dst v).tm, hp := updAll st.hp obs } (a.put dst u) w' := by
  have hdead0 : ∀ p ∈ obs, dead st dst p.1 = true := List.all_eq_true.1 hd
  obtain ⟨γ', h1, h2, h3⟩ := hr fun p hp => (dead_spec (hdead0 p hp)).1
  have hdead : ∀ p ∈ obs, noRef p.1 (put st dst .undef).tm = true := fun p hp => (dead_spec (hdead0 p hp)).2
  refine ⟨γ', ⟨h1, ?_, ?_, ?_⟩⟩
  · rw [put_size, ← h.len]
    cases dst <;> simp [put]
  · intro t y hy
    cases dst with
    | none =>
      simp only [put] at hy
      refine h3 y _ (fun p hp => ?_) (h.tm t y hy)
      have := hdead p hp
      exact noRef_get (by simpa [put] using this) hy
    | some d =>
      rw [put_getD]
      simp only [put, List.getElem?_set] at hy
      split at hy
      · rename_i hdt
        split at hy
        · rename_i hlt
          cases hy
          rw [if_pos ⟨hdt.symm, by rw [← h.len]; exact hlt⟩]
          exact h2
        · cases hy
      · rename_i hdt
        rw [if_neg (fun e => hdt e.1.symm)]
        refine h3 y _ (fun p hp => ?_) (h.tm t y hy)
        have := hdead p hp
        refine noRef_get (tm := st.tm.set d .undef) (by simpa [put] using this) (t := t) ?_
        rw [List.getElem?_set, if_neg hdt]
        exact hy
  · rw [put_defers]; exact h.nod

/-! ## Calls -/

def noGam : Gam := fun _ => none

/-- What comes back. -/
def RetR1 (w w' : World) (A1 : Nat → Prop) : Ret1 → Info → Value → Prop
  | .val c, _, u => CR w' A1 c u
  | .agg cs, _, u => ∃ vs : List Value, u = .agg vs.toArray ∧ All2 (CR w' A1) cs vs
  | .fresh e xs nilE, i, u => objR w' A1 (.arr e xs nilE) i ∧ OwnSl i e.nc xs.length nilE none false u ∧ ∀ b c, i = .at b c → w.heap.size ≤ b ∧ b < w'.heap.size

def RetRs (w w' : World) (A1 : Nat → Prop) : List Ret1 → List Info → List Value → Prop
  | [], [], [] => True
  | r :: rs, i :: is, u :: us => RetR1 w w' A1 r i u ∧ (∀ b c, i = .at b c → ∀ j ∈ is, ∀ c', j ≠ .at b c') ∧ RetRs w w' A1 rs is us
  | _, _, _ => False

def newA (w w' : World) (A0 : Nat → Prop) (is : List Info) (b : Nat) : Prop := b < w'.heap.size ∧ (b < w.heap.size → A0 b) ∧ ∀ i ∈ is, ∀ c, i ≠ .at b c

def retVal : List Value → Value
  | [u] => u
  | us => .tuple us.toArray

def RetR (w w' : World) (A0 : Nat → Prop) (ret : Ret) (u : Value) : Prop :=
  ∃ is us, u = retVal us ∧ RetRs w w' (newA w w' A0 is) ret is us

/-- The contract of a function that only reads: called with these it gives that. -/
def FC (P : Program) (g : FuncId) (vs : List V) (ret : Ret) : Prop :=
  ∀ (w : World) (A0 : Nat → Prop) (args : List Value), (∀ b, A0 b → b < w.heap.size) → All2 (VR noGam w A0 emp) vs args →
    Calls P g args.toArray w fun
      | .returned u, w' => Grows w w' ∧ RetR w w' A0 ret u
      | _, _ => False

def PhiOK (P : Program) (phi : Phi) : Prop :=
  ∀ g vs ρ (K : Ret → Option ρ) r, phi g vs ρ K = some r → ∃ ret, K ret = some r ∧ FC P g vs ret ∧ ∀ args w, (callFunc g args).run P w = .ok (.enter g args) w

/-- Values without slices do not mind where data lies. -/
theorem VRs.noSl {w w' : World} {A A' : Nat → Prop} : ∀ (s : Sh) (x : s.den) (vs : List Value), s.hasSl = false → VRs w A s x vs → VRs w' A' s x vs
  | .int _, _, _, _, h => h
  | .bool, _, _, _, h => h
  | .str, _, _, _, h => h
  | .unit, _, _, _, h => h
  | .pair a b, x, vs, hs, h => by
    simp only [Sh.hasSl, Bool.or_eq_false_iff] at hs
    exact ⟨VRs.noSl a x.1 _ hs.1 h.1, VRs.noSl b x.2 _ hs.2 h.2⟩
  | .sl e, _, _, hs, _ => by simp [Sh.hasSl] at hs

theorem CR.noSl {w w' : World} {A A' : Nat → Prop} : ∀ (c : C) (v : Value), c.isSl = false → CR w A c v → CR w' A' c v
  | .int _ _, _, _, h => h
  | .bool _, _, _, h => h
  | .str _, _, _, h => h
  | .sl _ _ _, _, hs, _ => by simp [C.isSl] at hs

theorem All2.noSl {w w' : World} {A A' : Nat → Prop} : ∀ {cs : List C} {vs : List Value}, cs.any C.isSl = false → All2 (CR w A) cs vs → All2 (CR w' A') cs vs
  | [], [], _, _ => trivial
  | c :: cs, v :: vs, hs, h => by
    simp only [List.any_cons, Bool.or_eq_false_iff] at hs
    exact ⟨CR.noSl c v hs.1 h.1, All2.noSl hs.2 h.2⟩
  | [], _ :: _, _, h => h.elim
  | _ :: _, [], _, h => h.elim

theorem RetR1.noSl {w w' : World} {A A' : Nat → Prop} : ∀ (r : Ret1) (i : Info) (u : Value), r.hasSl = false → RetR1 w w' A r i u → RetR1 w w' A' r i u
  | .val c, _, _, hs, h => CR.noSl c _ hs h
  | .agg cs, _, _, hs, ⟨vs, h1, h2⟩ => ⟨vs, h1, All2.noSl hs h2⟩
  | .fresh e xs nilE, i, u, hs, ⟨h1, h2, h3⟩ => by
    refine ⟨?_, h2, h3⟩
    cases i with
    | emp => exact h1
    | «at» b c =>
      obtain ⟨g0, g1, cur, et, g2, g3, g4⟩ := h1
      exact ⟨g0, g1, cur, et, g2, g3, fun i x hx => VRs.noSl e x _ hs (g4 i x hx)⟩

theorem RetR1.mono {w w' : World} {A A' : Nat → Prop} (hA : ∀ b, A b → A' b) (r : Ret1) (i : Info) (u : Value) (h : RetR1 w w' A r i u) : RetR1 w w' A' r i u := by
  have hA' : ∀ b, A b → A' b ∧ w'.heap[b]? = w'.heap[b]? := fun b hb => ⟨hA b hb, rfl⟩
  cases r with
  | val c => exact CR.mono hA' c u h
  | agg cs => obtain ⟨vs, h1, h2⟩ := h; exact ⟨vs, h1, h2.mono (CR.mono hA')⟩
  | fresh e xs nilE => exact ⟨objR.mono hA' _ i (fun _ _ _ => rfl) h.1, h.2⟩

theorem RetRs.map {w w' : World} {A A' : Nat → Prop} : ∀ {rs : List Ret1} {is : List Info} {us : List Value}, (∀ r ∈ rs, ∀ i u, RetR1 w w' A r i u → RetR1 w w' A' r i u) → RetRs w w' A rs is us → RetRs w w' A' rs is us
  | [], [], [], _, _ => trivial
  | r :: rs, i :: is, u :: us, f, h => ⟨f r (by simp) i u h.1, h.2.1, RetRs.map (fun r' hr => f r' (by simp [hr])) h.2.2⟩
  | [], [], _ :: _, _, h => h.elim
  | [], _ :: _, _, _, h => h.elim
  | _ :: _, [], _, _, h => h.elim
  | _ :: _, _ :: _, [], _, h => h.elim

/-! ### Many new things at once -/

abbrev Ent := Nat × O × Info

def gAll (γ : Gam) : List Ent → Gam
  | [] => γ
  | (k, _, i) :: r => gset (gAll γ r) k i
def obsOf : List Ent → List (Nat × O)
  | [] => []
  | (k, o, _) :: r => (k, o) :: obsOf r

theorem beq_false {j k : Nat} (h : j ≠ k) : Nat.beq j k = false := by
  cases hb : Nat.beq j k
  · rfl
  · exact absurd (Nat.eq_of_beq_eq_true hb) h

theorem gAll_cases {γ : Gam} {H : Heap} : ∀ (L : List Ent) (j : Nat), (∃ p ∈ L, p.1 = j ∧ gAll γ L j = some p.2.2 ∧ updAll H (obsOf L) j = some p.2.1) ∨
    ((∀ p ∈ L, p.1 ≠ j) ∧ gAll γ L j = γ j ∧ updAll H (obsOf L) j = H j)
  | [], j => .inr ⟨by simp, rfl, rfl⟩
  | (k, o, i) :: r, j => by
    by_cases h : j = k
    · subst h
      exact .inl ⟨(j, o, i), by simp, rfl, by simp [gAll, gset], by simp [updAll, obsOf, upd]⟩
    · rcases gAll_cases (γ := γ) (H := H) r j with ⟨p, hp, h1, h2, h3⟩ | ⟨h1, h2, h3⟩
      · exact .inl ⟨p, by simp [hp], h1, by simp [gAll, gset, h, h2], by simp [updAll, obsOf, upd, beq_false h, h3]⟩
      · refine .inr ⟨?_, by simp [gAll, gset, h, h2], by simp [updAll, obsOf, upd, beq_false h, h3]⟩
        intro p hp
        rcases List.mem_cons.1 hp with rfl | hp
        · exact fun e => h e.symm
        · exact h1 p hp

/-- The new things: each in a block of its own, its data in blocks of which A holds. -/
structure News (x : Cx) (γ : Gam) (w w' : World) (L : List Ent) : Prop where
  rng : ∀ p ∈ L, ∀ b c, p.2.2 = .at b c → w.heap.size ≤ b ∧ b < w'.heap.size
  dis : L.Pairwise fun p q => p.1 ≠ q.1 ∧ ∀ b c c', p.2.2 = .at b c → q.2.2 ≠ .at b c'

theorem pair_eq {α : Type} {R : α → α → Prop} : ∀ {l : List α}, l.Pairwise R → ∀ {p q : α}, p ∈ l → q ∈ l → p = q ∨ R p q ∨ R q p
  | [], _, p, q, hp, _ => by simp at hp
  | a :: l, h, p, q, hp, hq => by
    rw [List.pairwise_cons] at h
    rcases List.mem_cons.1 hp with h1 | h1 <;> rcases List.mem_cons.1 hq with h2 | h2
    · exact .inl (h1.trans h2.symm)
    · exact .inr (.inl (h1 ▸ h.1 q h2))
    · exact .inr (.inr (h2 ▸ h.1 p h1))
    · exact pair_eq h.2 h1 h2

theorem News.at_ {x : Cx} {γ : Gam} {H : Heap} {w w' : World} {L : List Ent} (h : News x γ w w' L) {p : Ent} (hp : p ∈ L) : gAll γ L p.1 = some p.2.2 ∧ updAll H (obsOf L) p.1 = some p.2.1 := by
  rcases gAll_cases (γ := γ) (H := H) L p.1 with ⟨q, hq, h1, h2, h3⟩ | ⟨h1, _, _⟩
  · rcases pair_eq h.dis hp hq with rfl | h4 | h4
    · exact ⟨h2, h3⟩
    · exact absurd h1.symm h4.1
    · exact absurd h1 h4.1
  · exact absurd rfl (h1 p hp)

/-- The blocks that hold data behind it all. -/
theorem News.av {x : Cx} {γ : Gam} {w w' : World} {L : List Ent} (h : News x γ w w' L) (g : Grows w w') (hB : x.B ≤ w.heap.size) (b : Nat) (hb : newA w w' (Av x γ w) (L.map (·.2.2)) b)
    (hold : ∀ k c, γ k = some (.at b c) → b < w.heap.size) : Av x (gAll γ L) w' b := by
  refine ⟨hb.1, fun hlt => (hb.2.1 (by omega)).2.1 hlt, fun k c hk => ?_⟩
  rcases gAll_cases (γ := γ) (H := emp) L k with ⟨p, hp, h1, h2, _⟩ | ⟨_, h2, _⟩
  · rw [h2] at hk
    exact hb.2.2 p.2.2 (List.mem_map.2 ⟨p, hp, rfl⟩) c (by simpa using hk)
  · rw [h2] at hk
    exact (hb.2.1 (hold k c hk)).2.2 k c hk

theorem Inv.news {x : Cx} {γ : Gam} {H : Heap} {w w' : World} {L : List Ent} (hi : Inv x γ H w) (g : Grows w w') (h : News x γ w w' L) (hlo : ∀ p ∈ L, p.1 < pinLo)
    (hob : ∀ p ∈ L, objR w' (newA w w' (Av x γ w) (L.map (·.2.2))) p.2.1 p.2.2) :
    Inv x (gAll γ L) (updAll H (obsOf L)) w' ∧
    (∀ y uu, (∀ p ∈ obsOf L, refs p.1 y = false) → VR γ w (Av x γ w) H y uu → VR (gAll γ L) w' (Av x (gAll γ L) w') (updAll H (obsOf L)) y uu) := by
  have hav : ∀ b, newA w w' (Av x γ w) (L.map (·.2.2)) b → Av x (gAll γ L) w' b ∧ w'.heap[b]? = w'.heap[b]? := fun b hb =>
    ⟨h.av g hi.size b hb (fun k c hk => (hi.rng k b c hk).2), rfl⟩
  have hold : ∀ b, Av x γ w b → Av x (gAll γ L) w' b ∧ w'.heap[b]? = w.heap[b]? := fun b hb => by
    refine ⟨(hav b ⟨Nat.lt_of_lt_of_le hb.1 g.size, fun _ => hb, fun i hm c hic => ?_⟩).1, g.blk b hb.1⟩
    obtain ⟨p, hp, rfl⟩ := List.mem_map.1 hm
    have := (h.rng p hp b c hic).1
    have := hb.1
    omega
  refine ⟨⟨Nat.le_trans hi.size g.size, g.os.trans hi.os, g.tape.trans hi.tape, g.output.trans hi.output,
    fun b hb hm => (g.blk b (Nat.lt_of_lt_of_le hb hi.size)).trans (hi.blk b hb hm), ?_, ?_, ?_, ?pin⟩, ?_⟩
  case pin =>
    intro k i hp hH
    rcases gAll_cases (γ := γ) (H := H) L k with ⟨p, hpm, h1, h2, h3⟩ | ⟨h1, h2, h3⟩
    · have := x.pinlo k i hp
      have := hlo p hpm
      omega
    · rw [h3] at hH
      rw [h2]
      exact hi.pin k i hp hH
  · intro k i hk
    rcases gAll_cases (γ := γ) (H := H) L k with ⟨p, hp, h1, h2, h3⟩ | ⟨h1, h2, h3⟩
    · rw [h2] at hk
      cases hk
      exact ⟨_, h3, objR.mono hav _ _ (fun _ _ _ => rfl) (hob p hp)⟩
    · rw [h2] at hk
      obtain ⟨ob, h4, h5⟩ := hi.own k i hk
      exact ⟨ob, h3.trans h4, objR.mono hold ob i (fun b c hb => g.blk b (hi.rng k b c (hb ▸ hk)).2) h5⟩
  · intro k b c hk
    rcases gAll_cases (γ := γ) (H := H) L k with ⟨p, hp, h1, h2, h3⟩ | ⟨h1, h2, h3⟩
    · rw [h2] at hk
      have h4 := h.rng p hp b c (by simpa using hk)
      have := hi.size
      exact ⟨.inl (by omega), h4.2⟩
    · rw [h2] at hk
      exact ⟨(hi.rng k b c hk).1, Nat.lt_of_lt_of_le (hi.rng k b c hk).2 g.size⟩
  · intro k k' b c c' hk hk'
    rcases gAll_cases (γ := γ) (H := H) L k with ⟨p, hp, h1, h2, h3⟩ | ⟨h1, h2, h3⟩ <;> rcases gAll_cases (γ := γ) (H := H) L k' with ⟨q, hq, g1, g2, g3⟩ | ⟨g1, g2, g3⟩
    · rw [h2] at hk
      rw [g2] at hk'
      rcases pair_eq h.dis hp hq with rfl | h4 | h4
      · exact h1.symm.trans g1
      · exact absurd (by simpa using hk') (h4.2 b c c' (by simpa using hk))
      · exact absurd (by simpa using hk) (h4.2 b c' c (by simpa using hk'))
    · rw [h2] at hk
      rw [g2] at hk'
      have h4 := (h.rng p hp b c (by simpa using hk)).1
      have h5 := (hi.rng k' b c' hk').2
      omega
    · rw [h2] at hk
      rw [g2] at hk'
      have h4 := (h.rng q hq b c' (by simpa using hk')).1
      have h5 := (hi.rng k b c hk).2
      omega
    · rw [h2] at hk
      rw [g2] at hk'
      exact hi.inj k k' b c c' hk hk'
  · intro y uu hr hv
    have keys : ∀ j, j ∉ L.map (·.1) → (∀ p ∈ L, p.1 ≠ j) := fun j hj p hp e => hj (List.mem_map.2 ⟨p, hp, e⟩)
    have hmem : ∀ (M : List Ent) (k : Nat), k ∈ M.map (·.1) → ∃ o, (k, o) ∈ obsOf M := by
      intro M
      induction M with
      | nil => intro k hk; simp at hk
      | cons a M ih =>
        intro k hk
        obtain ⟨k0, o0, i0⟩ := a
        simp only [List.map_cons, List.mem_cons] at hk
        rcases hk with rfl | hk
        · exact ⟨o0, by simp [obsOf]⟩
        · obtain ⟨o, ho⟩ := ih k hk
          exact ⟨o, by simp [obsOf, ho]⟩
    refine VR.key (ks := L.map (·.1)) ?_ ?_ y uu ?_ (VR.mono hold y uu hv)
    · intro j hj
      rcases gAll_cases (γ := γ) (H := H) L j with ⟨p, hp, h1, _⟩ | ⟨_, h2, _⟩
      · exact absurd h1 (keys j hj p hp)
      · exact h2
    · intro j hj
      rcases gAll_cases (γ := γ) (H := H) L j with ⟨p, hp, h1, _⟩ | ⟨_, _, h2⟩
      · exact absurd h1 (keys j hj p hp)
      · exact h2
    · intro k hk
      obtain ⟨o, ho⟩ := hmem L k hk
      exact hr _ ho

theorem obsOf_mem : ∀ {L : List Ent} {p : Ent}, p ∈ L → (p.1, p.2.1) ∈ obsOf L
  | [], p, h => by cases h
  | (k, o, i) :: L, p, h => by
    simp only [obsOf, List.mem_cons]
    rcases List.mem_cons.1 h with rfl | h
    · exact .inl rfl
    · exact .inr (obsOf_mem h)

/-! ### What a call gives back, in the caller -/

def ret1L (key : Nat) (r : Ret1) (i : Info) : List Ent :=
  match r with
  | .fresh e xs nilE => [(key, .arr e xs nilE, i)]
  | _ => []
def retL (key : Nat) : List Ret1 → List Info → List Ent
  | r :: rs, i :: is => ret1L (key + 10000) r i ++ retL (key + 10000) rs is
  | _, _ => []

theorem obsOf_append : ∀ (a b : List Ent), obsOf (a ++ b) = obsOf a ++ obsOf b
  | [], _ => rfl
  | (k, o, i) :: a, b => by simp [obsOf, obsOf_append a b]

theorem obsOf_ret1L (key : Nat) (r : Ret1) (i : Info) : obsOf (ret1L key r i) = retO key r := by
  cases r <;> rfl

theorem obsOf_retL : ∀ (key : Nat) (rs : List Ret1) (is : List Info), rs.length = is.length → obsOf (retL key rs is) = retOs key rs
  | _, [], [], _ => rfl
  | key, r :: rs, i :: is, h => by simp [retL, retOs, obsOf_append, obsOf_ret1L, obsOf_retL (key + 10000) rs is (by simpa using h)]
  | _, [], _ :: _, h => by simp at h
  | _, _ :: _, [], h => by simp at h

theorem RetRs.lengths {w w' : World} {A : Nat → Prop} : ∀ {rs : List Ret1} {is : List Info} {us : List Value}, RetRs w w' A rs is us → rs.length = is.length ∧ rs.length = us.length
  | [], [], [], _ => ⟨rfl, rfl⟩
  | r :: rs, i :: is, u :: us, h => by
    have := RetRs.lengths h.2.2
    simp [← this.1, ← this.2]
  | [], [], _ :: _, h => h.elim
  | [], _ :: _, _, h => h.elim
  | _ :: _, [], _, h => h.elim
  | _ :: _, _ :: _, [], h => h.elim

theorem retL_mem : ∀ {key : Nat} {rs : List Ret1} {is : List Info} {p : Ent}, p ∈ retL key rs is → key + 10000 ≤ p.1 ∧ p.2.2 ∈ is
  | key, r :: rs, i :: is, p, h => by
    simp only [retL, List.mem_append] at h
    rcases h with h | h
    · cases r <;> simp [ret1L] at h
      subst h
      simp
    · have := retL_mem h
      exact ⟨by omega, by simp [this.2]⟩
  | _, [], _, p, h => by simp [retL] at h
  | _, _ :: _, [], p, h => by simp [retL] at h

theorem RetRs.rng {x : Cx} {γ : Gam} {w w' : World} {A : Nat → Prop} : ∀ {rs : List Ret1} {is : List Info} {us : List Value} {key : Nat}, RetRs w w' A rs is us →
    (∀ p ∈ retL key rs is, (∀ b c, p.2.2 = .at b c → w.heap.size ≤ b ∧ b < w'.heap.size) ∧ objR w' A p.2.1 p.2.2)
  | [], [], [], key, _, p, hp => by simp [retL] at hp
  | r :: rs, i :: is, u :: us, key, h, p, hp => by
    simp only [retL, List.mem_append] at hp
    rcases hp with hp | hp
    · cases r <;> simp [ret1L] at hp
      subst hp
      exact ⟨h.1.2.2, h.1.1⟩
    · exact RetRs.rng (x := x) (γ := γ) h.2.2 p hp
  | [], [], _ :: _, _, h, _, _ => h.elim
  | [], _ :: _, _, _, h, _, _ => h.elim
  | _ :: _, [], _, _, h, _, _ => h.elim
  | _ :: _, _ :: _, [], _, h, _, _ => h.elim

theorem RetRs.dis {w w' : World} {A : Nat → Prop} : ∀ {rs : List Ret1} {is : List Info} {us : List Value} {key : Nat}, RetRs w w' A rs is us →
    (retL key rs is).Pairwise fun p q => p.1 ≠ q.1 ∧ ∀ b c c', p.2.2 = .at b c → q.2.2 ≠ .at b c'
  | [], [], [], key, _ => by simp [retL]
  | r :: rs, i :: is, u :: us, key, h => by
    simp only [retL]
    have ih := RetRs.dis (key := key + 10000) h.2.2
    cases r with
    | fresh e xs nilE =>
      simp only [ret1L, List.singleton_append, List.pairwise_cons]
      refine ⟨fun q hq => ?_, ih⟩
      have := retL_mem hq
      exact ⟨by show key + 10000 ≠ q.1; omega, fun b c c' hb => h.2.1 b c hb _ this.2 c'⟩
    | val c => simpa [ret1L] using ih
    | agg cs => simpa [ret1L] using ih
  | [], [], _ :: _, _, h => h.elim
  | [], _ :: _, _, _, h => h.elim
  | _ :: _, [], _, _, h => h.elim
  | _ :: _, _ :: _, [], _, h => h.elim

theorem ret1_VR {x : Cx} {γ : Gam} {H : Heap} {w w' : World} {A : Nat → Prop} {L : List Ent} {r : Ret1} {i : Info} {u : Value} {key : Nat} (hn : News x γ w w' L) (hA : ∀ b, A b → Av x (gAll γ L) w' b)
    (h : RetR1 w w' A r i u) (hm : ∀ p ∈ ret1L key r i, p ∈ L) : VR1 (gAll γ L) w' (Av x (gAll γ L) w') (updAll H (obsOf L)) (retV key r) u := by
  have hA' : ∀ b, A b → Av x (gAll γ L) w' b ∧ w'.heap[b]? = w'.heap[b]? := fun b hb => ⟨hA b hb, rfl⟩
  cases r with
  | val c => exact CR.mono hA' c u h
  | agg cs =>
    obtain ⟨vs, h1, h2⟩ := h
    exact ⟨vs, h1, h2.mono (CR.mono hA')⟩
  | fresh e xs nilE =>
    have hp := hm (key, .arr e xs nilE, i) (by simp [ret1L])
    have h1 := hn.at_ (H := H) hp
    exact ⟨i, e, xs, nilE, h1.1, h1.2, h.2.1⟩

theorem RetRs.VRs {x : Cx} {γ : Gam} {H : Heap} {w w' : World} {A : Nat → Prop} {L : List Ent} (hn : News x γ w w' L) (hA : ∀ b, A b → Av x (gAll γ L) w' b) :
    ∀ {rs : List Ret1} {is : List Info} {us : List Value} {key : Nat}, RetRs w w' A rs is us → (∀ p ∈ retL key rs is, p ∈ L) →
      All2 (VR1 (gAll γ L) w' (Av x (gAll γ L) w') (updAll H (obsOf L))) (retVs key rs) us
  | [], [], [], key, _, _ => trivial
  | r :: rs, i :: is, u :: us, key, h, hm =>
    ⟨ret1_VR hn hA h.1 (fun p hp => hm p (by simp [retL, hp])), RetRs.VRs hn hA h.2.2 (fun p hp => hm p (by simp [retL, hp]))⟩
  | [], [], _ :: _, _, h, _ => h.elim
  | [], _ :: _, _, _, h, _ => h.elim
  | _ :: _, [], _, _, h, _ => h.elim
  | _ :: _, _ :: _, [], _, h, _ => h.elim

theorem Res.call {x : Cx} {γ : Gam} {H : Heap} {w w' : World} {A0 : Nat → Prop} {ret : Ret} {u : Value} {key : Nat} (hi : Inv x γ H w) (g : Grows w w')
    (hA0 : (∀ b, b < w.heap.size → A0 b → Av x γ w b) ∨ ret.any Ret1.hasSl = false) (h : RetR w w' A0 ret u) : Res x γ H w (retAll key ret).1 (retAll key ret).2 u w' := by
  intro hlo
  obtain ⟨is, us, rfl, h0⟩ := h
  have h1 : RetRs w w' (newA w w' (Av x γ w) is) ret is us := by
    rcases hA0 with hA0 | hA0
    · exact h0.map fun r hr i u hx => hx.mono fun b hb => ⟨hb.1, fun hlt => hA0 b hlt (hb.2.1 hlt), hb.2.2⟩
    · refine h0.map fun r hr i u hx => RetR1.noSl r i u ?_ hx
      cases hs : r.hasSl
      · rfl
      · have : ret.any Ret1.hasSl = true := List.any_eq_true.2 ⟨r, hr, hs⟩
        rw [hA0] at this
        cases this
  have hlen := h1.lengths
  have main : ∀ (L : List Ent), (∀ p ∈ obsOf L, p.1 < pinLo) → News x γ w w' L → (∀ p ∈ L, objR w' (newA w w' (Av x γ w) is) p.2.1 p.2.2) → (∀ p ∈ L, p.2.2 ∈ is) →
      (Inv x (gAll γ L) (updAll H (obsOf L)) w' ∧ (∀ y uu, (∀ p ∈ obsOf L, refs p.1 y = false) → VR γ w (Av x γ w) H y uu → VR (gAll γ L) w' (Av x (gAll γ L) w') (updAll H (obsOf L)) y uu)) ∧
      ∀ b, newA w w' (Av x γ w) is b → Av x (gAll γ L) w' b := by
    intro L hlo hn hob hsub
    have hw : ∀ b, newA w w' (Av x γ w) is b → newA w w' (Av x γ w) (L.map (·.2.2)) b := fun b hb => ⟨hb.1, hb.2.1, fun i hm => by
      obtain ⟨p, hp, rfl⟩ := List.mem_map.1 hm
      exact hb.2.2 _ (hsub p hp)⟩
    refine ⟨hi.news g hn (fun p hp => hlo _ (obsOf_mem hp)) fun p hp => objR.mono (fun b hb => ⟨hw b hb, rfl⟩) _ _ (fun _ _ _ => rfl) (hob p hp), fun b hb => ?_⟩
    exact hn.av g hi.size b (hw b hb) (fun k c hk => (hi.rng k b c hk).2)
  match ret, is, us, h1, hlen with
  | [r], [i], [u], h1, _ =>
    have hn : News x γ w w' (ret1L key r i) := by
      refine ⟨fun p hp => ?_, ?_⟩
      · cases r <;> simp [ret1L] at hp
        subst hp
        exact h1.1.2.2
      · cases r <;> simp [ret1L]
    obtain ⟨⟨h2, h3⟩, h4⟩ := main (ret1L key r i) (by rw [obsOf_ret1L]; exact hlo) hn (fun p hp => by
      cases r <;> simp [ret1L] at hp
      subst hp
      exact h1.1.1) (fun p hp => by
      cases r <;> simp [ret1L] at hp
      subst hp
      simp)
    have hv := ret1_VR (H := H) (key := key) hn h4 h1.1 (fun p hp => hp)
    rw [obsOf_ret1L] at h2 h3 hv
    refine ⟨_, h2, ?_, h3⟩
    have : (retAll key [r]).1 = retV key r := rfl
    rw [this]
    cases r <;> exact hv
  | [], [], [], h1, _ =>
    exact ⟨γ, hi.grows g, ⟨[], rfl, trivial⟩, fun y uu _ hv => VR.mono (Av.grows g) y uu hv⟩
  | r :: r' :: rs, i :: i' :: is, u :: u' :: us, h1, hlen =>
    have hn : News x γ w w' (retL key (r :: r' :: rs) (i :: i' :: is)) := ⟨fun p hp => (RetRs.rng (x := x) (γ := γ) h1 p hp).1, h1.dis⟩
    obtain ⟨⟨h2, h3⟩, h4⟩ := main _ (by rw [obsOf_retL _ _ _ hlen.1]; exact hlo) hn (fun p hp => (RetRs.rng (x := x) (γ := γ) h1 p hp).2) (fun p hp => (retL_mem hp).2)
    have hv := RetRs.VRs (H := H) (key := key) hn h4 h1 (fun p hp => hp)
    rw [obsOf_retL _ _ _ hlen.1] at h2 h3 hv
    exact ⟨_, h2, ⟨_, rfl, hv⟩, h3⟩

end Go.Vi
