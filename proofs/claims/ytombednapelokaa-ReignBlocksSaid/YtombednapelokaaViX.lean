/-
  Vi: a law's contract out of its contract in data: it returns true, and what it was handed reads as before.
-/
import Derived.Test.YtombednapelokaaViW
set_option linter.unusedVariables false
set_option linter.unusedSimpArgs false
namespace Go.Vi
open Go.ChangeShapes Go.WideShapes Go.ChangeAt Go.RowKit

section
variable {P : Program} {W W' : World} {H : Type} {enc : TypeId × Value → H} {A : Nat → Prop}

def pks (ss : List Sh) : List PK := ss.map .c

def rdArgs (P : Program) (n : Nat) : List TypeId → List Sh → Bool
  | [], [] => true
  | t :: ts, s :: ss => rdB P n t s && rdArgs P n ts ss
  | _, _ => false

def WfL : (ss : List Sh) → pksDen (pks ss) → Prop
  | [], _ => True
  | s :: ss, x => Wf s x.1 ∧ WfL ss x.2

theorem trodAll_args {n base : Nat} {r : Reach} {sp : Nat → Bool} {held : Bool} (hA : ∀ b, b < W.heap.size → A b) : ∀ {ts : List TypeId} {ss : List Sh} {vs : List Value} {ds : List (DataW H)} {ps : List MemPlace}, rdArgs P n ts ss = true →
    (∀ (j : Nat) t v, ts[j]? = some t → vs[j]? = some v → Value.okWide P W r base t v) → DataW.TrodAll enc P W 0 sp held ts vs ds ps →
    ∃ xs : pksDen (pks ss), All2 (VR noGam W A emp) (pksV (pks ss) xs) vs ∧ WfL ss xs
  | [], [], vs, ds, ps, _, _, h => by
    obtain ⟨rfl, _, _⟩ := trodAll_nil h
    exact ⟨(), trivial, trivial⟩
  | t :: ts, s :: ss, vs, ds, ps, hr, hv, h => by
    simp only [rdArgs, Bool.and_eq_true] at hr
    obtain ⟨v, vs', d, ds', p, q, rfl, rfl, rfl, h1, h2⟩ := trodAll_cons h
    obtain ⟨x, hx, hw⟩ := trod_arg hr.1 (hv 0 t v rfl rfl) h1 hA
    obtain ⟨xs, hxs, hws⟩ := trodAll_args hA hr.2 (fun j t v ht hv' => hv (j + 1) t v (by simpa using ht) (by simpa using hv')) h2
    exact ⟨(x, xs), ⟨hx, hxs⟩, hw, hws⟩
  | [], _ :: _, _, _, _, hr, _, _ => by cases hr
  | _ :: _, [], _, _, _, hr, _, _ => by cases hr

theorem pksArg_val : ∀ (ss : List Sh) (xs : pksDen (pks ss)), pksArg (pks ss) (pksV (pks ss) xs) = some xs
  | [], _ => rfl
  | s :: ss, xs => by
    have h1 : (PK.c s).arg ((PK.c s).val xs.1) = some xs.1 := valOf_val s xs.1
    have h2 := pksArg_val ss xs.2
    show ((PK.c s).arg ((PK.c s).val xs.1)).bind (fun x => (pksArg (pks ss) (pksV (pks ss) xs.2)).bind fun y => some (x, y)) = _
    rw [h1, h2]
    rfl

theorem Grows.below (h : Grows W W') : RowKit.Below W.heap.size W W' := ⟨h.os, h.tape, h.output, h.size, h.blk⟩

/-- The call returns true. -/
theorem law_calls {g : FuncId} {ss : List Sh} {t0 : Nat} {S : pksDen (pks ss) → Option Bool} (hfc : FCs P g (phiOf (pks ss) [.c .bool t0] S)) {xs : pksDen (pks ss)} (hS : S xs = some true) {args : Array Value} (hA : ∀ b, A b → b < W.heap.size)
    (ha : All2 (VR noGam W A emp) (pksV (pks ss) xs) args.toList) : Calls P g args W fun e W' => e = .returned (.bool true) ∧ Grows W W' := by
  have hrun : phiOf (pks ss) [RK.c .bool t0] S (pksV (pks ss) xs) Ret some = some [.val (.bool true)] := by
    unfold phiOf
    rw [pksArg_val]
    simp only [Option.bind_some, hS]
    rfl
  obtain ⟨ret, hret, hf⟩ := hfc _ _ _ _ hrun
  cases hret
  have := hf W A args.toList hA ha
  refine this.mono fun e w' he => ?_
  cases e with
  | returned u =>
    obtain ⟨hg, is, us, rfl, hr⟩ := he
    match is, us, hr with
    | [i], [u], hr =>
      have : u = .bool true := hr.1
      subst this
      exact ⟨rfl, hg⟩
    | _ :: _ :: _, _ :: us, hr => cases us <;> exact hr.2.2.elim
  | panicked _ => exact he.elim
  | outgrown => exact he.elim

theorem trodAll_stays (hl : laidOutB P = true) (hb : RowKit.Below W.heap.size W W') : ∀ {ts : List TypeId} {vs : List Value} {ds : List (DataW H)} {ps : List MemPlace}, (∀ t ∈ ts, P.readableRec t = true ∧ t < P.types.size) → (∀ x ∈ ps, x.block < W.heap.size) →
    DataW.TrodAll enc P W 0 (fun _ => true) true ts vs ds ps → DataW.TrodAll enc P W' 0 (fun b => decide (b < W.heap.size)) true ts vs ds ps
  | [], vs, ds, ps, _, _, h => by
    obtain ⟨rfl, rfl, rfl⟩ := trodAll_nil h
    rfl
  | t :: ts, vs, ds, ps, ht, hps, h => by
    obtain ⟨v, vs', d, ds', p, q, rfl, rfl, rfl, h1, h2⟩ := trodAll_cons h
    have := ht t (by simp)
    exact ⟨p, q, Below.trod hl this.1 this.2 h1 hb (fun x hx => hps x (List.mem_append.2 (.inl hx))), trodAll_stays hl hb (fun t' ht' => ht t' (List.mem_cons_of_mem _ ht')) (fun x hx => hps x (List.mem_append.2 (.inr hx))) h2, rfl⟩

/-- What a row asks of a call. -/
theorem law_post {g : FuncId} {fn : Func} {spec : ChangeSpec} {ss : List Sh} {t0 n base tb : Nat} {S : Nat × Nat → pksDen (pks ss) → Option Bool} (hfc : ∀ n, FCs P g (phiOf (pks ss) [.c .bool t0] (S n)))
    (hS : ∀ xs, WfL ss xs → ∃ n, S n xs = some true) (hl : laidOutB P = true) (hr : rdArgs P n fn.params.toList ss = true) (hts : fn.params.toList.all (fun t => P.readableRec t && decide (t < P.types.size)) = true)
    (hrt : fn.resultTypes = #[tb]) (hu : P.underlying tb = some .bool) (hvars : spec.vars = [])
    (hspec : ∀ (H : Type) (ds : List (DataW H)), ds.length = ss.length → spec.fn H ds = { results := [.lit (.bool true)], args := ds, vars := [] })
    {args : Array Value} {ds gs : List (DataW H)} {before : List MemPlace} (hval : ∀ (j : Nat) t v, fn.params[j]? = some t → args[j]? = some v → Value.okWide P W .any base t v)
    (hW : DataW.Whole enc P fn.params.toList spec.vars false W args.toList ds gs before) :
    Calls P g args W fun e W' => ∃ v, e = .returned v ∧ spec.post enc P fn false true false false W args v W' := by
  have hW' := hW
  obtain ⟨p, q, hA0, hV, rfl, hfz, hnd⟩ := hW
  have hlt : ∀ x ∈ p ++ q, x.block < W.heap.size := fun x hx => by simpa using hW'.lt x hx
  rw [hvars] at hV
  obtain ⟨rfl, rfl⟩ := trodVars_none hV
  obtain ⟨xs, hxs, hws⟩ := trodAll_args (A := fun b => b < W.heap.size) (fun b hb => hb) hr (fun j t v ht hv => hval j t v (by simpa using ht) (by simpa using hv)) hA0
  obtain ⟨m, hm⟩ := hS xs hws
  refine (law_calls (hfc m) hm (fun b hb => hb) hxs).mono fun e W' ⟨he, hg⟩ => ?_
  subst he
  have hlen : ds.length = ss.length := by
    have h1 : ∀ {ts : List TypeId} {vs : List Value} {ds : List (DataW H)} {ps : List MemPlace}, DataW.TrodAll enc P W 0 (fun _ => true) true ts vs ds ps → ds.length = ts.length := by
      intro ts
      induction ts with
      | nil =>
        intro vs ds ps h
        obtain ⟨_, rfl, _⟩ := trodAll_nil h
        rfl
      | cons t ts ih =>
        intro vs ds ps h
        obtain ⟨v, vs', d, ds', p, q, rfl, rfl, rfl, h1, h2⟩ := trodAll_cons h
        simp [ih h2]
    have h2 : ∀ {ts : List TypeId} {ss : List Sh}, rdArgs P n ts ss = true → ts.length = ss.length := by
      intro ts
      induction ts with
      | nil => intro ss h; cases ss <;> first | rfl | cases h
      | cons t ts ih =>
        intro ss h
        cases ss with
        | nil => cases h
        | cons s ss =>
          simp only [rdArgs, Bool.and_eq_true] at h
          simp [ih h.2]
    rw [h1 hA0, h2 hr]
  have hsp := hspec H (ds ++ []) (by simpa using hlen)
  refine ⟨_, rfl, ds, [], p ++ [], [], p, [], hW', ?_, ?_, ?_, hg.below.frame _, fun h => by cases h⟩
  · rw [hsp, hrt]
    exact trodAll_mk1 (shut_bool hu _)
  · rw [hsp]
    simp only [List.append_nil]
    refine trodAll_stays hl hg.below ?_ (fun x hx => hlt x (List.mem_append.2 (.inl hx))) hA0
    intro t ht
    have := List.all_eq_true.1 hts t ht
    simp only [Bool.and_eq_true, decide_eq_true_eq] at this
    exact this
  · rw [hsp, hvars]
    rfl

end
end Go.Vi
