/-
  Vi: '==' on structs of numbers and bools.
-/
import Derived.Test.YtombednapelokaaViO
import Derived.Laws.StructEq
set_option linter.unusedVariables false
set_option linter.unusedSimpArgs false
namespace Go.Vi

def eqFs (f : TypeId → Sh → Bool) : Nat → List Field → Sh → Bool
  | off, [a], s => Nat.beq a.offset off && decide (a.name ≠ "_") && f a.type s
  | off, a :: b :: r, .pair s s' => Nat.beq a.offset off && decide (a.name ≠ "_") && f a.type s && eqFs f (off + s.nc) (b :: r) s'
  | _, _, _ => false

def eqB (P : Program) : Nat → TypeId → Sh → Bool
  | 0, _, _ => false
  | n + 1, t, s =>
    baseB P t s &&
    match P.underlying t, s with
    | some (.int _), .int _ => true
    | some .bool, .bool => true
    | some (.struct fs), .pair a b => !P.stoodInHeld t && Nat.ble 2 fs.size && eqFs (eqB P n) 0 fs.toList (.pair a b)
    | _, _ => false

theorem eqCs_append : ∀ {a b c d : List C} {r : Bool}, a.length = b.length → eqCs (a ++ c) (b ++ d) = some r → ∃ p q, eqCs a b = some p ∧ eqCs c d = some q ∧ r = (p && q)
  | [], [], c, d, r, _, h => ⟨true, r, rfl, by simpa using h, by simp⟩
  | x :: a, y :: b, c, d, r, hl, h => by
    have hl' : a.length = b.length := by simpa using hl
    cases x with
    | int k m =>
      cases y <;> simp only [List.cons_append, eqCs] at h
      all_goals first | (cases h; done) | skip
      rename_i k' m'
      split at h
      · rename_i hk
        simp only [Option.map_eq_some_iff] at h
        obtain ⟨r', h1, rfl⟩ := h
        obtain ⟨p, q, h2, h3, rfl⟩ := eqCs_append hl' h1
        exact ⟨(m == m') && p, q, by simp [eqCs, hk, h2], h3, by simp [Bool.and_assoc]⟩
      · cases h
    | bool m =>
      cases y <;> simp only [List.cons_append, eqCs] at h
      all_goals first | (cases h; done) | skip
      rename_i m'
      simp only [Option.map_eq_some_iff] at h
      obtain ⟨r', h1, rfl⟩ := h
      obtain ⟨p, q, h2, h3, rfl⟩ := eqCs_append hl' h1
      exact ⟨(m == m') && p, q, by simp [eqCs, h2], h3, by simp [Bool.and_assoc]⟩
    | str m => simp [eqCs] at h
    | sl e xs t => simp [eqCs] at h
  | [], _ :: _, _, _, _, hl, _ => by simp at hl
  | _ :: _, [], _, _, _, hl, _ => by simp at hl

theorem ofC_length : ∀ {s : Sh} {cs : List C}, (ofC s cs).isSome = true → cs.length = s.nc
  | .int k, cs, h => by
    match cs, h with
    | [.int _ _], _ => rfl
  | .bool, cs, h => by
    match cs, h with
    | [.bool _], _ => rfl
  | .str, cs, h => by
    match cs, h with
    | [.str _], _ => rfl
  | .unit, cs, h => by
    match cs, h with
    | [], _ => rfl
  | .sl e, cs, h => by
    match cs, h with
    | [.sl _ _ _], _ => rfl
  | .pair a b, cs, h => by
    simp only [ofC] at h
    split at h
    · rename_i x y h1 h2
      have l1 := ofC_length (s := a) (cs := cs.take a.nc) (by simp [h1])
      have l2 := ofC_length (s := b) (cs := cs.drop a.nc) (by simp [h2])
      simp only [List.length_take, List.length_drop] at l1 l2
      simp only [Sh.nc]
      omega
    · cases h

theorem ofC_pair {a b : Sh} {cs : List C} (h : (ofC (.pair a b) cs).isSome = true) : (ofC a (cs.take a.nc)).isSome = true ∧ (ofC b (cs.drop a.nc)).isSome = true := by
  simp only [ofC] at h
  split at h
  · rename_i x y h1 h2
    exact ⟨by simp [h1], by simp [h2]⟩
  · cases h

section
variable {P : Program} {w : World} {A : Nat → Prop}

/-- The value that is made of cells. -/
def mkVal (s : Sh) (vs : List Value) : Value := if s.agg = true then .agg vs.toArray else vs.getD 0 undef

theorem run_part {t : TypeId} {s : Sh} (hb : Base P t s) {vs : List Value} {off : Nat} (hl : off + s.nc ≤ vs.length) :
    (part t vs.toArray off).run P w = .ok (mkVal s ((vs.drop off).take s.nc)) w := by
  obtain ⟨i, d, z, hi, hd, hsz, hby, hz, hzz, ha⟩ := hb.ex
  unfold part mkVal
  simp only [Sem.run_bind, run_isAgg hd, Result.andThen_ok, ha]
  by_cases hag : s.agg = true
  · simp only [hag, if_true, Sem.run_bind, run_sizeOf' hi, Result.andThen_ok, Sem.run_pure, hsz]
    congr 2
    simp [List.extract_eq_take_drop]
  · have h1 := nc_one (by simpa using hag)
    have hlt : off < vs.length := by omega
    simp only [hag, Bool.false_eq_true, if_false]
    have : vs.toArray[off]? = some vs[off] := by simp [hlt]
    simp only [this, Sem.run_pure, h1]
    congr 1
    simp [List.getD, List.getElem?_take, List.getElem?_drop, hlt]

theorem eqFs_run {f : TypeId → Sh → Bool} {d : Nat} (hf : ∀ t s, f t s = true → Base P t s ∧ ∀ (cs cs' : List C) (vs vs' : List Value) (b : Bool), All2 (CR w A) cs vs → All2 (CR w A) cs' vs' → (ofC s cs).isSome = true → (ofC s cs').isSome = true →
      eqCs cs cs' = some b → (Op.equalIn d t (mkVal s vs) (mkVal s vs')).run P w = .ok b w) {us us' : List Value} {n : Nat} :
    ∀ (fs : List Field) (off : Nat) (s : Sh), eqFs f off fs s = true → ∀ (cs cs' : List C) (b : Bool), All2 (CR w A) cs ((us.drop off).take s.nc) → All2 (CR w A) cs' ((us'.drop off).take s.nc) → (ofC s cs).isSome = true → (ofC s cs').isSome = true →
      off + s.nc = us.length → off + s.nc = us'.length → eqCs cs cs' = some b → (Op.eqFields d us.toArray us'.toArray fs).run P w = .ok b w
  | [], off, s, h, _, _, _, _, _, _, _, _, _, _ => by simp [eqFs] at h
  | [a], off, s, h, cs, cs', b, h1, h2, hl, hl', hs, hs', hb => by
    simp only [eqFs, Bool.and_eq_true, decide_eq_true_eq] at h
    obtain ⟨⟨h3, h4⟩, h5⟩ := h
    obtain ⟨hba, hrun⟩ := hf _ _ h5
    have ho := Nat.eq_of_beq_eq_true h3
    have p1 := run_part (w := w) hba (vs := us) (off := off) (by omega)
    have p2 := run_part (w := w) hba (vs := us') (off := off) (by omega)
    have p3 := hrun cs cs' _ _ b h1 h2 hl hl' hb
    rw [Op.eqFields, if_pos h4, ho, Sem.run_bind, p1, Result.andThen_ok, Sem.run_bind, p2, Result.andThen_ok, Sem.run_bind, p3, Result.andThen_ok]
    cases b <;> simp [Op.eqFields]
  | a :: a' :: r, off, s, h, cs, cs', b, h1, h2, hl, hl', hs, hs', hb => by
    cases s with
    | pair s s' =>
      simp only [eqFs, Bool.and_eq_true, decide_eq_true_eq] at h
      obtain ⟨⟨⟨h3, h4⟩, h5⟩, h6⟩ := h
      obtain ⟨hba, hrun⟩ := hf _ _ h5
      have ho := Nat.eq_of_beq_eq_true h3
      obtain ⟨o1, o2⟩ := ofC_pair hl
      obtain ⟨o1', o2'⟩ := ofC_pair hl'
      have hl := ofC_length hl
      have hl' := ofC_length hl'
      simp only [Sh.nc] at hl hl' hs hs' h1 h2
      rw [← List.take_append_drop s.nc cs, ← List.take_append_drop s.nc cs'] at hb
      obtain ⟨p, q, hp, hq, rfl⟩ := eqCs_append (by simp; omega) hb
      have t1 := h1.take s.nc
      have t2 := h2.take s.nc
      rw [List.take_take, Nat.min_eq_left (by omega)] at t1 t2
      have d1 := h1.drop s.nc
      have d2 := h2.drop s.nc
      rw [List.drop_take, List.drop_drop, Nat.add_sub_cancel_left] at d1 d2
      have r1 := hrun _ _ _ _ p t1 t2 o1 o1' hp
      have r2 := eqFs_run hf (n := n) (a' :: r) (off + s.nc) s' h6 (cs.drop s.nc) (cs'.drop s.nc) q d1 d2 o2 o2' (by omega) (by omega) hq
      have p1 := run_part (w := w) hba (vs := us) (off := off) (by omega)
      have p2 := run_part (w := w) hba (vs := us') (off := off) (by omega)
      rw [Op.eqFields, if_pos h4, ho, Sem.run_bind, p1, Result.andThen_ok, Sem.run_bind, p2, Result.andThen_ok, Sem.run_bind, r1, Result.andThen_ok]
      cases p
      · simp
      · simp [r2]
    | _ => simp [eqFs] at h

theorem eqB_run : ∀ (n : Nat) (t : TypeId) (s : Sh), eqB P n t s = true → Base P t s ∧ ∀ (d : Nat) (cs cs' : List C) (vs vs' : List Value) (b : Bool), All2 (CR w A) cs vs → All2 (CR w A) cs' vs' → (ofC s cs).isSome = true → (ofC s cs').isSome = true →
      eqCs cs cs' = some b → (Op.equalIn (n + d) t (mkVal s vs) (mkVal s vs')).run P w = .ok b w
  | 0, _, _, h => by simp [eqB] at h
  | n + 1, t, s, h => by
    simp only [eqB, Bool.and_eq_true] at h
    obtain ⟨h1, h2⟩ := h
    refine ⟨baseB_base h1, ?_⟩
    intro d cs cs' vs vs' b hv hv' hl hl' hb
    split at h2
    · rename_i k k' hu
      match cs, cs', hl, hl' with
      | [.int _ _], [.int _ _], _, _ =>
        obtain ⟨u, rfl, hu1⟩ := hv.one
        obtain ⟨u', rfl, hu2⟩ := hv'.one
        simp [eqCs] at hb
        obtain ⟨rfl, rfl⟩ := hb
        rw [show u = _ from hu1, show u' = _ from hu2, show n + 1 + d = (n + d) + 1 by omega]
        simp only [mkVal, Sh.agg, Bool.false_eq_true, if_false, List.getD_cons_zero]
        first
          | exact run_equalIn_int w _ t _ _ _ _ hu
          | simp [Op.equalIn, run_underlying hu]
    · rename_i hu
      match cs, cs', hl, hl' with
      | [.bool _], [.bool _], _, _ =>
        obtain ⟨u, rfl, hu1⟩ := hv.one
        obtain ⟨u', rfl, hu2⟩ := hv'.one
        simp [eqCs] at hb
        all_goals
          rw [show u = _ from hu1, show u' = _ from hu2, show n + 1 + d = (n + d) + 1 by omega]
          simp only [mkVal, Sh.agg, Bool.false_eq_true, if_false, List.getD_cons_zero]
          first
            | (subst hb; exact run_equalIn_bool w _ t _ _ hu)
            | simp [Op.equalIn, run_underlying hu]
    · rename_i fs sa sb hu
      simp only [Bool.and_eq_true, Bool.not_eq_true'] at h2
      obtain ⟨⟨h3, h4⟩, h5⟩ := h2
      have hfo : P.fieldsOf t = fs := by simp [Program.fieldsOf, hu]
      have hl1 := hv.length
      have hl2 := hv'.length
      have hl3 := ofC_length hl
      have hl4 := ofC_length hl'
      rw [show n + 1 + d = (n + d) + 1 by omega]
      simp only [mkVal, Sh.agg, if_true]
      rw [run_equalIn_struct w (n + d) t _ _ (by rw [hfo]; exact hu) h3, hfo]
      refine eqFs_run (A := A) (n := 0) (f := eqB P n) (fun t s hts => ?_) fs.toList 0 (.pair sa sb) h5 cs cs' b ?_ ?_ hl hl' (by omega) (by omega) hb
      · have := eqB_run n t s hts
        exact ⟨this.1, fun cs cs' vs vs' b => this.2 d cs cs' vs vs' b⟩
      · rw [List.drop_zero, List.take_of_length_le (by omega)]; exact hv
      · rw [List.drop_zero, List.take_of_length_le (by omega)]; exact hv'
    · cases h2

end
end Go.Vi
