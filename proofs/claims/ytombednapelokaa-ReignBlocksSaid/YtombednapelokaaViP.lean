/-
  Vi: operations that change nothing that is there: each comes to what the interpreter says. Part 1.
-/
import Derived.Test.YtombednapelokaaViQ
import Derived.Laws.Cover3
set_option linter.unusedVariables false
set_option linter.unusedSimpArgs false
namespace Go.Vi

def eqsB (P : Program) (p : Nat × Sh) : Bool := p.2.agg && eqB P 8 p.1 p.2 && !(P.eqGuardType P.depth p.1)

structure EqsOK (P : Program) (T : Tab) : Prop where
  ok : ∀ t s, look T.eqs t = some s → eqsB P (t, s) = true

section
variable {P : Program} {E : Env} {o : Oper} {ρv : Val} {H : Heap} {ρ : Type} {K : V → List (Nat × O) → Option ρ} {r : ρ} {x : Cx} {γ : Gam} {w : World} {a : Act}

/-- What is to be shown of each. -/
def Good (P : Program) (o : Oper) (H : Heap) {ρ : Type} (K : V → List (Nat × O) → Option ρ) (r : ρ) (x : Cx) (γ : Gam) (w : World) (a : Act) : Prop :=
  ∃ v obs, K v obs = some r ∧ OpTo P o a w (Res x γ H w v obs)

/-- The operands' values are as the interpreter has them. -/
def Ops (ρv : Val) (H : Heap) (x : Cx) (γ : Gam) (w : World) (a : Act) : Prop := ∀ y v, ρv y = some v → VR γ w (Av x γ w) H v (a.eval y)

theorem good_same {v : V} {u : Value} (hK : K v [] = some r) (hi : Inv x γ H w) (hrun : (execOp a.eval o).run P w = .ok (.value u) w) (hv : VR γ w (Av x γ w) H v u) : Good P o H K r x γ w a :=
  ⟨v, [], hK, .inl ⟨u, w, hrun, Res.same hi hv⟩⟩

theorem isNil_eq {y : Operand} (h : isNil y = true) : y = .const (.slice none 0 0) := by
  unfold isNil at h
  split at h
  · rfl
  · cases h

theorem cond_none {α : Type} {b : Bool} {y z : Option α} {r : α} (h : (bif b then y else z) = some r) (hy : y = none) : b = false ∧ z = some r := by
  cases b
  · exact ⟨rfl, h⟩
  · simp [hy] at h

theorem P_move {y : Operand} (ho : o.op = .move y ∨ o.op = .assign y) (h : evalP E o ρv H ρ K = some r) (hi : Inv x γ H w) (hv : Ops ρv H x γ w a) : Good P o H K r x γ w a := by
  have hrun : (execOp a.eval o).run P w = .ok (.value (a.eval y)) w := by
    rcases ho with ho | ho <;> simp only [execOp, ho, Sem.run_pure]
  rcases ho with ho | ho
  all_goals
    simp only [evalP, ho] at h
    cases hn : isNil y with
    | true =>
      rw [hn] at h
      simp only [cond_true] at h
      split at h
      · rename_i e he
        have hy := isNil_eq hn
        subst hy
        refine ⟨_, _, h, .inl ⟨_, w, hrun, Res.new (i := .emp) hi (Grows.refl w) (by simp) rfl ?_⟩⟩
        exact ⟨.emp, e, [], true, by simp [gset], by simp [upd], none, rfl, by simp, rfl, by simp⟩
      · cases h
    | false =>
      rw [hn] at h
      simp only [cond_false] at h
      split at h
      · rename_i v hv'
        obtain ⟨_, h⟩ := cond_none h rfl
        exact good_same h hi hrun (hv y v hv')
      · cases h

theorem VR_bool {b : Bool} {u : Value} (h : VR γ w (Av x γ w) H (.c (.bool b)) u) : u = .bool b := h
theorem VR_int {k : IntKind} {n : Int} {u : Value} (h : VR γ w (Av x γ w) H (.c (.int k n)) u) : u = .int k n := h

theorem P_pick {c y z : Operand} (ho : o.op = .pick c y z) (h : evalP E o ρv H ρ K = some r) (hi : Inv x γ H w) (hv : Ops ρv H x γ w a) : Good P o H K r x γ w a := by
  simp only [evalP, ho] at h
  split at h
  · rename_i p q s h1 h2 h3
    have e1 := VR_bool (hv _ _ h1)
    have e2 := VR_bool (hv _ _ h2)
    have e3 := VR_bool (hv _ _ h3)
    refine good_same h hi (u := .bool (bif p then q else s)) ?_ rfl
    simp only [execOp, ho, e1, e2, e3, asBool, Sem.run_bind, Sem.run_pure, Result.andThen_ok]
    cases p <;> rfl
  · cases h

theorem heap_new (w : World) (ob : Obj) : (w.alloc ob).heap[w.heap.size]? = some ob := heap_alloc_new w ob

theorem zero_run {t : TypeId} {s : Sh} (hs : Base P t s) : ∃ z, (zeroValue t).run P w = .ok z w ∧ zeroB (cells s (zero s)) z.cells.toList = true := by
  obtain ⟨i, d, z, hi, hd, hsz, hby, hz, hzz, ha⟩ := hs.ex
  exact ⟨z, by simp [zeroValue, typeInfo, hi, hz], hzz⟩

theorem info_run {t : TypeId} {i : TypeInfo} (hi : P.info? t = some i) : (typeInfo t).run P w = .ok i w := by
  simp [typeInfo, hi]

theorem good_box {t : TypeId} {cs : List C} {u : Value} (hK : K (.ptr (dstKey o.dst) 0) [(dstKey o.dst, .box cs)] = some r) (hi : Inv x γ H w)
    (hrun : (execOp a.eval o).run P w = .ok (.value (.pointer (some ⟨w.heap.size, 0, none⟩))) (w.alloc (.cells u.cells t)))
    (hc : All2 (CR w (Av x γ w)) cs u.cells.toList) : Good P o H K r x γ w a := by
  refine ⟨_, _, hK, .inl ⟨_, _, hrun, Res.new (i := .at w.heap.size 0) hi (Grows.alloc w _) (by simp) ?_ ?_⟩⟩
  · exact ⟨u.cells, t, heap_new w _, hc.mono (CR.mono (Av.set (by simp) (Grows.alloc w _)))⟩
  · exact ⟨w.heap.size, 0, by simp [gset], rfl⟩

theorem P_alloc {t : TypeId} (hT : TabOK P E.T) (ho : o.op = .alloc t) (h : evalP E o ρv H ρ K = some r) (hi : Inv x γ H w) : Good P o H K r x γ w a := by
  simp only [evalP, ho] at h
  split at h
  · rename_i s hs
    obtain ⟨z, hz, hzz⟩ := zero_run (w := w) (hT.sh t s hs).base
    refine good_box (t := t) (u := z) h hi ?_ (zeroB_all2 hzz)
    simp only [execOp, ho, Instr.alloc, Sem.run_bind, hz, Result.andThen_ok, run_newVar, Sem.run_pure]
  · cases h

theorem P_box {t : TypeId} {y : Operand} (hT : TabOK P E.T) (ho : o.op = .box t y) (h : evalP E o ρv H ρ K = some r) (hi : Inv x γ H w) (hv : Ops ρv H x γ w a) : Good P o H K r x γ w a := by
  simp only [evalP, ho] at h
  split at h
  · rename_i s cs hs hcs
    cases hd : decide (cs.length = s.nc) with
    | false => rw [hd] at h; cases h
    | true =>
      rw [hd] at h
      simp only [cond_true] at h
      obtain ⟨v, h1, h2⟩ := Option.bind_eq_some_iff.1 hcs
      refine good_box (t := t) (u := a.eval y) h hi ?_ (cellsOf_VR h2 (hv y v h1))
      simp only [execOp, ho, Instr.box, Sem.run_bind, Result.andThen_ok, run_newVar, Sem.run_pure]
  · cases h

theorem run_intBin {op : BinOp} {k k' : IntKind} {m n : Int} {Kn : Int → Option ρ} (hs : isShift op = false → k' = k) (hc : isShift op = true ∨ intCmp op m n = none) (h : intBin op k m n ρ Kn = some r) (t : TypeId) :
    ∃ c, Kn c = some r ∧ (binOp op t (.int k m) (.int k' n)).run P w = .ok (.int k c) w := by
  unfold intBin at h
  split at h
  · refine ⟨_, h, ?_⟩
    have := hs rfl
    subst this
    simp [binOp, Op.intArith]
  · refine ⟨_, h, ?_⟩
    have := hs rfl
    subst this
    simp [binOp, Op.intArith]
  · refine ⟨_, h, ?_⟩
    have := hs rfl
    subst this
    simp [binOp, Op.intArith]
  · have := hs rfl
    subst this
    cases hn : n == 0 with
    | true => rw [hn] at h; cases h
    | false =>
      rw [hn] at h
      refine ⟨_, h, ?_⟩
      have hn' : ¬ n = 0 := by simpa using hn
      simp [binOp, Op.intDiv, hn']
  · have := hs rfl
    subst this
    cases hn : n == 0 with
    | true => rw [hn] at h; cases h
    | false =>
      rw [hn] at h
      refine ⟨_, h, ?_⟩
      have hn' : ¬ n = 0 := by simpa using hn
      simp [binOp, Op.intDiv, hn']
  · refine ⟨_, h, ?_⟩
    have := hs rfl
    subst this
    simp [binOp, Op.intBits]
  · refine ⟨_, h, ?_⟩
    have := hs rfl
    subst this
    simp [binOp, Op.intBits]
  · cases hn : decide (n < 0) with
    | true => rw [hn] at h; cases h
    | false =>
      rw [hn] at h
      refine ⟨_, h, ?_⟩
      have hn' : ¬ n < 0 := by simpa using hn
      simp only [binOp, Op.shift, if_neg hn', Sem.run_pure]
  · cases hn : decide (n < 0) with
    | true => rw [hn] at h; cases h
    | false =>
      rw [hn] at h
      refine ⟨_, h, ?_⟩
      have hn' : ¬ n < 0 := by simpa using hn
      simp only [binOp, Op.shift, if_neg hn', Sem.run_pure]
  · cases h

theorem run_intCmp {op : BinOp} {k : IntKind} {m n : Int} {b : Bool} (h : intCmp op m n = some b) (t : TypeId) : (binOp op t (.int k m) (.int k n)).run P w = .ok (.bool b) w := by
  cases op <;> simp only [intCmp, Option.some.injEq, reduceCtorEq] at h
  all_goals
    subst h
    simp [binOp, Op.intCmp]

theorem exec_binOp {op : BinOp} {t t' : TypeId} {y z : Operand} (ho : o.op = .binOp op t y z t') {u : Value} (hg : (eqGuard op t y z (a.eval y) (a.eval z)).run P w = .ok () w)
    (hr : (binOp op t (a.eval y) (a.eval z)).run P w = .ok u w) : (execOp a.eval o).run P w = .ok (.value u) w := by
  simp only [execOp, ho, Sem.run_bind, hg, Result.andThen_ok, hr, Sem.run_pure]

theorem guard_int {op : BinOp} {t : TypeId} {y z : Operand} {k : IntKind} {n : Int} {u : Value} : (eqGuard op t y z (.int k n) u).run P w = .ok () w := by
  rw [eqGuard_at_int]; rfl
theorem guard_bool {op : BinOp} {t : TypeId} {y z : Operand} {b : Bool} {u : Value} : (eqGuard op t y z (.bool b) u).run P w = .ok () w := by
  rw [eqGuard_at_bool]; rfl
theorem guard_slice {op : BinOp} {t : TypeId} {y z : Operand} {ad : Option Addr} {l c : Nat} {u : Value} : (eqGuard op t y z (.slice ad l c) u).run P w = .ok () w := by
  cases op <;> rfl

theorem P_binOp {op : BinOp} {t t' : TypeId} {y z : Operand} (hT : TabOK P E.T) (hE : EqsOK P E.T)
    (ho : o.op = .binOp op t y z t') (h : evalP E o ρv H ρ K = some r) (hi : Inv x γ H w) (hv : Ops ρv H x γ w a) : Good P o H K r x γ w a := by
  simp only [evalP, ho, binop] at h
  split at h
  · -- numbers
    rename_i k m h1
    have e1 := VR_int (hv _ _ h1)
    split at h
    · rename_i k' n h2
      have e2 := VR_int (hv _ _ h2)
      cases hs : isShift op with
      | true =>
        rw [hs] at h
        simp only [cond_true] at h
        obtain ⟨c, hc, hr⟩ := run_intBin (P := P) (w := w) (k' := k') (by simp [hs]) (.inl hs) h t
        exact good_same hc hi (exec_binOp ho (by rw [e1]; exact guard_int) (by rw [e1, e2]; exact hr)) rfl
      | false =>
        rw [hs] at h
        simp only [cond_false] at h
        split at h
        · rename_i hk
          subst hk
          split at h
          · rename_i b hb
            exact good_same h hi (exec_binOp ho (by rw [e1]; exact guard_int) (by rw [e1, e2]; exact run_intCmp hb t)) rfl
          · rename_i hb
            obtain ⟨c, hc, hr⟩ := run_intBin (P := P) (w := w) (k' := k) (fun _ => rfl) (.inr hb) h t
            exact good_same hc hi (exec_binOp ho (by rw [e1]; exact guard_int) (by rw [e1, e2]; exact hr)) rfl
        · cases h
    · cases h
  · -- bools
    rename_i b h1
    have e1 := VR_bool (hv _ _ h1)
    split at h
    · rename_i c h2
      have e2 := VR_bool (hv _ _ h2)
      split at h
      · rename_i hb
        have hu := (hT.sh t _ hb).bool rfl
        have hrun := fun (op : BinOp) => run_equal_bool (P := P) w t b c hu
        split at h
        · exact good_same h hi (exec_binOp ho (by rw [e1]; exact guard_bool) (by rw [e1, e2]; simp [binOp, hrun .eql])) rfl
        · exact good_same h hi (exec_binOp ho (by rw [e1]; exact guard_bool) (by rw [e1, e2]; simp [binOp, hrun .eql, bne])) rfl
        · cases h
      · cases h
    · cases h
  · -- structs
    rename_i cs h1
    obtain ⟨vs, e1, hcs⟩ := hv _ _ h1
    split at h
    · rename_i cs' h2
      obtain ⟨vs', e2, hcs'⟩ := hv _ _ h2
      split at h
      · rename_i b hb
        split at hb
        · rename_i s hs
          cases hc : (ofC s cs).isSome && (ofC s cs').isSome with
          | false => rw [hc] at hb; cases hb
          | true =>
            rw [hc] at hb
            simp only [cond_true] at hb
            simp only [Bool.and_eq_true] at hc
            have h8 := hE.ok t s hs
            simp only [eqsB, Bool.and_eq_true, Bool.not_eq_true'] at h8
            obtain ⟨⟨hag, h8⟩, hg⟩ := h8
            have hrun := (eqB_run (A := Av x γ w) (w := w) 8 t s h8).2 9992 cs cs' vs vs' b hcs hcs' hc.1 hc.2 hb
            simp only [mkVal, hag, if_true] at hrun
            have hgd : (eqGuard op t y z (a.eval y) (a.eval z)).run P w = .ok () w := by rw [e1, e2]; exact run_eqGuard_agg w op t y z _ _ hg
            split at h
            · exact good_same h hi (exec_binOp ho hgd (by rw [e1, e2, run_eql_struct, hrun]; rfl)) rfl
            · exact good_same h hi (exec_binOp ho hgd (by rw [e1, e2, run_neq_struct, hrun]; rfl)) rfl
            · cases h
        · cases hb
      · cases h
    · cases h
  · -- a slice of the call's own, and nil
    rename_i k tt h1
    obtain ⟨i, e, xs, nilE, hg, hH, hsl⟩ := hv _ _ h1
    cases hn : isNil z with
    | false => rw [hn] at h; cases h
    | true =>
      rw [hn] at h
      simp only [cond_true] at h
      have hz := isNil_eq hn
      subst hz
      split at h
      · rename_i e' xs' e'' hH' hs'
        rw [hH] at hH'
        cases hH'
        obtain ⟨et, hu, _⟩ := (hT.sh t _ hs').sl _ rfl
        have key : ∃ ad l c, a.eval y = .slice ad l c ∧ ad.isNone = xs.isEmpty := by
          obtain ⟨ob, ho1, ho2⟩ := hi.own k i hg
          rw [hH] at ho1
          cases ho1
          cases i with
          | emp =>
            obtain ⟨ad, e1, e2, e3, _⟩ := hsl
            have : xs = [] := ho2
            exact ⟨ad, 0, 0, e1, by rw [e2 rfl, this]; rfl⟩
          | «at» b c =>
            have hx : xs ≠ [] := ho2.1 rfl
            exact ⟨_, _, _, hsl.1, by cases xs <;> simp_all⟩
        obtain ⟨ad, l, c, e1, e2⟩ := key
        have hgd : (eqGuard op t y (.const (.slice none 0 0)) (a.eval y) (a.eval (.const (.slice none 0 0)))).run P w = .ok () w := by rw [e1]; exact guard_slice
        split at h
        · exact good_same h hi (exec_binOp ho hgd (by rw [e1]; show (binOp .eql t (.slice ad l c) (.slice none 0 0)).run P w = _; simp only [binOp, Sem.run_bind, run_equal_slice_nil w t et ad l c hu, Result.andThen_ok, Sem.run_pure, e2])) rfl
        · exact good_same h hi (exec_binOp ho hgd (by rw [e1]; show (binOp .neq t (.slice ad l c) (.slice none 0 0)).run P w = _; simp only [binOp, Sem.run_bind, run_equal_slice_nil w t et ad l c hu, Result.andThen_ok, Sem.run_pure, e2])) rfl
        · cases h
      · cases h
  · -- a slice that came in, not empty, and nil
    rename_i e xs tt h1
    obtain ⟨ad, c, e1, _, _, hr⟩ := hv _ _ h1
    cases hn : isNil z && !xs.isEmpty with
    | false => rw [hn] at h; cases h
    | true =>
      rw [hn] at h
      simp only [cond_true] at h
      simp only [Bool.and_eq_true, Bool.not_eq_true'] at hn
      have hz := isNil_eq hn.1
      subst hz
      split at h
      · rename_i e'' hs'
        obtain ⟨et, hu, _⟩ := (hT.sh t _ hs').sl _ rfl
        have hx : xs ≠ [] := by intro e; simp [e] at hn
        have e2 : ad.isNone = false := by
          rcases hr with h0 | ⟨b, o, cur, et, fz, rfl, _⟩
          · exact absurd h0 hx
          · rfl
        have hgd : (eqGuard op t y (.const (.slice none 0 0)) (a.eval y) (a.eval (.const (.slice none 0 0)))).run P w = .ok () w := by rw [e1]; exact guard_slice
        split at h
        · exact good_same h hi (exec_binOp ho hgd (by rw [e1]; show (binOp .eql t (.slice ad xs.length c) (.slice none 0 0)).run P w = _; simp only [binOp, Sem.run_bind, run_equal_slice_nil w t et ad _ c hu, Result.andThen_ok, Sem.run_pure, e2])) rfl
        · exact good_same h hi (exec_binOp ho hgd (by rw [e1]; show (binOp .neq t (.slice ad xs.length c) (.slice none 0 0)).run P w = _; simp only [binOp, Sem.run_bind, run_equal_slice_nil w t et ad _ c hu, Result.andThen_ok, Sem.run_pure, e2]; rfl)) rfl
        · cases h
      · cases h
  · cases h

end
end Go.Vi
