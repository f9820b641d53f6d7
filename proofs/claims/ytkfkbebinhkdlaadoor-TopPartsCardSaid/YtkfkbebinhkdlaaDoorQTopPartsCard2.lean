/- Texts of this claim, joined: ViP to ViE. -/
import Derived.Deep.AppendSrc
import Derived.Laws.CopyRow
import Derived.Laws.Cover3
import Derived.Laws.Tables
import Derived.Test.YtkfkbebinhkdlaaDoorQTopPartsCard1
/-
  Vi: operations that change nothing that is there: each comes to what the interpreter says. Part 1.
-/
set_option linter.unusedVariables false
set_option linter.unusedSimpArgs false
namespace Go.Vi
def eqsB (P : Program) (p : Nat × Sh) : Bool := p.2.agg && eqB P 8 p.1 p.2 && !(P.eqGuardType P.depth p.1)
structure EqsOK (P : Program) (T : Tab) : Prop where
  ok : ∀ t s, look T.eqs t = some s → eqsB P (t, s) = true
section
variable {P : Program} {E : Env} {o : Oper} {ρv : Val} {H : Heap} {ρ : Type} {K : V → List (Nat × O) → Option ρ} {r : ρ} {x : Cx} {γ : Gam} {w : World} {a : Act}
/-- What is to be shown of each. -/
def Good (P : Program) (o : Oper) (H : Heap) {ρ : Type} (K : V → List (Nat × O) → Option ρ) (r : ρ) (x : Cx) (γ : Gam) (w : World) (a : Act) : Prop :=
  ∃ v obs, K v obs = some r ∧ OpTo P o a w (Res x γ H w v obs)
/-- The operands' values are as the interpreter has them. -/
def Ops (ρv : Val) (H : Heap) (x : Cx) (γ : Gam) (w : World) (a : Act) : Prop := ∀ y v, ρv y = some v → VR γ w (Av x γ w) H v (a.eval y)
theorem good_same {v : V} {u : Value} (hK : K v [] = some r) (hi : Inv x γ H w) (hrun : (execOp a.eval o).run P w = .ok (.value u) w) (hv : VR γ w (Av x γ w) H v u) : Good P o H K r x γ w a :=
  ⟨v, [], hK, .inl ⟨u, w, hrun, Res.same hi hv⟩⟩
theorem isNil_eq {y : Operand} (h : isNil y = true) : y = .const (.slice none 0 0) := by
  unfold isNil at h
  split at h
  · rfl
  · cases h
theorem cond_none {α : Type} {b : Bool} {y z : Option α} {r : α} (h : (bif b then y else z) = some r) (hy : y = none) : b = false ∧ z = some r := by
  cases b
  · exact ⟨rfl, h⟩
  · simp [hy] at h
theorem cond_some0 {α : Type} {b : Bool} {y z : Option α} {r : α} (h : (bif b then y else z) = some r) (hz : z = none) : b = true ∧ y = some r := by
  cases b
  · simp [hz] at h
  · exact ⟨rfl, h⟩
theorem P_move {y : Operand} (ho : o.op = .move y ∨ o.op = .assign y) (h : evalP E o ρv H ρ K = some r) (hi : Inv x γ H w) (hv : Ops ρv H x γ w a) : Good P o H K r x γ w a := by
  have hrun : (execOp a.eval o).run P w = .ok (.value (a.eval y)) w := by
    rcases ho with ho | ho <;> simp only [execOp, ho, Sem.run_pure]
  rcases ho with ho | ho
  all_goals
    simp only [evalP, ho] at h
    cases hn : isNil y with
    | true =>
      rw [hn] at h
      simp only [cond_true] at h
      split at h
      · rename_i e he
        have hy := isNil_eq hn
        subst hy
        refine ⟨_, _, h, .inl ⟨_, w, hrun, Res.new (i := .emp) hi (Grows.refl w) (by simp) NoOsl.arr rfl ?_⟩⟩
        exact ⟨.emp, e, [], E.T.nils, by simp [gset], by simp [upd], none, rfl, by simp, rfl, by simp⟩
      · cases h
    | false =>
      rw [hn] at h
      simp only [cond_false] at h
      split at h
      · rename_i v hv'
        obtain ⟨_, h⟩ := cond_none h rfl
        exact good_same h hi hrun (hv y v hv')
      · cases h
theorem VR_bool {b : Bool} {u : Value} (h : VR γ w (Av x γ w) H (.c (.bool b)) u) : u = .bool b := h
theorem VR_int {k : IntKind} {n : Int} {u : Value} (h : VR γ w (Av x γ w) H (.c (.int k n)) u) : u = .int k n := h
theorem P_pick {c y z : Operand} (ho : o.op = .pick c y z) (h : evalP E o ρv H ρ K = some r) (hi : Inv x γ H w) (hv : Ops ρv H x γ w a) : Good P o H K r x γ w a := by
  simp only [evalP, ho] at h
  split at h
  · rename_i p q s h1 h2 h3
    have e1 := VR_bool (hv _ _ h1)
    have e2 := VR_bool (hv _ _ h2)
    have e3 := VR_bool (hv _ _ h3)
    refine good_same h hi (u := .bool (bif p then q else s)) ?_ rfl
    simp only [execOp, ho, e1, e2, e3, asBool, Sem.run_bind, Sem.run_pure, Result.andThen_ok]
    cases p <;> rfl
  · cases h
theorem heap_new (w : World) (ob : Obj) : (w.alloc ob).heap[w.heap.size]? = some ob := heap_alloc_new w ob
theorem zero_run {t : TypeId} {s : Sh} (hs : Base P t s) : ∃ z, (zeroValue t).run P w = .ok z w ∧ zeroB (cells s (zero s)) z.cells.toList = true := by
  obtain ⟨i, d, z, hi, hd, hsz, hby, hz, hzz, ha⟩ := hs.ex
  exact ⟨z, by simp [zeroValue, typeInfo, hi, hz], hzz⟩
theorem info_run {t : TypeId} {i : TypeInfo} (hi : P.info? t = some i) : (typeInfo t).run P w = .ok i w := by
  simp [typeInfo, hi]
theorem zeroB_z : ∀ (s : Sh) (r r' : List C) (vs : List Value), (∀ vs, zeroB r vs = zeroB r' vs) → zeroB (cells s (zero s) ++ r) vs = zeroB (zcells s ++ r') vs
  | .int k, r, r', vs, h => by
    cases vs with
    | nil => rfl
    | cons v vs => cases v <;> simp [cells, zcells, zero, zeroB, h]
  | .bool, r, r', vs, h => by
    cases vs with
    | nil => rfl
    | cons v vs => cases v <;> simp [cells, zcells, zero, zeroB, h]
  | .str, r, r', vs, h => by
    cases vs with
    | nil => rfl
    | cons v vs => cases v <;> simp [cells, zcells, zero, zeroB, h]
  | .unit, r, r', vs, h => h vs
  | .pair a b, r, r', vs, h => by
    simp only [cells, zcells, zero, List.append_assoc]
    exact zeroB_z a _ _ vs fun vs => zeroB_z b r r' vs h
  | .sl e, r, r', vs, h => by
    cases vs with
    | nil => rfl
    | cons v vs =>
      simp only [cells, zcells, zero, List.singleton_append]
      unfold zeroB
      split <;> simp_all
theorem zeroB_zc {s : Sh} {vs : List Value} (h : zeroB (cells s (zero s)) vs = true) : zeroB (zcells s) vs = true := by
  have := zeroB_z s [] [] vs (fun _ => rfl)
  rw [List.append_nil, List.append_nil] at this
  rw [← this]
  exact h
theorem good_box {t : TypeId} {cs : List C} {u : Value} (hK : K (.ptr (dstKey o.dst) 0) [(dstKey o.dst, .box cs)] = some r) (hi : Inv x γ H w)
    (hrun : (execOp a.eval o).run P w = .ok (.value (.pointer (some ⟨w.heap.size, 0, none⟩))) (w.alloc (.cells u.cells t)))
    (hno : noOsl cs = true) (hc : All2 (CR w (Av x γ w)) cs u.cells.toList) : Good P o H K r x γ w a := by
  refine ⟨_, _, hK, .inl ⟨_, _, hrun, Res.new (i := .at w.heap.size 0) hi (Grows.alloc w _) (by simp) (NoOsl.box hno) ?_ ?_⟩⟩
  · exact ⟨u.cells, t, heap_new w _, hc.mono (CR.mono (Av.set (by simp) (Grows.alloc w _)))⟩
  · exact ⟨w.heap.size, 0, by simp [gset], rfl⟩
theorem memN_of {d : Nat} {l : List Nat} (h : memN d l = true) : d ∈ l := by
  obtain ⟨j, hj, he⟩ := List.any_eq_true.1 h
  exact Nat.eq_of_beq_eq_true he ▸ hj
theorem ptrKeys_R {A : Nat → Prop} {b : Nat} : ∀ {caps : List V} {ks : List Nat} {us : List Value}, ptrKeys caps = some ks → All2 (VR1 γ w A H) caps us → All2 (CDR γ w A b) (ks.map .b) us
  | [], ks, [], h, _ => by simp only [ptrKeys, Option.some.injEq] at h; subst h; trivial
  | v :: caps, ks, u :: us, h, hv => by
    have h1 := hv.1
    cases v with
    | ptr k off =>
      cases off with
      | zero =>
        simp only [ptrKeys, Option.map_eq_some_iff] at h
        obtain ⟨l, hl, rfl⟩ := h
        exact ⟨h1, ptrKeys_R hl hv.2⟩
      | succ off => simp [ptrKeys] at h
    | _ => simp [ptrKeys] at h
  | [], _, _ :: _, _, h => h.elim
  | _ :: _, _, [], _, h => h.elim
theorem P_alloc {t : TypeId} (hT : TabOK P E.T) (ho : o.op = .alloc t) (h : evalP E o ρv H ρ K = some r) (hi : Inv x γ H w) : Good P o H K r x γ w a := by
  simp only [evalP, ho] at h
  cases hf : memN t E.T.fns with
  | true =>
    rw [hf, cond_true] at h
    obtain ⟨i, d, z, v, hi1, hd, hsz, hz, hzc, ha⟩ := (hT.fns t (memN_of hf)).ex
    refine ⟨_, _, h, .inl ⟨.pointer (some ⟨w.heap.size, 0, none⟩), w.alloc (.cells z.cells t), ?_, Res.new (i := .at w.heap.size 0) hi (Grows.alloc w (.cells z.cells t)) (by simp) (fun _ _ e => by cases e) ?_ ?_⟩⟩
    · have hzr : (zeroValue t).run P w = .ok z w := by simp [zeroValue, typeInfo, hi1, hz]
      simp only [execOp, ho, Instr.alloc, Sem.run_bind, hzr, Result.andThen_ok, run_newVar, Sem.run_pure]
    · exact ⟨v, t, by rw [heap_new, hzc]⟩
    · exact ⟨w.heap.size, 0, by simp [gset], rfl⟩
  | false =>
  rw [hf, cond_false] at h
  split at h
  · rename_i s hs
    obtain ⟨z, hz, hzz⟩ := zero_run (w := w) (hT.sh t s hs).base
    refine good_box (t := t) (u := z) h hi ?_ (noOsl_zcells s) (zeroB_all2 (zeroB_zc hzz))
    simp only [execOp, ho, Instr.alloc, Sem.run_bind, hz, Result.andThen_ok, run_newVar, Sem.run_pure]
  · cases h
theorem P_box {t : TypeId} {y : Operand} (hT : TabOK P E.T) (ho : o.op = .box t y) (h : evalP E o ρv H ρ K = some r) (hi : Inv x γ H w) (hv : Ops ρv H x γ w a) : Good P o H K r x γ w a := by
  simp only [evalP, ho] at h
  cases hf : memN t E.T.fns with
  | true =>
    rw [hf, cond_true] at h
    split at h
    · rename_i g caps hy
      obtain ⟨ks, hks, h⟩ := Option.bind_eq_some_iff.1 h
      obtain ⟨us, he, hc⟩ := hv y _ hy
      have hg := Grows.alloc w (.cells (a.eval y).cells t)
      refine ⟨_, _, h, .inl ⟨.pointer (some ⟨w.heap.size, 0, none⟩), w.alloc (.cells (a.eval y).cells t), ?_, fun _ => ⟨γ, hi.grows hg, ?_, fun z uu _ hz => VR.mono (Av.grows hg) z uu hz⟩⟩⟩
      · simp only [execOp, ho, Instr.box, Sem.run_bind, Result.andThen_ok, run_newVar, Sem.run_pure]
      · have hAv : Av x γ (w.alloc (.cells (a.eval y).cells t)) w.heap.size := by
          refine ⟨by simp, fun hlt => ?_, fun k c hk => ?_⟩
          · have := hi.size
            omega
          · have := (hi.rng k _ c hk).2
            omega
        refine ⟨w.heap.size, us, rfl, ⟨hAv, t, (0, 0), ?_⟩, ?_⟩
        · rw [heap_new, he]
          rfl
        · exact (ptrKeys_R hks hc).mono (CDR.mono (Av.grows hg))
    · cases h
  | false =>
  rw [hf, cond_false] at h
  split at h
  · rename_i s cs hs hcs
    cases hd : decide (cs.length = s.nc) && noOsl cs with
    | false => rw [hd] at h; cases h
    | true =>
      rw [hd] at h
      simp only [cond_true] at h
      rw [Bool.and_eq_true] at hd
      obtain ⟨v, h1, h2⟩ := Option.bind_eq_some_iff.1 hcs
      refine good_box (t := t) (u := a.eval y) h hi ?_ hd.2 (cellsOf_VR h2 (hv y v h1))
      simp only [execOp, ho, Instr.box, Sem.run_bind, Result.andThen_ok, run_newVar, Sem.run_pure]
  · cases h
theorem run_intBin {op : BinOp} {k k' : IntKind} {m n : Int} {Kn : Int → Option ρ} (hs : isShift op = false → k' = k) (hc : isShift op = true ∨ intCmp op m n = none) (h : intBin op k m n ρ Kn = some r) (t : TypeId) :
    ∃ c, Kn c = some r ∧ (binOp op t (.int k m) (.int k' n)).run P w = .ok (.int k c) w := by
  unfold intBin at h
  split at h
  · refine ⟨_, h, ?_⟩
    have := hs rfl
    subst this
    simp [binOp, Op.intArith]
  · refine ⟨_, h, ?_⟩
    have := hs rfl
    subst this
    simp [binOp, Op.intArith]
  · refine ⟨_, h, ?_⟩
    have := hs rfl
    subst this
    simp [binOp, Op.intArith]
  · have := hs rfl
    subst this
    cases hn : n == 0 with
    | true => rw [hn] at h; cases h
    | false =>
      rw [hn] at h
      refine ⟨_, h, ?_⟩
      have hn' : ¬ n = 0 := by simpa using hn
      simp [binOp, Op.intDiv, hn']
  · have := hs rfl
    subst this
    cases hn : n == 0 with
    | true => rw [hn] at h; cases h
    | false =>
      rw [hn] at h
      refine ⟨_, h, ?_⟩
      have hn' : ¬ n = 0 := by simpa using hn
      simp [binOp, Op.intDiv, hn']
  · refine ⟨_, h, ?_⟩
    have := hs rfl
    subst this
    simp [binOp, Op.intBits]
  · refine ⟨_, h, ?_⟩
    have := hs rfl
    subst this
    simp [binOp, Op.intBits]
  · refine ⟨_, h, ?_⟩
    have := hs rfl
    subst this
    simp [binOp, Op.intBits]
  · refine ⟨_, h, ?_⟩
    have := hs rfl
    subst this
    simp [binOp, Op.intBits]
  · cases hn : decide (n < 0) with
    | true => rw [hn] at h; cases h
    | false =>
      rw [hn] at h
      refine ⟨_, h, ?_⟩
      have hn' : ¬ n < 0 := by simpa using hn
      simp only [binOp, Op.shift, if_neg hn', Sem.run_pure]
  · cases hn : decide (n < 0) with
    | true => rw [hn] at h; cases h
    | false =>
      rw [hn] at h
      refine ⟨_, h, ?_⟩
      have hn' : ¬ n < 0 := by simpa using hn
      simp only [binOp, Op.shift, if_neg hn', Sem.run_pure]
  · cases h
theorem run_intCmp {op : BinOp} {k : IntKind} {m n : Int} {b : Bool} (h : intCmp op m n = some b) (t : TypeId) : (binOp op t (.int k m) (.int k n)).run P w = .ok (.bool b) w := by
  cases op <;> simp only [intCmp, Option.some.injEq, reduceCtorEq] at h
  all_goals
    subst h
    simp [binOp, Op.intCmp]
theorem exec_binOp {op : BinOp} {t t' : TypeId} {y z : Operand} (ho : o.op = .binOp op t y z t') {u : Value} (hg : (eqGuard op t y z (a.eval y) (a.eval z)).run P w = .ok () w)
    (hr : (binOp op t (a.eval y) (a.eval z)).run P w = .ok u w) : (execOp a.eval o).run P w = .ok (.value u) w := by
  simp only [execOp, ho, Sem.run_bind, hg, Result.andThen_ok, hr, Sem.run_pure]
theorem guard_int {op : BinOp} {t : TypeId} {y z : Operand} {k : IntKind} {n : Int} {u : Value} : (eqGuard op t y z (.int k n) u).run P w = .ok () w := by
  rw [eqGuard_at_int]; rfl
theorem guard_bool {op : BinOp} {t : TypeId} {y z : Operand} {b : Bool} {u : Value} : (eqGuard op t y z (.bool b) u).run P w = .ok () w := by
  rw [eqGuard_at_bool]; rfl
theorem guard_slice {op : BinOp} {t : TypeId} {y z : Operand} {ad : Option Addr} {l c : Nat} {u : Value} : (eqGuard op t y z (.slice ad l c) u).run P w = .ok () w := by
  cases op <;> rfl
theorem P_binOp {op : BinOp} {t t' : TypeId} {y z : Operand} (hT : TabOK P E.T) (hE : EqsOK P E.T)
    (ho : o.op = .binOp op t y z t') (h : evalP E o ρv H ρ K = some r) (hi : Inv x γ H w) (hv : Ops ρv H x γ w a) : Good P o H K r x γ w a := by
  simp only [evalP, ho, binop] at h
  split at h
  · -- numbers
    rename_i k m h1
    have e1 := VR_int (hv _ _ h1)
    split at h
    · rename_i k' n h2
      have e2 := VR_int (hv _ _ h2)
      cases hs : isShift op with
      | true =>
        rw [hs] at h
        simp only [cond_true] at h
        obtain ⟨c, hc, hr⟩ := run_intBin (P := P) (w := w) (k' := k') (by simp [hs]) (.inl hs) h t
        exact good_same hc hi (exec_binOp ho (by rw [e1]; exact guard_int) (by rw [e1, e2]; exact hr)) rfl
      | false =>
        rw [hs] at h
        simp only [cond_false] at h
        split at h
        · rename_i hk
          subst hk
          split at h
          · rename_i b hb
            exact good_same h hi (exec_binOp ho (by rw [e1]; exact guard_int) (by rw [e1, e2]; exact run_intCmp hb t)) rfl
          · rename_i hb
            obtain ⟨c, hc, hr⟩ := run_intBin (P := P) (w := w) (k' := k) (fun _ => rfl) (.inr hb) h t
            exact good_same hc hi (exec_binOp ho (by rw [e1]; exact guard_int) (by rw [e1, e2]; exact hr)) rfl
        · cases h
    · cases h
  · -- bools
    rename_i b h1
    have e1 := VR_bool (hv _ _ h1)
    split at h
    · rename_i c h2
      have e2 := VR_bool (hv _ _ h2)
      split at h
      · rename_i hb
        have hu := (hT.sh t _ hb).bool rfl
        have hrun := fun (op : BinOp) => run_equal_bool (P := P) w t b c hu
        split at h
        · exact good_same h hi (exec_binOp ho (by rw [e1]; exact guard_bool) (by rw [e1, e2]; simp [binOp, hrun .eql])) rfl
        · exact good_same h hi (exec_binOp ho (by rw [e1]; exact guard_bool) (by rw [e1, e2]; simp [binOp, hrun .eql, bne])) rfl
        · cases h
      · cases h
    · cases h
  · -- structs
    rename_i cs h1
    obtain ⟨vs, e1, hcs⟩ := hv _ _ h1
    split at h
    · rename_i cs' h2
      obtain ⟨vs', e2, hcs'⟩ := hv _ _ h2
      split at h
      · rename_i b hb
        split at hb
        · rename_i s hs
          cases hc : (ofC s cs).isSome && (ofC s cs').isSome with
          | false => rw [hc] at hb; cases hb
          | true =>
            rw [hc] at hb
            simp only [cond_true] at hb
            simp only [Bool.and_eq_true] at hc
            have h8 := hE.ok t s hs
            simp only [eqsB, Bool.and_eq_true, Bool.not_eq_true'] at h8
            obtain ⟨⟨hag, h8⟩, hg⟩ := h8
            have hrun := (eqB_run (A := Av x γ w) (w := w) 8 t s h8).2 9992 cs cs' vs vs' b hcs hcs' hc.1 hc.2 hb
            simp only [mkVal, hag, if_true] at hrun
            have hgd : (eqGuard op t y z (a.eval y) (a.eval z)).run P w = .ok () w := by rw [e1, e2]; exact run_eqGuard_agg w op t y z _ _ hg
            split at h
            · exact good_same h hi (exec_binOp ho hgd (by rw [e1, e2, run_eql_struct, hrun]; rfl)) rfl
            · exact good_same h hi (exec_binOp ho hgd (by rw [e1, e2, run_neq_struct, hrun]; rfl)) rfl
            · cases h
        · cases hb
      · cases h
    · cases h
  · -- a slice of the call's own, and nil
    rename_i k tt h1
    obtain ⟨i, e, xs, nilE, hg, hH, hsl⟩ := hv _ _ h1
    cases hn : isNil z with
    | false => rw [hn] at h; cases h
    | true =>
      rw [hn] at h
      simp only [cond_true] at h
      have hz := isNil_eq hn
      subst hz
      split at h
      · rename_i e' xs' e'' hH' hs'
        rw [hH] at hH'
        cases hH'
        obtain ⟨et, hu, _⟩ := (hT.sh t _ hs').sl _ rfl
        have key : ∃ ad l c, a.eval y = .slice ad l c ∧ ad.isNone = xs.isEmpty := by
          obtain ⟨ob, ho1, ho2⟩ := hi.own k i hg
          rw [hH] at ho1
          cases ho1
          cases i with
          | emp =>
            obtain ⟨ad, e1, e2, e3, _⟩ := hsl
            have : xs = [] := ho2
            exact ⟨ad, 0, 0, e1, by rw [e2 rfl, this]; rfl⟩
          | «at» b c =>
            have hx : xs ≠ [] := ho2.1 rfl
            exact ⟨_, _, _, hsl.1, by cases xs <;> simp_all⟩
        obtain ⟨ad, l, c, e1, e2⟩ := key
        have hgd : (eqGuard op t y (.const (.slice none 0 0)) (a.eval y) (a.eval (.const (.slice none 0 0)))).run P w = .ok () w := by rw [e1]; exact guard_slice
        split at h
        · exact good_same h hi (exec_binOp ho hgd (by rw [e1]; show (binOp .eql t (.slice ad l c) (.slice none 0 0)).run P w = _; simp only [binOp, Sem.run_bind, run_equal_slice_nil w t et ad l c hu, Result.andThen_ok, Sem.run_pure, e2])) rfl
        · exact good_same h hi (exec_binOp ho hgd (by rw [e1]; show (binOp .neq t (.slice ad l c) (.slice none 0 0)).run P w = _; simp only [binOp, Sem.run_bind, run_equal_slice_nil w t et ad l c hu, Result.andThen_ok, Sem.run_pure, e2])) rfl
        · cases h
      · cases h
  · -- a slice that came in, not empty, and nil
    rename_i e xs tt h1
    obtain ⟨ad, c, e1, _, _, hr⟩ := hv _ _ h1
    cases hn : isNil z && !xs.isEmpty with
    | false => rw [hn] at h; cases h
    | true =>
      rw [hn] at h
      simp only [cond_true] at h
      simp only [Bool.and_eq_true, Bool.not_eq_true'] at hn
      have hz := isNil_eq hn.1
      subst hz
      split at h
      · rename_i e'' hs'
        obtain ⟨et, hu, _⟩ := (hT.sh t _ hs').sl _ rfl
        have hx : xs ≠ [] := by intro e; simp [e] at hn
        have e2 : ad.isNone = false := by
          rcases hr with h0 | ⟨b, o, cur, et, fz, rfl, _⟩
          · exact absurd h0 hx
          · rfl
        have hgd : (eqGuard op t y (.const (.slice none 0 0)) (a.eval y) (a.eval (.const (.slice none 0 0)))).run P w = .ok () w := by rw [e1]; exact guard_slice
        split at h
        · exact good_same h hi (exec_binOp ho hgd (by rw [e1]; show (binOp .eql t (.slice ad xs.length c) (.slice none 0 0)).run P w = _; simp only [binOp, Sem.run_bind, run_equal_slice_nil w t et ad _ c hu, Result.andThen_ok, Sem.run_pure, e2])) rfl
        · exact good_same h hi (exec_binOp ho hgd (by rw [e1]; show (binOp .neq t (.slice ad xs.length c) (.slice none 0 0)).run P w = _; simp only [binOp, Sem.run_bind, run_equal_slice_nil w t et ad _ c hu, Result.andThen_ok, Sem.run_pure, e2]; rfl)) rfl
        · cases h
      · cases h
  · -- strings
    rename_i s1 h1
    have e1 : a.eval y = .string s1 := hv _ _ h1
    split at h
    · rename_i s2 h2
      have e2 : a.eval z = .string s2 := hv _ _ h2
      have hgd : (eqGuard op t y z (a.eval y) (a.eval z)).run P w = .ok () w := by rw [e1, eqGuard_at_string]; rfl
      split at h
      · obtain ⟨hd, h⟩ := cond_some0 h rfl
        have hd := of_decide_eq_true hd
        refine good_same h hi (u := .string (strApp s1 s2)) (exec_binOp ho hgd ?_) rfl
        rw [e1, e2, strApp_eq]
        exact run_string_add_sum w s1 s2 (by unfold lim at hd; omega)
      · refine good_same h hi (u := .bool (strEq s1 s2)) (exec_binOp ho hgd ?_) rfl
        rw [e1, e2, strEq_eq]
        rfl
      · refine good_same h hi (u := .bool (!strEq s1 s2)) (exec_binOp ho hgd ?_) rfl
        rw [e1, e2, strEq_eq]
        rfl
      · cases h
    · cases h
  · cases h
end
end Go.Vi
/-
  Vi: operations that change nothing that is there. Part 2: structs, fields, elements, reads.
-/
set_option linter.unusedVariables false
set_option linter.unusedSimpArgs false
namespace Go.Vi
section
variable {P : Program} {E : Env} {o : Oper} {ρv : Val} {H : Heap} {ρ : Type} {K : V → List (Nat × O) → Option ρ} {r : ρ} {x : Cx} {γ : Gam} {w : World} {a : Act}
theorem cond_some {α : Type} {b : Bool} {y z : Option α} {r : α} (h : (bif b then y else z) = some r) (hz : z = none) : b = true ∧ y = some r := by
  cases b
  · simp [hz] at h
  · exact ⟨rfl, h⟩
theorem P_unOp {op : UnOp} {t : TypeId} {y : Operand} (ho : o.op = .unOp op t y) (h : evalP E o ρv H ρ K = some r) (hi : Inv x γ H w) (hv : Ops ρv H x γ w a) : Good P o H K r x γ w a := by
  simp only [evalP, ho] at h
  split at h
  · rename_i k n h1
    have e1 := VR_int (hv _ _ h1)
    exact good_same h hi (by simp [execOp, ho, e1, Op.unary, Op.intArith]) rfl
  · rename_i b h1
    have e1 := VR_bool (hv _ _ h1)
    exact good_same h hi (by simp [execOp, ho, e1, Op.unary]) rfl
  · rename_i k n h1
    have e1 := VR_int (hv _ _ h1)
    exact good_same h hi (by simp [execOp, ho, e1, Op.unary, Op.intBits]) rfl
  · cases h
theorem P_extract {y : Operand} {j : Nat} (ho : o.op = .extract y j) (h : evalP E o ρv H ρ K = some r) (hi : Inv x γ H w) (hv : Ops ρv H x γ w a) : Good P o H K r x γ w a := by
  simp only [evalP, ho] at h
  split at h
  · rename_i vs h1
    obtain ⟨us, e1, h2⟩ := hv _ _ h1
    split at h
    · rename_i v h3
      obtain ⟨_, h⟩ := cond_some h rfl
      obtain ⟨u, h4, h5⟩ := h2.get h3
      refine good_same h hi (u := u) ?_ ?_
      · simp [execOp, ho, e1, Instr.extract, h4]
      · cases v <;> first | exact h5 | exact h5.elim
    · cases h
  · cases h
theorem run_fieldPlace {t : TypeId} {s : Sh} {f : Field} (hb : Base P f.type s) (hnc : 0 < s.nc) (b o : Nat) : (fieldPlace ⟨b, o, none⟩ f).run P w = .ok ⟨b, o + f.offset, none⟩ w := by
  obtain ⟨i, d, z, hi, hd, hsz, hby, hz, hzz, ha⟩ := hb.ex
  unfold fieldPlace
  simp only [Sem.run_bind, run_sizeOf' hi, Result.andThen_ok, hsz]
  rw [if_neg (by omega)]
  simp only [Sem.run_pure, add_eq]
theorem P_fieldAddr {s : TypeId} {y : Operand} {f : Nat} (hT : TabOK P E.T) (ho : o.op = .fieldAddr s y f) (h : evalP E o ρv H ρ K = some r) (hi : Inv x γ H w) (hv : Ops ρv H x γ w a) : Good P o H K r x γ w a := by
  simp only [evalP, ho] at h
  have key : ∀ d b off, fldOff E.T s f = some d → a.eval y = .pointer (some ⟨b, off, none⟩) → (execOp a.eval o).run P w = .ok (.value (.pointer (some ⟨b, off + d, none⟩))) w := by
    intro d b off hd he
    unfold fldOff at hd
    split at hd
    · rename_i fs hfs
      split at hd
      · rename_i e hfe
        cases hd
        obtain ⟨fields, hu, hsz, hget⟩ := (hT.flds s fs hfs).ex
        obtain ⟨fd, h1, h2, h3, h4⟩ := hget f e hfe
        simp only [execOp, ho, Instr.fieldAt, Sem.run_bind, run_underlying hu, Result.andThen_ok, h1, he, Instr.sureAddr, Sem.run_pure, run_fieldPlace (t := 0) h3 h4, h2]
      · cases hd
    · cases hd
  split at h
  · rename_i d k off h1 h2
    obtain ⟨b, c, hg, he⟩ := hv _ _ h2
    exact good_same h hi (key d b off h1 he) ⟨b, c, hg, rfl⟩
  · rename_i d k win i off h1 h2
    obtain ⟨b, c, e, xs, nilE, hg, hH, h3, h4, he⟩ := hv _ _ h2
    refine good_same h hi (key d b _ h1 he) ⟨b, c, e, xs, nilE, hg, hH, h3, h4, ?_⟩
    rw [Nat.add_assoc]
  · rename_i d cs h1 h2
    obtain ⟨b, oo, cur, et, fz, he, hA, hb, hl, hc⟩ := hv _ _ h2
    obtain ⟨hd, h⟩ := cond_some h rfl
    have hd := of_decide_eq_true hd
    refine good_same h hi (key d b oo h1 he) ⟨b, oo + d, cur, et, fz, rfl, hA, hb, by simp; omega, ?_⟩
    have := hc.drop d
    rw [List.drop_take, List.drop_drop] at this
    simpa using this
  · cases h
theorem P_field {s : TypeId} {y : Operand} {f : Nat} (hT : TabOK P E.T) (ho : o.op = .field s y f) (h : evalP E o ρv H ρ K = some r) (hi : Inv x γ H w) (hv : Ops ρv H x γ w a) : Good P o H K r x γ w a := by
  simp only [evalP, ho] at h
  split at h
  · rename_i fs cs h1 h2
    obtain ⟨vs, he, hc⟩ := hv _ _ h2
    split at h
    · rename_i e h3
      obtain ⟨hd, h⟩ := cond_some h rfl
      have hd := of_decide_eq_true hd
      split at h
      · rename_i v hm
        obtain ⟨fields, hu, hsz, hget⟩ := (hT.flds s fs h1).ex
        obtain ⟨fd, g1, g2, g3, g4⟩ := hget f e h3
        have hl := hc.length
        have hcs := (hc.drop (fieldOff fs f)).take e.nc
        refine good_same h hi (u := mkVal e ((vs.drop (fieldOff fs f)).take e.nc)) ?_ (mkV_VR hm hcs)
        simp only [execOp, ho, Instr.field, Sem.run_bind, run_underlying hu, Result.andThen_ok, g1, he, asAgg, Sem.run_pure, g2, run_part g3 (show fieldOff fs f + e.nc ≤ vs.length by omega)]
      · cases h
    · cases h
  · cases h
theorem idx_some {α : Type} {xs : List α} {i : Int} {y : α} (h : idx xs i = some y) : 0 ≤ i ∧ i.toNat < xs.length ∧ xs[i.toNat]? = some y := by
  unfold idx at h
  split at h
  · rename_i h0
    exact ⟨h0, (List.getElem?_eq_some_iff.1 h).1, h⟩
  · cases h
theorem view_get {α : Type} {win : Option (Nat × Nat)} {xs : List α} {j : Nat} {y : α} (h : (view win xs)[j]? = some y) : xs[wo win + j]? = some y ∧ j < (view win xs).length := by
  refine ⟨?_, (List.getElem?_eq_some_iff.1 h).1⟩
  cases win with
  | none => simpa [view, wo] using h
  | some p =>
    obtain ⟨o, l⟩ := p
    simp only [view, List.getElem?_take, List.getElem?_drop] at h
    split at h
    · simpa [wo] using h
    · cases h
theorem oslAt_spec {s : Sh} {cs : List C} {off : Nat} (h : oslAt s cs off = true) : ∃ e, s = .sl e ∧ cs[off]? = some .osl := by
  unfold oslAt at h
  split at h
  · rename_i e hc
    exact ⟨e, rfl, hc⟩
  · cases h
theorem P_load {t : TypeId} {y : Operand} (hT : TabOK P E.T) (ho : o.op = .load t y) (h : evalP E o ρv H ρ K = some r) (hi : Inv x γ H w) (hv : Ops ρv H x γ w a) : Good P o H K r x γ w a := by
  simp only [evalP, ho] at h
  cases hf : memN t E.T.fns with
  | true =>
    rw [hf, cond_true] at h
    split at h
    · rename_i f cds hy
      obtain ⟨b, us, he, hbox, hc⟩ := hv y _ hy
      obtain ⟨hA, et, fz, hb⟩ := hbox
      obtain ⟨i, d, z, v, hi1, hd, hsz, hz, hzc, ha⟩ := (hT.fns t (memN_of hf)).ex
      refine good_same h hi (u := .func (.func f) #[] us.toArray) ?_ ⟨us, rfl, ?_⟩
      · have hc0 : w.cell? ⟨b, 0, none⟩ = some (.func (.func f) #[] us.toArray) := by rw [cell_row hb]; rfl
        simp only [execOp, ho, he, Instr.loadAt, Instr.sureAddr, loadVar, Sem.run_bind, Sem.run_pure, Result.andThen_ok, run_isAgg hd, ha, Bool.false_eq_true, if_false, run_load, hc0]
      · have : ∀ (l : List CD) (us : List Value), All2 (CDR γ w (Av x γ w) b) l us → All2 (VR1 γ w (Av x γ w) H) (l.map (cdV f cds)) us := by
          intro l
          induction l with
          | nil => intro us h; cases us with | nil => trivial | cons _ _ => exact h.elim
          | cons c l ih =>
            intro us h
            cases us with
            | nil => exact h.elim
            | cons u us =>
              refine ⟨?_, ih us h.2⟩
              have h1 := h.1
              cases c with
              | b k => exact h1
              | s => exact ⟨b, _, h1, ⟨hA, et, fz, hb⟩, hc⟩
              | v g ks =>
                obtain ⟨b', us', e1, e2, e3⟩ := h1
                refine ⟨b', us', e1, e2, ?_⟩
                clear h ih e1 e2
                induction ks generalizing us' with
                | nil => cases us' with | nil => trivial | cons _ _ => exact e3.elim
                | cons k ks ih =>
                  cases us' with
                  | nil => exact e3.elim
                  | cons u us' => exact ⟨e3.1, ih us' e3.2⟩
        exact this cds us hc
    · cases h
  | false =>
  rw [hf, cond_false] at h
  have key : ∀ (s : Sh) (cs : List C) (v : V) (b oo : Nat) (cur : Array Value) (et : TypeId) (fz : Nat × Nat), shOf E.T t = some s → mkV s cs = some v → a.eval y = .pointer (some ⟨b, oo, none⟩) →
      w.heap[b]? = some (.cells cur et fz) → oo + s.nc ≤ cur.size → All2 (CR w (Av x γ w)) cs ((cur.toList.drop oo).take s.nc) → K v [] = some r → Good P o H K r x γ w a := by
    intro s cs v b oo cur et fz hs hm he hb hl hc hK
    refine good_same hK hi (u := mkVal s ((cur.toList.drop oo).take s.nc)) ?_ (mkV_VR hm hc)
    have hrun := run_load_shape (P := P) (w := w) (hT.sh t s hs).base hb hl nc_one
    simp only [execOp, ho, he, Sem.run_bind, hrun, Result.andThen_ok, Sem.run_pure]
    congr 2
    unfold mkVal
    split
    · rfl
    · rename_i hag
      have h1 := nc_one (by simpa using hag)
      simp [h1, List.getD, List.getElem?_take, List.getElem?_drop]
  split at h
  · -- a variable of the call's own
    rename_i s k off h1 h2
    obtain ⟨b, c, hg, he⟩ := hv _ _ h2
    split at h
    · rename_i cs hH
      obtain ⟨hd, h⟩ := cond_some h rfl
      have hd := of_decide_eq_true hd
      cases hO : oslAt s cs off with
      | true =>
        obtain ⟨e, rfl, hcs⟩ := oslAt_spec hO
        rw [hO, cond_true] at h
        split at h
        · rename_i e1 e' xs nilE hse hHk
          cases hse
          obtain ⟨he', hK⟩ := cond_some h rfl
          clear h
          have he2 := of_decide_eq_true he'
          clear he'
          subst he2
          obtain ⟨i, g1, cur, et, fz, u, e2, xs2, n2, g2, g3, g4, g5⟩ := hi.lnk k cs off b c _ hH hcs hg hHk
          have hl : off + 1 ≤ cur.size := (Array.getElem?_eq_some_iff.1 g3).1
          refine good_same hK hi (u := mkVal (.sl e) ((cur.toList.drop off).take 1)) ?_ ?_
          · have hrun := run_load_shape (P := P) (w := w) (hT.sh t _ h1).base g2 (show off + (Sh.sl e).nc ≤ cur.size from hl) nc_one
            simp only [execOp, ho, he, Sem.run_bind, hrun, Result.andThen_ok, Sem.run_pure]
            congr 2
            unfold mkVal
            split
            · rfl
            · rename_i hag
              simp [Sh.nc, List.getD, List.getElem?_take, List.getElem?_drop]
          · have hm : mkVal (.sl e) ((cur.toList.drop off).take 1) = u := by
              unfold mkVal
              simp only [Sh.agg, Bool.false_eq_true, if_false]
              rw [List.getD_eq_getElem?_getD, List.getElem?_take, if_pos (by omega), List.getElem?_drop, Nat.add_zero, Array.getElem?_toList, g3]
              rfl
            rw [hm]
            exact ⟨i, e2, xs2, n2, g1, g4, g5⟩
        · cases h
      | false =>
      rw [hO, cond_false] at h
      split at h
      · rename_i v hm
        obtain ⟨ob, hob, hR⟩ := hi.own k _ hg
        rw [hH] at hob
        cases hob
        obtain ⟨cur, et, hb, hc⟩ := hR
        have hl := hc.length
        exact key s _ v b off cur et (0, 0) h1 hm he hb (by simp at hl; omega) ((hc.drop off).take s.nc) h
      · cases h
    · cases h
  · -- data
    rename_i s cs h1 h2
    obtain ⟨b, oo, cur, et, fz, he, hA, hb, hl, hc⟩ := hv _ _ h2
    obtain ⟨hd, h⟩ := cond_some h rfl
    have hd := of_decide_eq_true hd
    split at h
    · rename_i v hm
      have := hc.take s.nc
      rw [List.take_take, Nat.min_eq_left hd] at this
      exact key s _ v b oo cur et fz h1 hm he hb (by omega) this h
    · cases h
  · -- an element of an own array
    rename_i s k win i off h1 h2
    obtain ⟨b, c, e, xs, nilE, hg, hH, h3, h4, he⟩ := hv _ _ h2
    split at h
    · rename_i e' xs' n' hH'
      rw [hH] at hH'
      cases hH'
      obtain ⟨hd, h⟩ := cond_some h rfl
      have hd := of_decide_eq_true hd
      obtain ⟨z, hz, h⟩ := Option.bind_eq_some_iff.1 h
      split at h
      · rename_i v hm
        obtain ⟨i0, i1, i2⟩ := idx_some hz
        obtain ⟨g1, g2⟩ := view_get i2
        obtain ⟨ob, hob, hR⟩ := hi.own k _ hg
        rw [hH] at hob
        cases hob
        obtain ⟨_, hxc, cur, et, hb, hsz, hel⟩ := hR
        have hlt : wo win + i.toNat < xs.length := (List.getElem?_eq_some_iff.1 g1).1
        have hmul : (wo win + i.toNat) * e.nc + e.nc ≤ c * e.nc := by
          have := Nat.mul_le_mul_right e.nc (show wo win + i.toNat + 1 ≤ c by omega)
          rwa [Nat.add_mul, Nat.one_mul] at this
        have hc := CR.of_VRs e z _ (hel _ _ g1)
        have hc := (hc.drop off).take s.nc
        rw [List.drop_take, List.take_take, List.drop_drop, Nat.min_eq_left (by omega)] at hc
        exact key s _ v b _ cur et (0, 0) h1 hm he hb (by omega) hc h
      · cases h
    · cases h
  · -- an element of an array in a variable
    rename_i s k off n e i h1 h2
    obtain ⟨b, c, hg, h3, h4, he⟩ := hv _ _ h2
    split at h
    · rename_i kk cs hH
      obtain ⟨hd, h'⟩ := cond_some h rfl
      clear h
      simp only [Bool.and_eq_true, decide_eq_true_eq] at hd
      obtain ⟨rfl, hd⟩ := hd
      split at h'
      · rename_i ns hns
        obtain ⟨z, hz, h⟩ := Option.bind_eq_some_iff.1 h'
        obtain ⟨i0, i1, i2⟩ := idx_some hz
        obtain ⟨ob, hob, hR⟩ := hi.own k _ hg
        rw [hH] at hob
        cases hob
        obtain ⟨cur, et, hb, hc⟩ := hR
        have hl := hc.length
        have ints_get : ∀ (cs : List C) (ns : List Int), ints kk cs = some ns → ∀ (j : Nat) (z : Int), ns[j]? = some z → cs[j]? = some (.int kk z) := by
          intro cs
          induction cs with
          | nil => intro ns h j z hj; simp [ints] at h; subst h; simp at hj
          | cons c cs ih =>
            intro ns h j z hj
            cases c <;> simp only [ints] at h
            all_goals first | (cases h; done) | skip
            split at h
            · rename_i hk
              subst hk
              simp only [Option.map_eq_some_iff] at h
              obtain ⟨ns', h1, rfl⟩ := h
              cases j with
              | zero => simp at hj; simp [hj]
              | succ j => simp at hj; simpa using ih ns' h1 j _ hj
            · cases h
        have g1 := ints_get _ _ hns _ _ i2
        rw [List.getElem?_take] at g1
        split at g1
        · rename_i hin
          rw [List.getElem?_drop] at g1
          obtain ⟨u, g2, g3⟩ := hc.get g1
          have hlt : off + i.toNat < cur.toList.length := (List.getElem?_eq_some_iff.1 g2).1
          refine key (.int kk) [.int kk z] _ b (off + i.toNat * 1) cur et (0, 0) h1 rfl he hb (by simp [Sh.nc]; simp at hlt; omega) ?_ h
          rw [Nat.mul_one]
          have : (cur.toList.drop (off + i.toNat)).take 1 = [u] := by
            rw [List.drop_eq_getElem_cons hlt]
            have : cur.toList[off + i.toNat] = u := by
              rw [List.getElem?_eq_getElem hlt] at g2
              exact Option.some.inj g2
            rw [this]
            simp
          simp only [Sh.nc]
          rw [this]
          exact ⟨g3, trivial⟩
        · cases g1
      · cases h'
    · rename_i cs hne hH
      obtain ⟨hd, h'⟩ := cond_some h rfl
      clear h
      simp only [Bool.and_eq_true, decide_eq_true_eq] at hd
      obtain ⟨rfl, hd⟩ := hd
      split at h'
      · rename_i xs hxs
        obtain ⟨z, hz, h⟩ := Option.bind_eq_some_iff.1 h'
        obtain ⟨i0, i1, i2⟩ := idx_some hz
        split at h
        · rename_i v hm
          obtain ⟨ob, hob, hR⟩ := hi.own k _ hg
          rw [hH] at hob
          cases hob
          obtain ⟨cur, et, hb, hc⟩ := hR
          have hl2 : cs.length = cur.size := by rw [hc.length, Array.length_toList]
          have hxl := rowsC_len hxs
          have hvv := rowsC_VRs hxs (hc.drop off) _ _ i2
          rw [List.drop_drop] at hvv
          have hmul : i.toNat * s.nc + s.nc ≤ n * s.nc := by
            have := Nat.mul_le_mul_right s.nc (show i.toNat + 1 ≤ n by omega)
            rwa [Nat.add_mul, Nat.one_mul] at this
          exact key s _ v b (off + i.toNat * s.nc) cur et (0, 0) h1 hm he hb (by omega) (CR.of_VRs s z _ hvv) h
        · cases h
      · cases h'
    · cases h
  · cases h
end
end Go.Vi
/-
  Vi: operations that change nothing that is there. Part 3: literals, elements' addresses, slices, made things.
-/
set_option linter.unusedVariables false
set_option linter.unusedSimpArgs false
namespace Go.Vi
section
variable {P : Program} {E : Env} {o : Oper} {ρv : Val} {H : Heap} {ρ : Type} {K : V → List (Nat × O) → Option ρ} {r : ρ} {x : Cx} {γ : Gam} {w : World} {a : Act}
theorem ints_get {kk : IntKind} : ∀ (cs : List C) (ns : List Int), ints kk cs = some ns → ∀ (j : Nat) (z : Int), ns[j]? = some z → cs[j]? = some (.int kk z)
  | [], ns, h, j, z, hj => by simp [ints] at h; subst h; simp at hj
  | c :: cs, ns, h, j, z, hj => by
    cases c <;> simp only [ints] at h
    all_goals first | (cases h; done) | skip
    split at h
    · rename_i hk
      subst hk
      simp only [Option.map_eq_some_iff] at h
      obtain ⟨ns', h1, rfl⟩ := h
      cases j with
      | zero => simp at hj; simp [hj]
      | succ j => simp at hj; simpa using ints_get cs ns' h1 j _ hj
    · cases h
theorem ints_length {kk : IntKind} : ∀ (cs : List C) (ns : List Int), ints kk cs = some ns → ns.length = cs.length
  | [], ns, h => by simp [ints] at h; subst h; rfl
  | c :: cs, ns, h => by
    cases c <;> simp only [ints] at h
    all_goals first | (cases h; done) | skip
    split at h
    · simp only [Option.map_eq_some_iff] at h
      obtain ⟨ns', h1, rfl⟩ := h
      simp [ints_length cs ns' h1]
    · cases h
theorem P_indexAddr {t : TypeId} {y z : Operand} (hT : TabOK P E.T) (ho : o.op = .indexAddr t y z) (h : evalP E o ρv H ρ K = some r) (hi : Inv x γ H w) (hv : Ops ρv H x γ w a) : Good P o H K r x γ w a := by
  simp only [evalP, ho] at h
  split at h
  · -- an own array
    rename_i k win tt kk n h1 h2
    obtain ⟨i, e, xs, nilE, hg, hH, hsl⟩ := hv _ _ h1
    have e2 := VR_int (hv _ _ h2)
    split at h
    · rename_i e' xs' n' es hH' hs
      rw [hH] at hH'
      cases hH'
      obtain ⟨hin, hk⟩ := cond_some h rfl
      clear h
      simp only [inB, Bool.and_eq_true, decide_eq_true_eq] at hin
      obtain ⟨he, hin⟩ := hin
      subst he
      obtain ⟨et, hu, hbe, hnc⟩ := (hT.sh t _ hs).sl e rfl
      obtain ⟨ii, d, zz, hii, hd, hsz, _⟩ := hbe.ex
      obtain ⟨ob, hob, hR⟩ := hi.own k _ hg
      rw [hH] at hob
      cases hob
      cases i with
      | emp =>
        have : xs = [] := hR
        subst this
        have : (view win ([] : List e.den)).length = 0 := by cases win <;> simp [view]
        omega
      | «at» b c =>
        obtain ⟨_, hxc, cur, et', hb, hcs, hel⟩ := hR
        have key : ∃ o' l cap, a.eval y = .slice (some ⟨b, o', none⟩) l cap ∧ l = (view win xs).length ∧ o' = wo win * e.nc := by
          cases win with
          | none => exact ⟨0, _, _, hsl.1, rfl, by simp [wo]⟩
          | some p =>
            obtain ⟨p, l⟩ := p
            obtain ⟨o', cap, g1, g2, g3, g4, g5, g6, g7⟩ := hsl
            have hl : (view (some (p, l)) xs).length = l := by simp [view]; omega
            exact ⟨o', l, cap, g1, hl.symm, g6 (by rw [hl] at hin; omega)⟩
        obtain ⟨o', l, cap, e1, hl, ho'⟩ := key
        refine good_same hk hi (u := .pointer (some ⟨b, o' + n.toNat * e.nc, none⟩)) ?_ ⟨b, c, e, xs, nilE, hg, hH, hin.1, hin.2, ?_⟩
        · have hc : 0 ≤ n ∧ n < (l : Int) := ⟨hin.1, by rw [hl]; exact hin.2⟩
          simp only [execOp, ho, Instr.indexAt, e1, e2, asIntOf, Sem.run_bind, Sem.run_pure, Result.andThen_ok, run_underlying hu, if_pos hc, run_sizeOf' hii, hsz, add_eq]
        · rw [ho', Nat.add_mul, Nat.add_zero]
    · cases h
  · -- data
    rename_i e xs tt kk n h1 h2
    obtain ⟨ad, cap, e1, hcap, _, hrow⟩ := hv _ _ h1
    have e2 := VR_int (hv _ _ h2)
    split at h
    case h_2 => cases h
    rename_i es hs
    obtain ⟨he, hk⟩ := cond_some h rfl
    clear h
    have he := of_decide_eq_true he
    subst he
    obtain ⟨et, hu, hbe, hnc⟩ := (hT.sh t _ hs).sl e rfl
    obtain ⟨ii, d, zz, hii, hd, hsz, _⟩ := hbe.ex
    obtain ⟨q, hq, h⟩ := Option.bind_eq_some_iff.1 hk
    obtain ⟨i0, i1, i2⟩ := idx_some hq
    rcases hrow with rfl | ⟨b, oo, cur, et', fz, rfl, hA, hb, hl, hel⟩
    · simp at i1
    · have hc : 0 ≤ n ∧ n < (xs.length : Int) := ⟨i0, by omega⟩
      refine good_same h hi (u := .pointer (some ⟨b, oo + n.toNat * e.nc, none⟩)) ?_ ⟨b, oo + n.toNat * e.nc, cur, et', fz, rfl, hA, hb, ?_, ?_⟩
      · simp only [execOp, ho, Instr.indexAt, e1, e2, asIntOf, Sem.run_bind, Sem.run_pure, Result.andThen_ok, run_underlying hu, if_pos hc, run_sizeOf' hii, hsz, add_eq]
      · rw [cells_length]
        have := Nat.mul_le_mul_right e.nc (show n.toNat + 1 ≤ xs.length by omega)
        rw [Nat.add_mul, Nat.one_mul] at this
        omega
      · rw [cells_length]
        exact CR.of_VRs e q _ (hel _ _ i2)
  · -- an array in a variable
    rename_i k off kk n h1 h2
    obtain ⟨b, c, hg, e1⟩ := hv _ _ h1
    have e2 := VR_int (hv _ _ h2)
    split at h
    · rename_i len e hs
      obtain ⟨et, hu, hbe, hnc⟩ := hT.arrs t len e hs
      obtain ⟨ii, d, zz, hii, hd, hsz, _⟩ := hbe.ex
      obtain ⟨hin, h⟩ := cond_some h rfl
      simp only [inB, Bool.and_eq_true, decide_eq_true_eq] at hin
      refine good_same h hi (u := .pointer (some ⟨b, off + n.toNat * e.nc, none⟩)) ?_ ⟨b, c, hg, hin.1, hin.2, rfl⟩
      have hc : 0 ≤ n ∧ n < (len : Int) := hin
      simp only [execOp, ho, Instr.indexAt, e1, e2, asIntOf, Sem.run_bind, Sem.run_pure, Result.andThen_ok, run_underlying hu, Instr.sureAddr, if_pos hc, run_sizeOf' hii, hsz, add_eq]
    · cases h
  · -- an array of numbers among the data
    rename_i cs kk n h1 h2
    obtain ⟨b, off, cur, et0, fz, e1, hA, hb, hl, hall⟩ := hv _ _ h1
    have e2 := VR_int (hv _ _ h2)
    split at h
    · rename_i len kk' hs
      obtain ⟨et, hu, hbe, hnc⟩ := hT.arrs t len _ hs
      obtain ⟨ii, d, zz, hii, hd, hsz, _⟩ := hbe.ex
      obtain ⟨hlen, h⟩ := cond_some h rfl
      have hlen := of_decide_eq_true hlen
      split at h
      · rename_i ns hns
        obtain ⟨q, hq, h⟩ := Option.bind_eq_some_iff.1 h
        obtain ⟨i0, i1, i2⟩ := idx_some hq
        have hnl := ints_length cs ns hns
        have hc : 0 ≤ n ∧ n < (len : Int) := ⟨i0, by omega⟩
        have hsz : ii.size = 1 := hsz
        have hget := ints_get cs ns hns _ _ i2
        obtain ⟨u, hu1, hu2⟩ := All2.get hall hget
        have hu2 : u = .int kk' q := hu2
        subst hu2
        rw [List.getElem?_take, if_pos (by omega), List.getElem?_drop] at hu1
        refine good_same h hi (u := .pointer (some ⟨b, off + n.toNat * 1, none⟩)) ?_ ⟨b, off + n.toNat * 1, cur, et0, fz, rfl, hA, hb, by simp only [List.length_cons, List.length_nil]; omega, ?_⟩
        · simp only [execOp, ho, Instr.indexAt, e1, e2, asIntOf, Sem.run_bind, Sem.run_pure, Result.andThen_ok, run_underlying hu, Instr.sureAddr, if_pos hc, run_sizeOf' hii, hsz, add_eq]
        · have hlt := (List.getElem?_eq_some_iff.1 hu1)
          obtain ⟨hlt, hlv⟩ := hlt
          rw [Nat.mul_one, List.drop_eq_getElem_cons hlt, hlv]
          exact ⟨rfl, trivial⟩
      · cases h
    · rename_i len e hne hs
      obtain ⟨et, hu, hbe, hnc⟩ := hT.arrs t len _ hs
      obtain ⟨ii, d, zz, hii, hd, hsz, _⟩ := hbe.ex
      obtain ⟨hlen, h⟩ := cond_some h rfl
      have hlen := of_decide_eq_true hlen
      split at h
      · rename_i xs hxs
        obtain ⟨q, hq, h⟩ := Option.bind_eq_some_iff.1 h
        obtain ⟨i0, i1, i2⟩ := idx_some hq
        have hxl := rowsC_len hxs
        have hc : 0 ≤ n ∧ n < (len : Int) := ⟨i0, by omega⟩
        have hvv := rowsC_VRs hxs hall _ _ i2
        have hmul : n.toNat * e.nc + e.nc ≤ len * e.nc := by
          have := Nat.mul_le_mul_right e.nc (show n.toNat + 1 ≤ len by omega)
          rwa [Nat.add_mul, Nat.one_mul] at this
        rw [List.drop_take, List.take_take, List.drop_drop, Nat.min_eq_left (by omega)] at hvv
        refine good_same h hi (u := .pointer (some ⟨b, off + n.toNat * e.nc, none⟩)) ?_ ⟨b, off + n.toNat * e.nc, cur, et0, fz, rfl, hA, hb, by rw [cells_length]; omega, ?_⟩
        · simp only [execOp, ho, Instr.indexAt, e1, e2, asIntOf, Sem.run_bind, Sem.run_pure, Result.andThen_ok, run_underlying hu, Instr.sureAddr, if_pos hc, run_sizeOf' hii, hsz, add_eq]
        · rw [cells_length]
          exact CR.of_VRs e q _ hvv
      · cases h
    · cases h
  · cases h
theorem P_index {t : TypeId} {y z : Operand} (hT : TabOK P E.T) (ho : o.op = .index t y z) (h : evalP E o ρv H ρ K = some r) (hi : Inv x γ H w) (hv : Ops ρv H x γ w a) : Good P o H K r x γ w a := by
  simp only [evalP, ho] at h
  split at h
  · rename_i len kk cs kk' n h0 h1 h2
    obtain ⟨vs, e1, hc⟩ := hv _ _ h1
    have e2 := VR_int (hv _ _ h2)
    obtain ⟨et, hu, hbe, hnc⟩ := hT.arrs t len _ h0
    have hbe' := hbe
    obtain ⟨ii, d, zz, hii, hd, hsz, _⟩ := hbe.ex
    obtain ⟨hd', h⟩ := cond_some h rfl
    have hd' := of_decide_eq_true hd'
    split at h
    · rename_i ns hns
      obtain ⟨q, hq, h⟩ := Option.bind_eq_some_iff.1 h
      obtain ⟨i0, i1, i2⟩ := idx_some hq
      have hln := ints_length _ _ hns
      have hl := hc.length
      obtain ⟨u, g1, g2⟩ := hc.get (ints_get _ _ hns _ _ i2)
      have hcc : 0 ≤ n ∧ n < (len : Int) := ⟨i0, by omega⟩
      have hp := run_part (P := P) (w := w) hbe' (vs := vs) (off := n.toNat * 1) (by simp [Sh.nc]; omega)
      refine good_same h hi (u := u) ?_ g2
      have hu2 : mkVal (.int kk) ((vs.drop (n.toNat * 1)).take (Sh.int kk).nc) = u := by
        simp [mkVal, Sh.agg, Sh.nc, List.getD, List.getElem?_take, List.getElem?_drop, g1]
      have hsz1 : ii.size = 1 := hsz
      rw [hu2] at hp
      simp only [execOp, ho, Instr.index, e1, e2, asIntOf, Sem.run_bind, Sem.run_pure, Result.andThen_ok, run_underlying hu, if_pos hcc, run_sizeOf' hii, hsz1, hp]
    · cases h
  · rename_i s kk' n h1 h2
    have e1 : a.eval y = .string s := hv _ _ h1
    have e2 := VR_int (hv _ _ h2)
    split at h
    · rename_i hs
      have hu := (hT.sh t _ hs).str rfl
      obtain ⟨q, hq, h⟩ := Option.bind_eq_some_iff.1 h
      obtain ⟨i0, i1, i2⟩ := idx_some hq
      obtain ⟨hn, hx⟩ := str_get i2
      refine good_same h hi (u := .int .u8 q) ?_ rfl
      simp only [execOp, ho, Instr.index, e1, e2, asIntOf, Sem.run_bind, Sem.run_pure, Result.andThen_ok, run_underlying hu, if_pos i0, ByteArray.getElem?_lt' s _ hn, hx]
    · cases h
  · rename_i len e cs kk' n hne h0 h1 h2
    obtain ⟨vs, e1, hc⟩ := hv _ _ h1
    have e2 := VR_int (hv _ _ h2)
    obtain ⟨et, hu, hbe, hnc⟩ := hT.arrs t len _ h0
    have hbe' := hbe
    obtain ⟨ii, d, zz, hii, hd, hsz, _⟩ := hbe.ex
    obtain ⟨hd', h⟩ := cond_some h rfl
    have hd' := of_decide_eq_true hd'
    split at h
    · rename_i xs hxs
      obtain ⟨q, hq, h⟩ := Option.bind_eq_some_iff.1 h
      obtain ⟨i0, i1, i2⟩ := idx_some hq
      split at h
      · rename_i v hm
        have hxl := rowsC_len hxs
        have hl := hc.length
        have hvv := rowsC_VRs hxs hc _ _ i2
        have hcc : 0 ≤ n ∧ n < (len : Int) := ⟨i0, by omega⟩
        have hmul : n.toNat * e.nc + e.nc ≤ len * e.nc := by
          have := Nat.mul_le_mul_right e.nc (show n.toNat + 1 ≤ len by omega)
          rwa [Nat.add_mul, Nat.one_mul] at this
        have hp := run_part (P := P) (w := w) hbe' (vs := vs) (off := n.toNat * e.nc) (by omega)
        refine good_same h hi (u := mkVal e ((vs.drop (n.toNat * e.nc)).take e.nc)) ?_ (mkV_VR hm (CR.of_VRs e q _ hvv))
        simp only [execOp, ho, Instr.index, e1, e2, asIntOf, Sem.run_bind, Sem.run_pure, Result.andThen_ok, run_underlying hu, if_pos hcc, run_sizeOf' hii, hsz, hp]
      · cases h
    · cases h
  · cases h
theorem run_bound {z : Operand} {k : IntKind} {n : Int} {m : Nat} {code : BoundsCode} (he : a.eval z = .int k n) (h : 0 ≤ n ∧ n ≤ m) : (Instr.sliceBound (a.eval z) m code).run P w = .ok n.toNat w := by
  simp only [Instr.sliceBound, he, asIntOf, Sem.run_bind, Sem.run_pure, Result.andThen_ok, if_pos h]
theorem optI_run {lo : Option Operand} {lo' : Option Int} (hv : Ops ρv H x γ w a) (h : optI ρv lo = some lo') : (lo = none ∧ lo' = none) ∨ ∃ z k n, lo = some z ∧ lo' = some n ∧ a.eval z = .int k n := by
  cases lo with
  | none => simp [optI] at h; exact .inl ⟨rfl, h.symm⟩
  | some z =>
    simp only [optI] at h
    split at h
    · rename_i k n h1
      cases h
      exact .inr ⟨z, k, n, rfl, rfl, VR_int (hv _ _ h1)⟩
    · cases h
def mxN (mx : Option Int) (n : Nat) : Nat := match mx with | some h => h.toNat | none => n
/-- The bounds of a slice expression, computed. -/
theorem run_bounds {lo hi mx : Option Operand} {lo' hi' mx' : Option Int} {isS : Bool} {len cap : Nat} (hv : Ops ρv H x γ w a) (h1 : optI ρv lo = some lo') (h2 : optI ρv hi = some hi') (h3 : optI ρv mx = some mx')
    (hb : bounds lo' hi' mx' len = true) (hlc : len ≤ cap) (hm : mx'.isSome = true → hi'.isSome = true) :
    (Instr.sliceBounds isS len cap (lo.map a.eval) (hi.map a.eval) (mx.map a.eval)).run P w = .ok (loN lo', hiN hi' len, mxN mx' cap) w ∧
      loN lo' ≤ hiN hi' len ∧ hiN hi' len ≤ len ∧ (∀ m, mx' = some m → m.toNat ≤ len ∧ hiN hi' len ≤ m.toNat ∧ 0 ≤ m) ∧ (∀ h, hi' = some h → 0 ≤ h) := by
  simp only [bounds, Bool.and_eq_true, decide_eq_true_eq] at hb
  obtain ⟨⟨⟨b1, b2⟩, b3⟩, b4⟩ := hb
  rcases optI_run hv h1 with ⟨rfl, rfl⟩ | ⟨z1, k1, n1, rfl, rfl, e1⟩ <;> rcases optI_run hv h2 with ⟨rfl, rfl⟩ | ⟨z2, k2, n2, rfl, rfl, e2⟩ <;> rcases optI_run hv h3 with ⟨rfl, rfl⟩ | ⟨z3, k3, n3, rfl, rfl, e3⟩
  all_goals first
    | (exfalso; simp at hm; done)
    | skip
  all_goals simp only at b1 b2 b3 b4
  all_goals
    refine ⟨?_, by simp only [loN, hiN]; omega, by simp only [hiN]; omega, ?_, ?_⟩
  all_goals first
    | (intro m hm'; first | (cases hm'; done) | (cases hm'; refine ⟨by omega, by simp only [hiN]; omega, by omega⟩); done)
    | (intro m hm'; first | (cases hm'; done) | (cases hm'; omega); done)
    | skip
  · simp only [Instr.sliceBounds, Option.map_none, Sem.run_bind, Sem.run_pure, Result.andThen_ok, loN, hiN, mxN]
  · simp only [Instr.sliceBounds, Option.map_none, Option.map_some, Sem.run_bind, Sem.run_pure, Result.andThen_ok, loN, hiN, mxN]
    rw [run_bound e2 (by omega)]
    simp only [Result.andThen_ok]
  · simp only [Instr.sliceBounds, Option.map_none, Option.map_some, Sem.run_bind, Sem.run_pure, Result.andThen_ok, loN, hiN, mxN]
    rw [run_bound e3 (by omega)]
    simp only [Result.andThen_ok]
    rw [run_bound e2 (by omega)]
    simp only [Result.andThen_ok]
  · simp only [Instr.sliceBounds, Option.map_none, Option.map_some, Sem.run_bind, Sem.run_pure, Result.andThen_ok, loN, hiN, mxN]
    rw [run_bound e1 (by omega)]
    simp only [Result.andThen_ok]
  · simp only [Instr.sliceBounds, Option.map_none, Option.map_some, Sem.run_bind, Sem.run_pure, Result.andThen_ok, loN, hiN, mxN]
    rw [run_bound e2 (by omega)]
    simp only [Result.andThen_ok]
    rw [run_bound e1 (by omega)]
    simp only [Result.andThen_ok]
  · simp only [Instr.sliceBounds, Option.map_none, Option.map_some, Sem.run_bind, Sem.run_pure, Result.andThen_ok, loN, hiN, mxN]
    rw [run_bound e3 (by omega)]
    simp only [Result.andThen_ok]
    rw [run_bound e2 (by omega)]
    simp only [Result.andThen_ok]
    rw [run_bound e1 (by omega)]
    simp only [Result.andThen_ok]
end
end Go.Vi
/-
  Vi: operations that change nothing that is there. Part 4: slice expressions, lengths, the greatest, closures, made things.
-/
set_option linter.unusedVariables false
set_option linter.unusedSimpArgs false
namespace Go.Vi
section
variable {P : Program} {E : Env} {o : Oper} {ρv : Val} {H : Heap} {ρ : Type} {K : V → List (Nat × O) → Option ρ} {r : ρ} {x : Cx} {γ : Gam} {w : World} {a : Act}
theorem exec_slice {t : TypeId} {y : Operand} {lo hi mx : Option Operand} {e : Sh} {lo' hi' mx' : Option Int} {ad : Option Addr} {len cap : Nat} (hT : TabOK P E.T) (ho : o.op = .slice t y lo hi mx) (hv : Ops ρv H x γ w a)
    (h1 : optI ρv lo = some lo') (h2 : optI ρv hi = some hi') (h3 : optI ρv mx = some mx') (hs : shOf E.T t = some (.sl e)) (hm : mx'.isSome = true → hi'.isSome = true)
    (hb : bounds lo' hi' mx' len = true) (hlc : len ≤ cap) (he : a.eval y = .slice ad len cap) :
    ∃ m, (execOp a.eval o).run P w = .ok (.value (.slice (if m = loN lo' then ad else ad.map (·.add (loN lo' * e.nc))) (hiN hi' len - loN lo') (m - loN lo'))) w ∧
      loN lo' ≤ hiN hi' len ∧ hiN hi' len ≤ len ∧ hiN hi' len ≤ m ∧ m ≤ cap ∧ (mx' = none → m = cap) ∧ (∀ k, mx' = some k → m = k.toNat) ∧ (∀ h, hi' = some h → 0 ≤ h) ∧ (∀ k, mx' = some k → 0 ≤ k) := by
  obtain ⟨et, hu, hbe, hnc⟩ := (hT.sh t _ hs).sl e rfl
  obtain ⟨ii, d, zz, hii, hd, hsz, _⟩ := hbe.ex
  obtain ⟨b1, b2, b3, b4, b5⟩ := run_bounds (P := P) (isS := true) hv h1 h2 h3 hb hlc hm
  refine ⟨mxN mx' cap, ?_, b2, b3, ?_, ?_, ?_, ?_, b5, ?_⟩
  · simp only [execOp, ho, Instr.sliceAt, he, Sem.run_bind, run_underlying hu, Result.andThen_ok, Instr.slice, b1, run_sizeOf' hii, hsz, Sem.run_pure]
  · cases mx' with
    | none => exact Nat.le_trans b3 hlc
    | some m => exact (b4 m rfl).2.1
  · cases mx' with
    | none => exact Nat.le_refl _
    | some m => exact Nat.le_trans (b4 m rfl).1 hlc
  · rintro rfl; rfl
  · rintro k rfl; rfl
  · rintro k rfl; exact (b4 k rfl).2.2
theorem tight_eq {tight : Bool} {hi mx : Option Int} {l m cap len : Nat} (ht : cutTight tight hi mx = true) (h1 : tight = true → cap = len) (hm1 : mx = none → m = cap) (hm2 : ∀ k, mx = some k → m = k.toNat) (hh : hiN hi len ≤ len) :
    m - l = hiN hi len - l := by
  unfold cutTight at ht
  split at ht
  · rename_i k
    split at ht
    · rename_i h
      have : h = k := by simpa using ht
      subst this
      rw [hm2 h rfl]
      rfl
    · cases ht
  · simp only [Bool.and_eq_true] at ht
    have : hi = none := by cases hi <;> simp_all
    subst this
    rw [hm1 rfl, h1 ht.1]
    rfl
theorem RowsAt.cut {A : Nat → Prop} {n : Nat} {α : Type} {Q : α → List Value → Prop} {xs : List α} {ad : Option Addr} (h : RowsAt w A n Q xs ad) (l m : Nat) (hl : l ≤ m) :
    RowsAt w A n Q ((xs.take m).drop l) (ad.map (·.add (l * n))) := by
  rcases h with rfl | ⟨b, oo, cur, et, fz, rfl, hA, hb, hlen, hel⟩
  · exact .inl (by simp)
  · by_cases hx : (xs.take m).drop l = []
    · exact .inl hx
    refine .inr ⟨b, oo + l * n, cur, et, fz, by simp [add_eq], hA, hb, ?_, ?_⟩
    · have h2 : ((xs.take m).drop l).length + l ≤ xs.length := by
        have : l < (xs.take m).length := by
          rcases Nat.lt_or_ge l (xs.take m).length with h3 | h3
          · exact h3
          · exact absurd (List.drop_eq_nil_of_le h3) hx
        simp only [List.length_drop, List.length_take] at this ⊢
        omega
      have := Nat.mul_le_mul_right n h2
      rw [Nat.add_mul] at this
      omega
    · intro i y hy
      rw [List.getElem?_drop, List.getElem?_take] at hy
      split at hy
      · have := hel _ y hy
        rw [Nat.add_mul, ← Nat.add_assoc] at this
        exact this
      · cases hy
theorem cutT_eq {tight : Bool} {hi mx : Option Int} (h : tightOK hi mx = true) : cutT tight hi mx = cutTight tight hi mx := by
  unfold tightOK at h
  unfold cutT cutTight
  cases mx with
  | none => rfl
  | some m =>
    cases hi with
    | none => cases h
    | some k => exact h.symm
theorem P_slice {t : TypeId} {y : Operand} {lo hi mx : Option Operand} (hT : TabOK P E.T) (ho : o.op = .slice t y lo hi mx) (h : evalP E o ρv H ρ K = some r) (hi' : Inv x γ H w) (hv : Ops ρv H x γ w a) : Good P o H K r x γ w a := by
  simp only [evalP, ho] at h
  split at h
  · rename_i lo1 hi1 mx1 e hlo hhi hmx hs
    split at h
    · -- an own array
      rename_i k win tight h1
      obtain ⟨i, e0, xs, nilE, hg, hH, hsl⟩ := hv _ _ h1
      split at h
      · rename_i e1 xs1 n1 hH1
        rw [hH] at hH1
        cases hH1
        obtain ⟨hc, hk⟩ := cond_some h rfl
        clear h
        simp only [Bool.and_eq_true, decide_eq_true_eq] at hc
        obtain ⟨⟨⟨he, hm⟩, htk⟩, hb⟩ := hc
        rw [cutT_eq htk] at hk
        subst he
        have hm' : mx1.isSome = true → hi1.isSome = true := by
          intro hh
          simpa [hh] using hm
        obtain ⟨ob, hob, hR⟩ := hi'.own k _ hg
        rw [hH] at hob
        cases hob
        cases i with
        | emp =>
          obtain ⟨ad, e1, e2, e3, e4⟩ := hsl
          have hx : xs = [] := hR
          have hv0 : (view win xs).length = 0 := by subst hx; cases win <;> simp [view]
          rw [hv0] at hb hk
          obtain ⟨m, hrun, m1, m2, m3, m4, m5, m6, m7, m8⟩ := exec_slice hT ho hv hlo hhi hmx hs hm' hb (Nat.le_refl 0) e1
          have hl0 : loN lo1 = 0 := by omega
          have hh0 : hiN hi1 0 = 0 := by omega
          have hm0 : m = 0 := by omega
          rw [hl0, hh0, hm0] at hrun
          rw [hl0, hh0] at hk
          refine good_same hk hi' hrun ⟨.emp, e0, xs, nilE, hg, hH, ad, by simp, e2, e3, ?_⟩
          intro p l hpl
          cases win with
          | none => simp [cutWin] at hpl; omega
          | some q =>
            obtain ⟨p', l'⟩ := q
            have := e4 p' l' rfl
            simp [cutWin] at hpl
            omega
        | «at» b c =>
          have key : ∃ oo p cap, a.eval y = .slice (some ⟨b, oo, none⟩) (view win xs).length cap ∧ (view win xs).length ≤ cap ∧ p + cap ≤ c ∧ (tight = true → cap = (view win xs).length) ∧ (0 < cap → oo = p * e0.nc) ∧ (p = 0 → oo = 0) ∧
              p + (view win xs).length ≤ xs.length ∧ ∀ l h, cutWin win l h = some (p + l, h - l) := by
            cases win with
            | none =>
              obtain ⟨g1, g2, g3⟩ := hsl
              refine ⟨0, 0, c, g1, g2, by omega, g3, by simp, fun _ => rfl, ?_, fun l h => rfl⟩
              show 0 + xs.length ≤ _
              omega
            | some q =>
              obtain ⟨p, l⟩ := q
              obtain ⟨oo, cap, g1, g2, g3, g4, g5, g6, g7⟩ := hsl
              have hl : (view (some (p, l)) xs).length = l := by simp [view]; omega
              exact ⟨oo, p, cap, by rw [hl]; exact g1, by omega, g4, by rw [hl]; exact g5, g6, g7, by omega, fun l h => rfl⟩
          obtain ⟨oo, p, cap, g1, g2, g3, g4, g5, g6, g7, g8⟩ := key
          obtain ⟨m, hrun, m1, m2, m3, m4, m5, m6, m7, m8⟩ := exec_slice hT ho hv hlo hhi hmx hs hm' hb g2 g1
          rw [g8] at hk
          refine good_same hk hi' hrun ⟨.at b c, e0, xs, nilE, hg, hH, ?_⟩
          refine ⟨if m = loN lo1 then oo else oo + loN lo1 * e0.nc, m - loN lo1, ?_, by omega, by omega, by omega, fun ht => tight_eq ht g4 m5 m6 m2, ?_, ?_⟩
          · split <;> simp [add_eq]
          · intro hp
            rw [if_neg (by omega), g5 (by omega), Nat.add_mul]
          · intro hp
            have hl0 : loN lo1 = 0 := by omega
            have := g6 (by omega)
            split <;> simp [this, hl0]
      · cases h
    · -- data
      rename_i e0 xs tight h1
      obtain ⟨ad, cap, e1, hcap, htt, hrow⟩ := hv _ _ h1
      obtain ⟨hc, hk⟩ := cond_some h rfl
      clear h
      simp only [Bool.and_eq_true, decide_eq_true_eq] at hc
      obtain ⟨⟨⟨he, hm⟩, htk⟩, hb⟩ := hc
      rw [cutT_eq htk] at hk
      subst he
      have hm' : mx1.isSome = true → hi1.isSome = true := by
        intro hh
        simpa [hh] using hm
      obtain ⟨m, hrun, m1, m2, m3, m4, m5, m6, m7, m8⟩ := exec_slice hT ho hv hlo hhi hmx hs hm' hb hcap e1
      have hlist : cutHi hi1 xs = xs.take (hiN hi1 xs.length) := by
        cases hi1 with
        | none => simp [hiN, cutHi]
        | some h => rfl
      rw [hlist] at hk
      have hlen : ((xs.take (hiN hi1 xs.length)).drop (loN lo1)).length = hiN hi1 xs.length - loN lo1 := by simp; omega
      refine good_same hk hi' hrun ⟨_, _, by rw [hlen], by rw [hlen]; omega, fun ht => by rw [hlen]; exact tight_eq ht htt m5 m6 m2, ?_⟩
      by_cases hml : m = loN lo1
      · refine .inl ?_
        apply List.eq_nil_of_length_eq_zero
        rw [hlen]
        omega
      · rw [if_neg hml]
        exact hrow.cut _ _ m1
    · cases h
  · -- a string
    rename_i lo1 hi1 hlo hhi hmx hs
    split at h
    · rename_i s1 h1
      have e1 : a.eval y = .string s1 := hv _ _ h1
      obtain ⟨hb, h⟩ := cond_some h rfl
      have hu := (hT.sh t _ hs).str rfl
      have hmx' : mx = none := by
        rcases optI_run hv hmx with ⟨e, _⟩ | ⟨_, _, _, _, e, _⟩
        · exact e
        · cases e
      subst hmx'
      simp only [bounds, Bool.and_eq_true, decide_eq_true_eq] at hb
      obtain ⟨⟨⟨b1, b2⟩, b3⟩, b4⟩ := hb
      refine good_same h hi' (u := .string (strCut lo1 hi1 s1)) ?_ rfl
      rw [← strCut_eq]
      rcases optI_run hv hlo with ⟨rfl, rfl⟩ | ⟨z1, k1, n1, rfl, rfl, g1⟩ <;> rcases optI_run hv hhi with ⟨rfl, rfl⟩ | ⟨z2, k2, n2, rfl, rfl, g2⟩
      · simp [execOp, ho, Instr.sliceAt, Instr.slice, e1, run_underlying hu, Instr.sliceBounds, loN, hiN]
      · simp only at b1 b2 b3
        have hb2 := run_bound (P := P) (w := w) (code := .sliceAlen) g2 (show 0 ≤ n2 ∧ n2 ≤ (s1.size : Int) by omega)
        simp [execOp, ho, Instr.sliceAt, Instr.slice, e1, run_underlying hu, Instr.sliceBounds, loN, hiN, hb2]
      · simp only at b1 b2 b3
        have hb1 := run_bound (P := P) (w := w) (code := .sliceB) g1 (show 0 ≤ n1 ∧ n1 ≤ (s1.size : Int) by omega)
        simp [execOp, ho, Instr.sliceAt, Instr.slice, e1, run_underlying hu, Instr.sliceBounds, loN, hiN, hb1]
      · simp only at b1 b2 b3
        have hb2 := run_bound (P := P) (w := w) (code := .sliceAlen) g2 (show 0 ≤ n2 ∧ n2 ≤ (s1.size : Int) by omega)
        have hb1 := run_bound (P := P) (w := w) (code := .sliceB) g1 (show 0 ≤ n1 ∧ n1 ≤ (n2.toNat : Int) by omega)
        simp [execOp, ho, Instr.sliceAt, Instr.slice, e1, run_underlying hu, Instr.sliceBounds, loN, hiN, hb1, hb2]
    · cases h
  · cases h
theorem opVs_VR : ∀ {ys : List Operand} {vs : List V}, Ops ρv H x γ w a → opVs ρv ys = some vs → All2 (VR γ w (Av x γ w) H) vs (ys.map a.eval)
  | [], vs, hv, h => by simp [opVs] at h; subst h; trivial
  | y :: ys, vs, hv, h => by
    simp only [opVs] at h
    split at h
    · rename_i v vs' h1 h2
      cases h
      exact ⟨hv _ _ h1, opVs_VR hv h2⟩
    · cases h
theorem VR_flat {v : V} {u : Value} (hf : v.flat = true) (h : VR γ w (Av x γ w) H v u) : VR1 γ w (Av x γ w) H v u := by
  cases v <;> first | exact h | simp [V.flat] at hf
theorem All2.flat : ∀ {vs : List V} {us : List Value}, vs.all V.flat = true → All2 (VR γ w (Av x γ w) H) vs us → All2 (VR1 γ w (Av x γ w) H) vs us
  | [], [], _, _ => trivial
  | v :: vs, u :: us, hf, h => by
    simp only [List.all_cons, Bool.and_eq_true] at hf
    exact ⟨VR_flat hf.1 h.1, All2.flat hf.2 h.2⟩
  | [], _ :: _, _, h => h.elim
  | _ :: _, [], _, h => h.elim
theorem P_makeFunc {fn : Fn} {first caps : Array Operand} (ho : o.op = .makeFunc fn first caps) (h : evalP E o ρv H ρ K = some r) (hi : Inv x γ H w) (hv : Ops ρv H x γ w a) : Good P o H K r x γ w a := by
  simp only [evalP, ho] at h
  split at h
  · rename_i f vs h1 h2
    obtain ⟨hf, h⟩ := cond_some h rfl
    have h3 := All2.flat hf (opVs_VR hv h2)
    have hfirst : first = #[] := by simpa using h1
    refine good_same h hi (u := .func (.func f) #[] (caps.toList.map a.eval).toArray) ?_ ⟨_, rfl, h3⟩
    subst hfirst
    have : (caps.toList.map a.eval).toArray = caps.map a.eval := by
      apply Array.ext'
      rw [Array.toList_map]
    rw [this]
    simp [execOp, ho, Instr.makeFunc]
  · cases h
theorem P_makeMap {t : TypeId} (hT : TabOK P E.T) (ho : o.op = .makeMap t none) (h : evalP E o ρv H ρ K = some r) (hi : Inv x γ H w) : Good P o H K r x γ w a := by
  simp only [evalP, ho] at h
  split at h
  · rename_i kk e hs
    refine ⟨_, _, h, .inl ⟨.map (some w.heap.size), w.alloc (.map #[] 0), ?_, Res.new (i := .at w.heap.size 0) hi (Grows.alloc w _) (by simp) (fun _ _ e => by cases e) ?_ ?_⟩⟩
    · simp only [execOp, ho, Instr.makeMap, Option.map_none, Sem.run_bind, Sem.run_pure, Result.andThen_ok, run_newObj]
      rfl
    · exact ⟨#[], 0, heap_new w _, trivial⟩
    · exact ⟨w.heap.size, 0, by simp [gset], rfl⟩
  · cases h
theorem run_maxes {k : IntKind} : ∀ (vs : List V) (us : List Value) (n m : Int), max2 k n vs = some m → All2 (VR γ w (Av x γ w) H) vs us → (us.foldlM Builtin.max2 (.int k n)).run P w = .ok (.int k m) w
  | [], [], n, m, h, _ => by simp [max2] at h; subst h; simp
  | v :: vs, u :: us, n, m, h, hv => by
    cases v with
    | c c0 =>
      cases c0 with
      | int k' y =>
        simp only [max2] at h
        split at h
        · rename_i hk
          subst hk
          have e1 := VR_int hv.1
          subst e1
          simp only [List.foldlM_cons, Sem.run_bind, Builtin.max2, Sem.run_pure, Result.andThen_ok]
          exact run_maxes vs us _ m h hv.2
        · cases h
      | _ => simp [max2] at h
    | _ => simp [max2] at h
  | [], _ :: _, _, _, _, h => h.elim
  | _ :: _, [], _, _, _, h => h.elim
theorem run_mins {k : IntKind} : ∀ (vs : List V) (us : List Value) (n m : Int), min2 k n vs = some m → All2 (VR γ w (Av x γ w) H) vs us → (us.foldlM Builtin.min2 (.int k n)).run P w = .ok (.int k m) w
  | [], [], n, m, h, _ => by simp [min2] at h; subst h; simp
  | v :: vs, u :: us, n, m, h, hv => by
    cases v with
    | c c0 =>
      cases c0 with
      | int k' y =>
        simp only [min2] at h
        split at h
        · rename_i hk
          subst hk
          have e1 := VR_int hv.1
          subst e1
          simp only [List.foldlM_cons, Sem.run_bind, Builtin.min2, Sem.run_pure, Result.andThen_ok]
          exact run_mins vs us _ m h hv.2
        · cases h
      | _ => simp [min2] at h
    | _ => simp [min2] at h
  | [], _ :: _, _, _, _, h => h.elim
  | _ :: _, [], _, _, _, h => h.elim
theorem exec_builtin {c : Call} {b : Builtin} (ho : o.op = .call c) (hc : c.callee = .builtin b) {u : Value} {w' : World}
    (h : (builtin b c.argTypes o.type (c.args.map fun | .const _ => true | _ => false) (c.args.map a.eval)).run P w = .ok (.value u) w') : (execOp a.eval o).run P w = .ok (.value u) w' := by
  simp only [execOp, ho, resolve, hc, Sem.run_bind, Sem.run_pure, Result.andThen_ok, invoke]
  exact h
theorem P_max {c : Call} (ho : o.op = .call c) (hc : c.callee = .builtin .max) (h : evalP E o ρv H ρ K = some r) (hi : Inv x γ H w) (hv : Ops ρv H x γ w a) : Good P o H K r x γ w a := by
  simp only [evalP, ho, hc] at h
  split at h
  · rename_i k n vs h1
    have h2 := opVs_VR hv h1
    split at h
    · rename_i m hm
      refine good_same h hi (exec_builtin ho hc ?_) (rfl : VR γ w (Av x γ w) H (.c (.int k m)) (.int k m))
      cases hargs : c.args.toList with
      | nil => rw [hargs] at h2; exact h2.elim
      | cons y ys =>
        rw [hargs] at h2
        have e1 := VR_int h2.1
        have hl : (c.args.map a.eval).toList = .int k n :: ys.map a.eval := by simp [hargs, e1]
        simp only [builtin, Builtin.max_, hl, Sem.run_bind, run_maxes vs _ n m hm h2.2, Result.andThen_ok, Sem.run_pure]
    · cases h
  · cases h
theorem P_min {c : Call} (ho : o.op = .call c) (hc : c.callee = .builtin .min) (h : evalP E o ρv H ρ K = some r) (hi : Inv x γ H w) (hv : Ops ρv H x γ w a) : Good P o H K r x γ w a := by
  simp only [evalP, ho, hc] at h
  split at h
  · rename_i k n vs h1
    have h2 := opVs_VR hv h1
    split at h
    · rename_i m hm
      refine good_same h hi (exec_builtin ho hc ?_) (rfl : VR γ w (Av x γ w) H (.c (.int k m)) (.int k m))
      cases hargs : c.args.toList with
      | nil => rw [hargs] at h2; exact h2.elim
      | cons y ys =>
        rw [hargs] at h2
        have e1 := VR_int h2.1
        have hl : (c.args.map a.eval).toList = .int k n :: ys.map a.eval := by simp [hargs, e1]
        simp only [builtin, Builtin.min_, hl, Sem.run_bind, run_mins vs _ n m hm h2.2, Result.andThen_ok, Sem.run_pure]
    · cases h
  · cases h
end
end Go.Vi
/-
  Vi: operations that change nothing that is there. Part 5: len, cap, make, look-ups, literals.
-/
set_option linter.unusedVariables false
set_option linter.unusedSimpArgs false
namespace Go.Vi
section
variable {P : Program} {E : Env} {o : Oper} {ρv : Val} {H : Heap} {ρ : Type} {K : V → List (Nat × O) → Option ρ} {r : ρ} {x : Cx} {γ : Gam} {w : World} {a : Act}
/-- The elements of a slice and the slice itself. -/
theorem elems_slice {v : V} {u : Value} {e : Sh} {xs : List e.den} (hi : Inv x γ H w) (hv : VR γ w (Av x γ w) H v u) (h : elems H v = some ⟨e, xs⟩) :
    ∃ ad cap, u = .slice ad xs.length cap ∧ xs.length ≤ cap := by
  unfold elems at h
  split at h
  · rename_i k win tt
    split at h
    · rename_i xe xs0 n hH
      obtain ⟨i, e0, xs1, nilE, hg, hH', hsl⟩ := hv
      rw [hH] at hH'
      cases hH'
      cases h
      cases i with
      | emp =>
        obtain ⟨ad, e1, _, h0, h1⟩ := hsl
        have : (view win xs0).length = 0 := by cases win <;> simp [view, h0]
        exact ⟨ad, 0, by rw [this]; exact e1, by rw [this]; exact Nat.le_refl _⟩
      | «at» b c =>
        cases win with
        | none => exact ⟨_, _, hsl.1, hsl.2.1⟩
        | some p =>
          obtain ⟨p, l⟩ := p
          obtain ⟨oo, cap, g1, g2, g3, _⟩ := hsl
          have hl : (view (some (p, l)) xs0).length = l := by simp [view]; omega
          exact ⟨_, cap, by rw [hl]; exact g1, by rw [hl]; exact g3⟩
    · cases h
  · cases h
    obtain ⟨ad, cap, h1, h2, _⟩ := hv
    exact ⟨ad, cap, h1, h2⟩
  · cases h
theorem P_len {c : Call} (hT : TabOK P E.T) (ho : o.op = .call c) (hc : c.callee = .builtin .len) (h : evalP E o ρv H ρ K = some r) (hi : Inv x γ H w) (hv : Ops ρv H x γ w a) : Good P o H K r x γ w a := by
  simp only [evalP, ho, hc] at h
  split at h
  · rename_i y t ts hargs htys
    have ht : c.argTypes[0]? = some t := by
      have : c.argTypes.toList[0]? = some t := by rw [htys]; rfl
      simpa using this
    have hx : (c.args.map a.eval)[0]? = some (a.eval y) := by
      have : c.args.toList[0]? = some y := by rw [hargs]; rfl
      have : c.args[0]? = some y := by simpa using this
      simp [this]
    split at h
    · rename_i s h1
      split at h
      · rename_i hs
        have e1 : a.eval y = .string s := hv _ _ h1
        refine good_same h hi (exec_builtin ho hc ?_) (rfl : VR γ w (Av x γ w) H (.c (.int .i64 (s.size : Int))) (.int .i64 (s.size : Int)))
        simp [builtin, Builtin.len_, ht, hx, e1, run_underlying ((hT.sh t _ hs).str rfl), goInt]
      · cases h
    · rename_i k h1
      obtain ⟨b, cc, hg, e1⟩ := hv _ _ h1
      split at h
      · rename_i kk e m p hH hm
        obtain ⟨kk', e'⟩ := p
        obtain ⟨kt, et, hu, _⟩ := hT.maps t kk' e' hm
        obtain ⟨ob, hob, hR⟩ := hi.own k _ hg
        rw [hH] at hob
        cases hob
        obtain ⟨es, clock, hb, hes⟩ := hR
        have hl := hes.length
        refine good_same h hi (exec_builtin ho hc ?_) (rfl : VR γ w (Av x γ w) H (.c (.int .i64 (m.length : Int))) (.int .i64 (m.length : Int)))
        have hget : (getObj b).run P w = .ok (.map es clock) w := by simp [getObj, Sem.run, hb]
        simp [builtin, Builtin.len_, ht, hx, e1, run_underlying hu, goInt, hget, hl]
      · cases h
    · rename_i v _ _ h1
      split at h
      · rename_i e xs e' hel hs
        obtain ⟨et, hu, _⟩ := (hT.sh t _ hs).sl _ rfl
        obtain ⟨ad, cap, e1, _⟩ := elems_slice hi (hv _ _ h1) hel
        refine good_same h hi (exec_builtin ho hc ?_) (rfl : VR γ w (Av x γ w) H (.c (.int .i64 (xs.length : Int))) (.int .i64 (xs.length : Int)))
        simp [builtin, Builtin.len_, ht, hx, e1, run_underlying hu, goInt]
      · cases h
    · cases h
  · cases h
theorem P_cap {c : Call} (hT : TabOK P E.T) (ho : o.op = .call c) (hc : c.callee = .builtin .cap) (h : evalP E o ρv H ρ K = some r) (hi : Inv x γ H w) (hv : Ops ρv H x γ w a) : Good P o H K r x γ w a := by
  simp only [evalP, ho, hc] at h
  split at h
  · rename_i y t ts hargs htys
    have ht : c.argTypes[0]? = some t := by
      have : c.argTypes.toList[0]? = some t := by rw [htys]; rfl
      simpa using this
    have hx : (c.args.map a.eval)[0]? = some (a.eval y) := by
      have : c.args.toList[0]? = some y := by rw [hargs]; rfl
      have : c.args[0]? = some y := by simpa using this
      simp [this]
    split at h
    · rename_i e xs e' h1 hs
      obtain ⟨et, hu, _⟩ := (hT.sh t _ hs).sl _ rfl
      obtain ⟨ad, cap, e1, _, e3, _⟩ := hv _ _ h1
      refine good_same h hi (exec_builtin ho hc ?_) (rfl : VR γ w (Av x γ w) H (.c (.int .i64 (xs.length : Int))) (.int .i64 (xs.length : Int)))
      simp [builtin, Builtin.cap_, ht, hx, e1, run_underlying hu, goInt, e3 rfl]
    · cases h
  · cases h
/-- Rows of zero elements. -/
theorem zeros_get (z : Array Value) (n : Nat) (hz : 0 < z.size) {i : Nat} (hi : i < n) :
    ((((Array.range (n * z.size)).map fun j => z[j % z.size]!).toList.drop (i * z.size)).take z.size) = z.toList := by
  have hlen : i * z.size + z.size ≤ n * z.size := by
    have := Nat.mul_le_mul_right z.size (show i + 1 ≤ n by omega)
    rwa [Nat.add_mul, Nat.one_mul] at this
  apply List.ext_getElem?
  intro j
  by_cases hj : j < z.size
  · rw [List.getElem?_take, if_pos hj, List.getElem?_drop]
    have h1 : i * z.size + j < n * z.size := by omega
    have h2 : (i * z.size + j) % z.size = j := by
      rw [Nat.add_comm, Nat.add_mul_mod_self_right, Nat.mod_eq_of_lt hj]
    simp [h1, h2, hj]
  · rw [List.getElem?_take, if_neg hj]
    simp; omega
theorem VRs_zero {A : Nat → Prop} : ∀ (s : Sh), ofC s (cells s (zero s)) = some (zero s)
  | .int _ => by simp [cells, ofC, zero]
  | .bool => rfl
  | .str => rfl
  | .unit => rfl
  | .sl _ => by simp [cells, ofC, zero]
  | .pair a b => by
    have l1 := cells_length a (zero a)
    simp only [cells, ofC, zero]
    rw [List.take_append_of_le_length (by omega), List.take_of_length_le (by omega), VRs_zero (A := A) a]
    rw [List.drop_append_of_le_length (by omega), List.drop_of_length_le (by omega), List.nil_append, VRs_zero (A := A) b]
theorem run_wrap_small {n : Int} (h0 : 0 ≤ n) (h1 : n ≤ 1073741824) : IntKind.i64.wrap n = n := IntWalk.i64_in n ⟨by omega, by omega⟩
theorem P_makeSlice {t : TypeId} {y z : Operand} (hT : TabOK P E.T) (ho : o.op = .makeSlice t y z) (h : evalP E o ρv H ρ K = some r) (hi : Inv x γ H w) (hv : Ops ρv H x γ w a) : Good P o H K r x γ w a := by
  simp only [evalP, ho] at h
  split at h
  · rename_i e n m hs h1 h2
    have e1 := VR_int (hv _ _ h1)
    have e2 := VR_int (hv _ _ h2)
    obtain ⟨hd, h⟩ := cond_some h rfl
    simp only [Bool.and_eq_true, decide_eq_true_eq] at hd
    obtain ⟨⟨d1, d2⟩, d3⟩ := hd
    obtain ⟨et, hu, hbe, hnc⟩ := (hT.sh t _ hs).sl e rfl
    obtain ⟨ii, d, zz, hii, hd', hsz, hby, hz, hzz, hag⟩ := hbe.ex
    have hlim : (m : Int) ≤ 1073741824 := d3
    have w1 := run_wrap_small d1 (by omega)
    have w2 := run_wrap_small (n := m) (by omega) hlim
    have hzl : zz.cells.size = e.nc := by
      have := (zeroB_all2 (w := w) (A := fun _ => True) hzz).length
      rw [cells_length] at this
      simpa using this.symm
    have hbm : ¬ ((ii.bytes : Int) * m > 2 ^ 48) := by
      have : (ii.bytes : Int) * m ≤ 4096 * 1073741824 := Int.mul_le_mul (by omega) hlim (by omega) (by omega)
      omega
    have hbn : ¬ ((ii.bytes : Int) * n > 2 ^ 48) := by
      have : (ii.bytes : Int) * n ≤ 4096 * 1073741824 := Int.mul_le_mul (by omega) (by omega) (by omega) (by omega)
      omega
    let row : Array Value := (Array.range (m.toNat * e.nc)).map fun j => (if m.toNat * e.nc = 0 then #[] else zz.cells)[j % (if m.toNat * e.nc = 0 then #[] else zz.cells).size]!
    have hrun : (execOp a.eval o).run P w = .ok (.value (.slice (some ⟨w.heap.size, 0, none⟩) n.toNat m.toNat)) (w.alloc (.cells row et)) := by
      have hz' : (zeroValue et).run P w = .ok zz w := by simp [zeroValue, typeInfo, hii, hz]
      simp only [execOp, ho, Instr.makeSlice, e1, e2, Sem.run_bind, run_underlying hu, Result.andThen_ok, asInt, asIntOf, Sem.run_pure, info_run hii, w1, w2]
      rw [if_neg (by simp; omega)]
      simp only [Sem.run_bind, run_askRoom, Result.andThen_ok, run_sizeOf' hii, hsz, Sem.run_pure]
      by_cases hzero : m.toNat * e.nc = 0
      · simp only [hzero, if_true, Sem.run_pure, Result.andThen_ok, Sem.run_bind, newRow, run_newObj, row]
        rfl
      · simp only [hzero, if_false, Sem.run_pure, Result.andThen_ok, Sem.run_bind, newRow, run_newObj, row, hz']
        rfl
    refine ⟨_, _, h, .inl ⟨_, _, hrun, Res.new (i := .at w.heap.size m.toNat) hi (Grows.alloc w _) (by simp) NoOsl.arr ?_ ?_⟩⟩
    · refine ⟨by simp, by simp; omega, row, et, heap_new w _, by simp [row], fun i q hq => ?_⟩
      have hin : i < n.toNat := by
        have := (List.getElem?_eq_some_iff.1 hq).1
        simpa using this
      have hq' : q = zero e := by
        have := List.getElem?_eq_some_iff.1 hq
        obtain ⟨_, h3⟩ := this
        simpa using h3.symm
      subst hq'
      have hmz : m.toNat * e.nc ≠ 0 := Nat.mul_ne_zero (by omega) (by omega)
      have hrow : ((row.toList.drop (i * e.nc)).take e.nc) = zz.cells.toList := by
        have := zeros_get zz.cells m.toNat (by omega) (i := i) (by omega)
        rw [hzl] at this
        simp only [row, if_neg hmz, hzl]
        exact this
      rw [hrow]
      exact VRs.of_ofC e _ _ _ (VRs_zero (A := fun _ => True) e) (zeroB_all2 hzz)
    · refine ⟨.at w.heap.size m.toNat, e, List.replicate n.toNat (zero e), false, by simp [gset], by simp [upd], ?_⟩
      exact ⟨by simp, by simp; omega, by simp⟩
  · cases h
end
end Go.Vi
/-
  Vi: operations that change nothing that is there. Part 6: literals of structs, arrays and slices.
-/
set_option linter.unusedVariables false
set_option linter.unusedSimpArgs false
namespace Go.Vi
theorem fold_set (vs : List Value) : ∀ (off n : Nat) (cells : Array Value), off + n + vs.length ≤ cells.size →
    ((vs.zipIdx n).foldl (fun cs (c, j) => cs.setIfInBounds (off + j) c) cells).toList = cells.toList.take (off + n) ++ vs ++ cells.toList.drop (off + n + vs.length) := by
  induction vs with
  | nil => intro off n cells h; simp
  | cons v vs ih =>
    intro off n cells h
    simp only [List.length_cons] at h
    simp only [List.zipIdx_cons, List.foldl_cons]
    rw [ih off (n + 1) _ (by simp; omega)]
    have h1 : off + n < cells.toList.length := by simp; omega
    simp only [Array.toList_setIfInBounds, List.length_cons]
    rw [show off + (n + 1) = off + n + 1 by omega]
    rw [List.take_set, List.drop_set_of_lt (by omega)]
    rw [List.take_succ_eq_append_getElem h1, List.set_append_right _ _ (by simp; omega)]
    simp only [List.length_take]
    rw [show off + n - min (off + n) cells.toList.length = 0 by omega]
    simp only [List.set_cons_zero, List.append_assoc, List.singleton_append, List.cons_append]
    congr 2
    rw [show off + n + 1 + vs.length = off + n + (vs.length + 1) by omega]
    rfl
theorem replace_eq (cs : List C) (off : Nat) (vs : List C) : replace cs off vs = cs.take off ++ vs ++ cs.drop (off + vs.length) := rfl
section
variable {P : Program} {E : Env} {o : Oper} {ρv : Val} {H : Heap} {ρ : Type} {K : V → List (Nat × O) → Option ρ} {r : ρ} {x : Cx} {γ : Gam} {w : World} {a : Act}
theorem All2.replace {A : Nat → Prop} {cs vs : List C} {us ws : List Value} {off : Nat} (h : All2 (CR w A) cs us) (hv : All2 (CR w A) vs ws) :
    All2 (CR w A) (replace cs off vs) (us.take off ++ ws ++ us.drop (off + ws.length)) := by
  rw [replace_eq, hv.length]
  exact ((h.take off).append hv).append (h.drop _)
def evParts (a : Act) (ps : List (Nat × Operand)) : List (Nat × Value) := ps.map fun (i, y) => (i, a.eval y)
theorem fill_parts {fs : List Sh} {pl : Nat → Option (Nat × Nat)} (hpl : ∀ j s, fs[j]? = some s → pl j = some (fieldOff fs j, s.nc)) :
    ∀ (ps : List (Nat × Operand)) (cs cs' : List C) (cells : Array Value), Ops ρv H x γ w a → All2 (CR w (Av x γ w)) cs cells.toList → partsFill fs ρv cs ps = some cs' →
      ∃ cells', Instr.fill pl cells (evParts a ps) = some cells' ∧ All2 (CR w (Av x γ w)) cs' cells'.toList
  | [], cs, cs', cells, hv, hc, h => by
    simp [partsFill] at h
    subst h
    exact ⟨cells, rfl, hc⟩
  | (j, y) :: ps, cs, cs', cells, hv, hc, h => by
    simp only [partsFill] at h
    split at h
    · rename_i vs s h1 h2
      obtain ⟨hd, h⟩ := cond_some h rfl
      simp only [Bool.and_eq_true, decide_eq_true_eq] at hd
      obtain ⟨v, g1, g2⟩ := Option.bind_eq_some_iff.1 h1
      have hcv := cellsOf_VR g2 (hv y v g1)
      have hl := hcv.length
      have hcl := hc.length
      simp only [Array.length_toList] at hl hcl
      have hfold := fold_set (a.eval y).cells.toList (fieldOff fs j) 0 cells (by simp; omega)
      simp only [evParts, List.map_cons, Instr.fill, hpl j s h2]
      rw [if_neg (by simp; omega)]
      have hz : (a.eval y).cells.zipIdx.toList = (a.eval y).cells.toList.zipIdx 0 := by simp [Array.toList_zipIdx]
      rw [← Array.foldl_toList, hz]
      refine fill_parts hpl ps _ cs' _ hv ?_ h
      rw [hfold]
      exact hc.replace hcv
    · cases h
theorem run_build' {t : TypeId} {parts : Array (Nat × Operand)} {cells : Array Value} (ho : o.op = .build t parts) (h : P.built t (evParts a parts.toList) = some cells) : (execOp a.eval o).run P w = .ok (.value (.agg cells)) w := by
  have hp : (parts.map fun (i, y) => (i, a.eval y)).toList = evParts a parts.toList := by simp [evParts]
  have := run_build (P := P) w t (parts.map fun (i, y) => (i, a.eval y)) cells (by rw [hp]; exact h)
  simp only [execOp, ho, Sem.run_bind, this, Result.andThen_ok, Sem.run_pure]
theorem places_ok {fs : List Sh} : ∀ (fields : List Field) (rest : List Sh) (n : Nat), fields.length = rest.length → (∀ j s, rest[j]? = some s → ∃ f, fields[j]? = some f ∧ f.offset = fieldOff fs (n + j) ∧ Base P f.type s ∧ 0 < s.nc) →
    ∃ places, fields.mapM (fun f => (P.info? f.type).map fun i => (f.offset, i.size)) = some places ∧ ∀ j s, rest[j]? = some s → places[j]? = some (fieldOff fs (n + j), s.nc)
  | [], [], n, _, _ => ⟨[], rfl, by simp⟩
  | f :: fields, s :: rest, n, hl, h => by
    obtain ⟨places, h1, h2⟩ := places_ok fields rest (n + 1) (by simpa using hl) (fun j s' hj => by
      obtain ⟨f', g1, g2, g3⟩ := h (j + 1) s' (by simpa using hj)
      exact ⟨f', by simpa using g1, by rw [g2]; congr 1; omega, g3⟩)
    obtain ⟨f', g1, g2, g3, g4⟩ := h 0 s (by simp)
    have : f = f' := by simpa using g1
    subst this
    obtain ⟨i, d, z, hi, hd, hsz, _⟩ := g3.ex
    refine ⟨(f.offset, i.size) :: places, by simp [List.mapM_cons, hi, h1], fun j s' hj => ?_⟩
    cases j with
    | zero =>
      simp at hj
      subst hj
      simp [g2, hsz]
    | succ j =>
      have := h2 j s' (by simpa using hj)
      simp only [List.getElem?_cons_succ, this]
      congr 3
      omega
  | [], _ :: _, _, hl, _ => by simp at hl
  | _ :: _, [], _, hl, _ => by simp at hl
theorem fieldOff_replicate (n : Nat) (e : Sh) (j : Nat) (hj : j ≤ n) : fieldOff (List.replicate n e) j = j * e.nc := by
  unfold fieldOff
  rw [List.take_replicate, Nat.min_eq_left hj, List.map_replicate]
  clear hj
  induction j with
  | zero => simp
  | succ j ih => rw [List.replicate_succ, List.sum_cons, ih, Nat.add_mul, Nat.one_mul, Nat.add_comm]
theorem P_build {t : TypeId} {parts : Array (Nat × Operand)} (hT : TabOK P E.T) (ho : o.op = .build t parts) (h : evalP E o ρv H ρ K = some r) (hi : Inv x γ H w) (hv : Ops ρv H x γ w a) : Good P o H K r x γ w a := by
  simp only [evalP, ho] at h
  split at h
  · rename_i s hs
    obtain ⟨it, d, z, hit, hd, hsz, hby, hz, hzz, hag⟩ := (hT.sh t s hs).base.ex
    split at h
    · rename_i fs hfs
      obtain ⟨hsa, h0⟩ := cond_some h rfl
      clear h
      split at h0
      · rename_i cs hcs
        split at hfs
        · rename_i fs' hfl
          cases hfs
          obtain ⟨fields, hu, hsize, hget⟩ := (hT.flds t fs hfl).ex
          obtain ⟨places, h1, h2⟩ := places_ok (fs := fs) fields.toList fs 0 (by simpa using hsize) (fun j s hj => by
            obtain ⟨f, g1, g2, g3⟩ := hget j s hj
            exact ⟨f, by simpa using g1, by simpa using g2, g3⟩)
          obtain ⟨cells', g1, g2⟩ := fill_parts (pl := fun i => places.toArray[i]?) (fs := fs) (fun j s hj => by simpa using h2 j s hj) parts.toList _ cs z.cells hv (zeroB_all2 (zeroB_zc hzz)) hcs
          refine good_same h0 hi (run_build' ho (cells := cells') ?_) ⟨cells'.toList, by simp, g2⟩
          simp only [Program.built, hit, hu, hz, h1]
          exact g1
        · simp only [Option.map_eq_some_iff] at hfs
          obtain ⟨⟨n, e⟩, hfl, rfl⟩ := hfs
          obtain ⟨et, hu, hbe, hnc⟩ := hT.arrs t n e hfl
          obtain ⟨ie, d', z', hie, hd', hsz', _⟩ := hbe.ex
          obtain ⟨cells', g1, g2⟩ := fill_parts (pl := fun i => some (i * ie.size, ie.size)) (fs := List.replicate n e) (fun j s hj => by
            rw [List.getElem?_replicate] at hj
            split at hj
            · rename_i hlt
              cases hj
              rw [fieldOff_replicate n e j (by omega), hsz']
            · cases hj) parts.toList _ cs z.cells hv (zeroB_all2 (zeroB_zc hzz)) hcs
          refine good_same h0 hi (run_build' ho (cells := cells') ?_) ⟨cells'.toList, by simp, g2⟩
          simp only [Program.built, hit, hu, hz, hie]
          exact g1
      · cases h0
    · cases h
  · cases h
/-- Rows of elements, one of them put in. -/
def RowsR (w : World) (A : Nat → Prop) (e : Sh) (xs : List e.den) (us : List Value) : Prop := us.length = xs.length * e.nc ∧ ∀ i y, xs[i]? = some y → VRs w A e y ((us.drop (i * e.nc)).take e.nc)
theorem RowsR.set {A : Nat → Prop} {e : Sh} {xs : List e.den} {us vs : List Value} {j : Nat} {y : e.den} (h : RowsR w A e xs us) (hj : j < xs.length) (hv : VRs w A e y vs) :
    RowsR w A e (xs.set j y) (us.take (j * e.nc) ++ vs ++ us.drop (j * e.nc + vs.length)) := by
  have hl := hv.length
  have hb : j * e.nc + e.nc ≤ us.length := by
    rw [h.1]
    have := Nat.mul_le_mul_right e.nc (show j + 1 ≤ xs.length by omega)
    rwa [Nat.add_mul, Nat.one_mul] at this
  have hlen : (us.take (j * e.nc) ++ vs ++ us.drop (j * e.nc + vs.length)).length = us.length := by simp; omega
  refine ⟨by rw [hlen, h.1]; simp, fun i q hq => ?_⟩
  rw [List.getElem?_set] at hq
  split at hq
  · rename_i hij
    subst hij
    have hq : some y = some q := by first | exact hq | (rw [if_pos hj] at hq; exact hq)
    cases hq
    have : ((us.take (j * e.nc) ++ vs ++ us.drop (j * e.nc + vs.length)).drop (j * e.nc)).take e.nc = vs := by
      rw [List.append_assoc, List.drop_append_of_le_length (by simp; omega), List.drop_of_length_le (by simp; omega), List.nil_append]
      rw [List.take_append_of_le_length (by omega), List.take_of_length_le (by omega)]
    rw [this]
    exact hv
  · rename_i hij
    have h1 := h.2 i q hq
    have : ((us.take (j * e.nc) ++ vs ++ us.drop (j * e.nc + vs.length)).drop (i * e.nc)).take e.nc = (us.drop (i * e.nc)).take e.nc := by
      apply List.ext_getElem?
      intro k
      rw [List.getElem?_take, List.getElem?_take]
      split
      · rename_i hk
        rw [List.getElem?_drop, List.getElem?_drop, List.append_assoc]
        rcases Nat.lt_or_ge i j with hlt | hge
        · have h2 : i * e.nc + e.nc ≤ j * e.nc := by
            have := Nat.mul_le_mul_right e.nc (show i + 1 ≤ j by omega)
            rwa [Nat.add_mul, Nat.one_mul] at this
          rw [List.getElem?_append_left (by simp; omega), List.getElem?_take, if_pos (by omega)]
        · have h2 : j * e.nc + e.nc ≤ i * e.nc := by
            have := Nat.mul_le_mul_right e.nc (show j + 1 ≤ i by omega)
            rwa [Nat.add_mul, Nat.one_mul] at this
          rw [List.getElem?_append_right (by simp; omega), List.getElem?_append_right (by simp; omega), List.getElem?_drop]
          congr 1
          simp only [List.length_take]
          omega
      · rfl
    rw [this]
    exact h1
theorem RowsR.zeros {A : Nat → Prop} {e : Sh} {z : Array Value} {n : Nat} (hnc : 0 < e.nc) (hz : zeroB (cells e (zero e)) z.toList = true) :
    RowsR w A e (List.replicate n (zero e)) ((Array.range (n * z.size)).map fun j => z[j % z.size]!).toList := by
  have hzl : z.size = e.nc := by
    have := (zeroB_all2 (w := w) (A := fun _ => True) hz).length
    rw [cells_length] at this
    simpa using this.symm
  refine ⟨by simp [hzl], fun i q hq => ?_⟩
  have hin : i < n := by
    have := (List.getElem?_eq_some_iff.1 hq).1
    simpa using this
  have hq' : q = zero e := by
    obtain ⟨_, h3⟩ := List.getElem?_eq_some_iff.1 hq
    simpa using h3.symm
  subst hq'
  have := zeros_get z n (by omega) (i := i) hin
  rw [hzl] at this ⊢
  rw [this]
  exact VRs.of_ofC e _ _ _ (VRs_zero (A := fun _ => True) e) (zeroB_all2 hz)
/-- The elements of a literal are laid. -/
theorem fill_list {A : Nat → Prop} {e : Sh} : ∀ (ps : List (Nat × Operand)) (xs xs' : List e.den) (cells : Array Value), (∀ p ∈ ps, ∀ y, partEl e ρv H p.2 = some y → VRs w A e y (a.eval p.2).cells.toList) →
    RowsR w A e xs cells.toList → listFill e ρv H xs ps = some xs' →
      ∃ cells', Instr.fill (fun i => some (i * e.nc, e.nc)) cells (evParts a ps) = some cells' ∧ RowsR w A e xs' cells'.toList ∧ xs'.length = xs.length
  | [], xs, xs', cells, hv, hc, h => by
    simp [listFill] at h
    subst h
    exact ⟨cells, rfl, hc, rfl⟩
  | (j, y) :: ps, xs, xs', cells, hv, hc, h => by
    simp only [listFill] at h
    split at h
    · rename_i q h1
      obtain ⟨hd, h⟩ := cond_some h rfl
      have hd := of_decide_eq_true hd
      have hvr := hv (j, y) (by simp) q h1
      have hl := hvr.length
      simp only [Array.length_toList] at hl
      have hb : j * e.nc + e.nc ≤ cells.size := by
        have h2 := hc.1
        simp only [Array.length_toList] at h2
        rw [h2]
        have := Nat.mul_le_mul_right e.nc (show j + 1 ≤ xs.length by omega)
        rwa [Nat.add_mul, Nat.one_mul] at this
      have hfold := fold_set (a.eval y).cells.toList (j * e.nc) 0 cells (by simp; omega)
      simp only [evParts, List.map_cons, Instr.fill]
      rw [if_neg (by simp; omega)]
      have hz : (a.eval y).cells.zipIdx.toList = (a.eval y).cells.toList.zipIdx 0 := by simp [Array.toList_zipIdx]
      rw [← Array.foldl_toList, hz]
      obtain ⟨cells', g1, g2, g3⟩ := fill_list ps (xs.set j q) xs' _ (fun p hp => hv p (by simp [hp])) (by rw [hfold]; exact hc.set hd hvr) h
      exact ⟨cells', g1, g2, by simpa using g3⟩
    · cases h
/-- A slice's literal: what is laid down. -/
theorem run_buildSlice {A : Nat → Prop} {t : TypeId} {len : Nat} {parts : Array (Nat × Operand)} {e : Sh} {xs : List e.den} (hT : TabOK P E.T) (ho : o.op = .buildSlice t len parts) (hs : shOf E.T t = some (.sl e)) (hlen : len * e.nc ≤ 16777216)
    (hv : ∀ p ∈ parts.toList, ∀ y, partEl e ρv H p.2 = some y → VRs w A e y (a.eval p.2).cells.toList) (h : listFill e ρv H (List.replicate len (zero e)) parts.toList = some xs) :
    ∃ cells et, (execOp a.eval o).run P w = .ok (.value (.slice (some ⟨w.heap.size, 0, none⟩) len len)) (w.alloc (.cells cells et)) ∧ RowsR w A e xs cells.toList ∧ xs.length = len := by
  obtain ⟨et, hu, hbe, hnc⟩ := (hT.sh t _ hs).sl e rfl
  obtain ⟨ii, d, zz, hii, hd, hsz, hby, hz, hzz, hag⟩ := hbe.ex
  have hzl : zz.cells.size = e.nc := by
    have := (zeroB_all2 (w := w) (A := fun _ => True) hzz).length
    rw [cells_length] at this
    simpa using this.symm
  have hz' : (zeroValue et).run P w = .ok zz w := by simp [zeroValue, typeInfo, hii, hz]
  have hrows : RowsR w A e (List.replicate len (zero e)) ((Array.range (len * e.nc)).map fun j => (if len * e.nc = 0 then #[] else zz.cells)[j % (if len * e.nc = 0 then #[] else zz.cells).size]!).toList := by
    by_cases h0 : len * e.nc = 0
    · have hl0 : len = 0 := by
        rcases Nat.mul_eq_zero.1 h0 with h1 | h1
        · exact h1
        · omega
      subst hl0
      exact ⟨by simp, by simp⟩
    · have := RowsR.zeros (w := w) (A := A) (n := len) hnc hzz
      rw [hzl] at this
      simp only [if_neg h0, hzl]
      exact this
  obtain ⟨cells', g1, g2, g3⟩ := fill_list parts.toList _ xs _ hv hrows h
  refine ⟨cells', et, ?_, g2, by simpa using g3⟩
  have hp : (parts.map fun (i, y) => (i, a.eval y)).toList = evParts a parts.toList := by simp [evParts]
  simp only [execOp, ho, Instr.buildSlice, Sem.run_bind, run_underlying hu, Result.andThen_ok, run_sizeOf' hii, hsz]
  rw [if_neg (by omega)]
  by_cases h0 : len * e.nc = 0
  · simp only [h0, if_true, Sem.run_bind, Sem.run_pure, Result.andThen_ok, hp] at g1 ⊢
    simp only [g1, Sem.run_bind, newRow, run_newObj, Result.andThen_ok, Sem.run_pure]
    rfl
  · simp only [h0, if_false, Sem.run_bind, Sem.run_pure, Result.andThen_ok, hz', hp] at g1 ⊢
    simp only [g1, Sem.run_bind, newRow, run_newObj, Result.andThen_ok, Sem.run_pure]
    rfl
theorem P_buildSlice {t : TypeId} {len : Nat} {parts : Array (Nat × Operand)} (hT : TabOK P E.T) (ho : o.op = .buildSlice t len parts) (h : evalP E o ρv H ρ K = some r) (hi : Inv x γ H w) (hv : Ops ρv H x γ w a) : Good P o H K r x γ w a := by
  simp only [evalP, ho] at h
  split at h
  · rename_i e hs
    cases hlit : memN t E.T.lits with
    | true =>
      rw [hlit] at h
      simp only [cond_true] at h
      obtain ⟨hd, h⟩ := cond_some h rfl
      simp only [Bool.and_eq_true, decide_eq_true_eq] at hd
      split at h
      · rename_i xs hxs
        have hkeys : ∀ p ∈ parts.toList, opKey ρv p.2 = [] := by
          have : ∀ (ps : List (Nat × Operand)), (partKeys ρv ps).isEmpty = true → ∀ p ∈ ps, opKey ρv p.2 = [] := by
            intro ps
            induction ps with
            | nil => intro _ p hp; simp at hp
            | cons q ps ih =>
              intro hq p hp
              have hq' : opKey ρv q.2 ++ partKeys ρv ps = [] := List.isEmpty_iff.1 hq
              obtain ⟨h1, h2⟩ := List.append_eq_nil_iff.1 hq'
              rcases List.mem_cons.1 hp with rfl | hp
              · exact h1
              · exact ih (by rw [h2]; rfl) p hp
          exact this _ hd.1
        obtain ⟨cells, et, hrun, hr, hl⟩ := run_buildSlice (A := Av x γ w) hT ho hs hd.2 (fun p hp y hy => by
          unfold partEl at hy
          split at hy
          · rename_i v h1
            split at hy
            · rename_i vs h2
              exact VRs.of_ofC e vs y _ hy (cellsOf_VR h2 (hv _ _ h1))
            · rename_i h2
              exfalso
              have hk := hkeys p hp
              unfold opKey at hk
              rw [h1] at hk
              split at hy
              · cases v with
                | own k win t => simp [V.ownKey] at hk
                | c z => cases h2
                | agg z => cases h2
                | _ => simp [elemsAs, elems] at hy
              · cases hy
          · cases hy) hxs
        refine ⟨_, _, h, .inl ⟨_, _, hrun, fun _ => ⟨γ, hi.grows (Grows.alloc w _), ?_, fun y uu _ hy => VR.mono (Av.grows (Grows.alloc w _)) y uu hy⟩⟩⟩
        refine ⟨some ⟨w.heap.size, 0, none⟩, len, by rw [hl], by omega, fun _ => hl.symm, .inr ⟨w.heap.size, 0, cells, et, (0, 0), rfl, ?_, heap_new w _, ?_, fun i q hq => ?_⟩⟩
        · refine ⟨by simp, fun hb => ?_, fun k c hk => ?_⟩
          · have := hi.size
            omega
          · have := (hi.rng k _ c hk).2
            omega
        · have := hr.1
          simp only [Array.length_toList] at this
          rw [this, Nat.zero_add]
          exact Nat.le_refl _
        · rw [Nat.zero_add]
          exact VRs.mono (Av.grows (Grows.alloc w _)) e q _ (hr.2 i q hq)
      · cases h
    | false =>
    rw [hlit] at h
    simp only [cond_false] at h
    obtain ⟨hd, h⟩ := cond_some h rfl
    simp only [Bool.and_eq_true, Bool.not_eq_true', decide_eq_true_eq] at hd
    split at h
    · rename_i xs hxs
      obtain ⟨cells, et, hrun, hr, hl⟩ := run_buildSlice (A := Av x γ w) hT ho hs hd.2 (fun p hp y hy => by
        unfold partEl at hy
        split at hy
        · rename_i v h1
          split at hy
          · rename_i vs h2
            exact VRs.of_ofC e vs y _ hy (cellsOf_VR h2 (hv _ _ h1))
          · split at hy
            · simp [Sh.hasSl] at hd
            · cases hy
        · cases hy) hxs
      refine ⟨_, _, h, .inl ⟨_, _, hrun, Res.new (i := .at w.heap.size len) hi (Grows.alloc w _) (by simp) NoOsl.arr ?_ ?_⟩⟩
      · refine ⟨by simp, by omega, cells, et, heap_new w _, ?_, fun i q hq => ?_⟩
        · have := hr.1
          simp only [Array.length_toList] at this
          rw [this, hl]
          exact Nat.le_refl _
        · exact VRs.mono (Av.set (by simp) (Grows.alloc w _)) e q _ (hr.2 i q hq)
      · exact ⟨.at w.heap.size len, e, xs, false, by simp [gset], by simp [upd], by rw [hl], by omega, by simp⟩
    · cases h
  · cases h
end
end Go.Vi
/-
  Vi: operations that change nothing that is there. Part 7: look-ups, append to a tight slice, calls.
-/
set_option linter.unusedVariables false
set_option linter.unusedSimpArgs false
namespace Go.Vi
section
variable {P : Program} {E : Env} {o : Oper} {ρv : Val} {H : Heap} {ρ : Type} {K : V → List (Nat × O) → Option ρ} {r : ρ} {x : Cx} {γ : Gam} {w : World} {a : Act}
/-! ## Maps -/
def valR (w : World) (A : Nat → Prop) (e : Sh) (y : e.den) (u : Value) : Prop := if e.agg = true then ∃ vs : List Value, u = .agg vs.toArray ∧ VRs w A e y vs else VRs w A e y [u]
theorem findNow_some {A : Nat → Prop} {kk : IntKind} {e : Sh} {n : Int} : ∀ (m : List (Int × e.den)) (es : List MapEntry) (i : Nat), All2 (entR w A kk e) m es →
    (∀ y, alook m n = some y → ∃ j u, Instr.findNow (.int kk) (.int kk n) es i = some (some (j, u)) ∧ valR w A e y u) ∧
    (alook m n = none → Instr.findNow (.int kk) (.int kk n) es i = some none)
  | [], [], i, _ => ⟨fun y h => by simp [alook] at h, fun _ => rfl⟩
  | p :: m, en :: es, i, h => by
    have hk : en.key = .int kk p.1 := h.1.1
    have ih := findNow_some (n := n) m es (i + 1) h.2
    by_cases hp : p.1 = n
    · have h1 : alook (p :: m) n = some p.2 := by simp [alook, List.find?, hp]
      refine ⟨fun y hy => ?_, fun hn => by rw [h1] at hn; cases hn⟩
      rw [h1] at hy
      cases hy
      refine ⟨i, en.val, ?_, h.1.2⟩
      simp [Instr.findNow, hk, Instr.sameNow, hp]
    · have h1 : alook (p :: m) n = alook m n := by
        have : (p.1 == n) = false := by simpa using hp
        simp [alook, List.find?, this]
      have h2 : Instr.findNow (.int kk) (.int kk n) (en :: es) i = Instr.findNow (.int kk) (.int kk n) es (i + 1) := by
        have : (n == p.1) = false := by simpa using fun e => hp e.symm
        simp [Instr.findNow, hk, Instr.sameNow, this]
      rw [h1, h2]
      exact ih
  | [], _ :: _, _, h => h.elim
  | _ :: _, [], _, h => h.elim
theorem run_checkKey' {kt : TypeId} {kk : IntKind} {n : Int} {b : Bool} (d : Nat) (hk : P.underlying kt = some (.int kk)) : (Instr.checkKey b (d + 1) kt (.int kk n)).run P w = .ok () w := by
  simp only [Instr.checkKey, Sem.run_bind, run_underlying hk, Result.andThen_ok, Sem.run_pure]
theorem run_checkKey {kt : TypeId} {kk : IntKind} {n : Int} {b : Bool} (hk : P.underlying kt = some (.int kk)) : (Instr.checkKey b 10000 kt (.int kk n)).run P w = .ok () w := by
  have h := run_checkKey' (w := w) (n := n) (b := b) 9999 hk
  exact h
theorem run_findKey {A : Nat → Prop} {kt : TypeId} {kk : IntKind} {e : Sh} {n : Int} {m : List (Int × e.den)} {es : List MapEntry} (hk : P.underlying kt = some (.int kk)) (h : All2 (entR w A kk e) m es) :
    (∀ y, alook m n = some y → ∃ j u, (Instr.findKey kt (.int kk n) es).run P w = .ok (some (j, u)) w ∧ valR w A e y u) ∧
    (alook m n = none → (Instr.findKey kt (.int kk n) es).run P w = .ok none w) := by
  obtain ⟨h1, h2⟩ := findNow_some (n := n) m es 0 h
  refine ⟨fun y hy => ?_, fun hn => ?_⟩
  · obtain ⟨j, u, h3, h4⟩ := h1 y hy
    exact ⟨j, u, by simp [Instr.findKey, run_underlying hk, h3], h4⟩
  · simp [Instr.findKey, run_underlying hk, h2 hn]
theorem valR_VR {A : Nat → Prop} {e : Sh} {y : e.den} {u : Value} {v : V} (h : valR w A e y u) (hm : mkV e (cells e y) = some v) : VR γ w A H v u := by
  unfold valR at h
  by_cases ha : e.agg = true
  · rw [if_pos ha] at h
    obtain ⟨vs, rfl, h2⟩ := h
    have := mkV_VR (γ := γ) (H := H) hm (CR.of_VRs e y vs h2)
    rwa [if_pos ha] at this
  · rw [if_neg ha] at h
    have := mkV_VR (γ := γ) (H := H) hm (CR.of_VRs e y [u] h)
    rwa [if_neg ha] at this
theorem zero_valR {A : Nat → Prop} {et : TypeId} {e : Sh} (hb : Base P et e) : ∃ z, (zeroValue et).run P w = .ok z w ∧ valR w A e (zero e) z := by
  obtain ⟨i, d, z, hi, hd, hsz, hby, hz, hzz, ha⟩ := hb.ex
  have hzv := hb.zag i z hi hz
  refine ⟨z, by simp [zeroValue, typeInfo, hi, hz], ?_⟩
  have h1 := VRs.of_ofC (w := w) (A := A) e _ _ _ (VRs_zero (A := A) e) (zeroB_all2 hzz)
  unfold valR
  split
  · rename_i hag
    rw [hag] at hzv
    cases z <;> simp [isAggV] at hzv
    rename_i cs
    exact ⟨cs.toList, by simp, by simpa [Value.cells] using h1⟩
  · rename_i hag
    have : isAggV z = false := by rw [hzv]; simpa using hag
    have hc : z.cells.toList = [z] := by cases z <;> simp_all [isAggV, Value.cells]
    rwa [hc] at h1
theorem VR_one {v : V} {u : Value} {A : Nat → Prop} {e : Sh} {cs : List C} (hm : mkV e cs = some v) (h : VR γ w A H v u) : VR1 γ w A H v u := by
  unfold mkV at hm
  cases ha : e.agg <;> rw [ha] at hm
  · simp only [cond_false] at hm
    split at hm
    · cases hm
      exact h
    · cases hm
  · simp only [cond_true, Option.some.injEq] at hm
    subst hm
    exact h
theorem P_lookup {t : TypeId} {y z : Operand} {ok : Bool} (hT : TabOK P E.T) (ho : o.op = .lookup t y z ok) (h : evalP E o ρv H ρ K = some r) (hi : Inv x γ H w) (hv : Ops ρv H x γ w a) : Good P o H K r x γ w a := by
  simp only [evalP, ho] at h
  split at h
  · rename_i k kk n kk2 e2 h1 h2 hm
    obtain ⟨b, c, hg, e1⟩ := hv _ _ h1
    have e3 := VR_int (hv _ _ h2)
    split at h
    · rename_i kk' e m hH
      obtain ⟨hd, h0⟩ := cond_some h rfl
      clear h
      simp only [Bool.and_eq_true, decide_eq_true_eq] at hd
      obtain ⟨⟨d1, d2⟩, d3⟩ := hd
      subst d1
      subst d2
      subst d3
      split at h0
      · rename_i v hmv
        obtain ⟨ob, hob, hR⟩ := hi.own k _ hg
        rw [hH] at hob
        cases hob
        obtain ⟨es, clock, hb, hes⟩ := hR
        obtain ⟨kt, et, hu, hk, hbe⟩ := hT.maps t kk2 e2 hm
        have hget : (getObj b).run P w = .ok (.map es clock) w := by simp [getObj, Sem.run, hb]
        obtain ⟨f1, f2⟩ := run_findKey (P := P) (w := w) (n := n) hk hes
        have key : ∃ u, (execOp a.eval o).run P w = .ok (.value (if ok = true then .tuple #[u, .bool (alook m n).isSome] else u)) w ∧ valR w (Av x γ w) e2 ((alook m n).getD (zero e2)) u := by
          cases hl : alook m n with
          | some q =>
            obtain ⟨j, u, g1, g2⟩ := f1 q hl
            refine ⟨u, ?_, g2⟩
            simp only [execOp, ho, Instr.lookup, e1, e3, Sem.run_bind, run_underlying hu, Result.andThen_ok, hget, Sem.run_pure, run_checkKey hk, g1]
            cases ok <;> rfl
          | none =>
            obtain ⟨z0, g1, g2⟩ := zero_valR (w := w) (A := Av x γ w) hbe
            refine ⟨z0, ?_, g2⟩
            simp only [execOp, ho, Instr.lookup, e1, e3, Sem.run_bind, run_underlying hu, Result.andThen_ok, hget, Sem.run_pure, run_checkKey hk, f2 hl, g1]
            cases ok <;> rfl
        obtain ⟨u, hrun, hval⟩ := key
        have hvr := valR_VR (γ := γ) (H := H) hval hmv
        cases ok with
        | true =>
          refine good_same h0 hi hrun ⟨[u, .bool (alook m n).isSome], rfl, VR_one hmv hvr, rfl, trivial⟩
        | false => exact good_same h0 hi hrun hvr
      · cases h0
    · cases h
  · cases h
/-! ## The cells of a slice -/
theorem elems_cells {v : V} {u : Value} {e : Sh} {xs : List e.den} (hnc : 0 < e.nc) (hi : Inv x γ H w) (hv : VR γ w (Av x γ w) H v u) (h : elems H v = some ⟨e, xs⟩) :
    ∃ ad cap cs, u = .slice ad xs.length cap ∧ xs.length ≤ cap ∧ RowsR w (Av x γ w) e xs cs ∧
      (xs = [] ∨ ∃ b oo cur et fz, ad = some ⟨b, oo, none⟩ ∧ w.heap[b]? = some (.cells cur et fz) ∧ oo + xs.length * e.nc ≤ cur.size ∧ cs = (cur.toList.drop oo).take (xs.length * e.nc)) := by
  have rows : ∀ (b oo : Nat) (cur : Array Value) (ys : List e.den), oo + ys.length * e.nc ≤ cur.size → (∀ i y, ys[i]? = some y → VRs w (Av x γ w) e y ((cur.toList.drop (oo + i * e.nc)).take e.nc)) →
      RowsR w (Av x γ w) e ys ((cur.toList.drop oo).take (ys.length * e.nc)) := by
    intro b oo cur ys hl hel
    refine ⟨by simp; omega, fun i y hy => ?_⟩
    have hin := (List.getElem?_eq_some_iff.1 hy).1
    have hb : i * e.nc + e.nc ≤ ys.length * e.nc := by
      have := Nat.mul_le_mul_right e.nc (show i + 1 ≤ ys.length by omega)
      rwa [Nat.add_mul, Nat.one_mul] at this
    rw [List.drop_take, List.take_take, Nat.min_eq_left (by omega), List.drop_drop]
    exact hel i y hy
  unfold elems at h
  split at h
  · rename_i k win tt
    split at h
    · rename_i xe xs0 n hH
      obtain ⟨i, e0, xs1, nilE, hg, hH', hsl⟩ := hv
      rw [hH] at hH'
      cases hH'
      cases h
      obtain ⟨ob, hob, hR⟩ := hi.own k _ hg
      rw [hH] at hob
      cases hob
      cases i with
      | emp =>
        obtain ⟨ad, e1, _, h0, h1⟩ := hsl
        have hx : view win xs0 = [] := by
          apply List.eq_nil_of_length_eq_zero
          cases win <;> simp [view, h0]
        refine ⟨ad, 0, [], by rw [hx]; exact e1, by rw [hx]; exact Nat.le_refl _, by rw [hx]; exact ⟨by simp, by simp⟩, .inl hx⟩
      | «at» b c =>
        obtain ⟨_, hxc, cur, et, hb, hsz, hel⟩ := hR
        cases win with
        | none =>
          obtain ⟨g1, g2, g3⟩ := hsl
          have hle : 0 + xs0.length * e.nc ≤ cur.size := by
            have := Nat.mul_le_mul_right e.nc hxc
            omega
          refine ⟨_, _, _, g1, g2, rows b 0 cur xs0 hle (fun i y hy => by rw [Nat.zero_add]; exact hel i y hy), .inr ⟨b, 0, cur, et, (0, 0), rfl, hb, hle, rfl⟩⟩
        | some p =>
          obtain ⟨p, l⟩ := p
          obtain ⟨oo, cap, g1, g2, g3, g4, g5, g6, g7⟩ := hsl
          have hl : (view (some (p, l)) xs0).length = l := by simp [view]; omega
          by_cases hl0 : l = 0
          · have hx : view (some (p, l)) xs0 = [] := List.eq_nil_of_length_eq_zero (by omega)
            refine ⟨_, cap, [], by rw [hl]; exact g1, by omega, by rw [hx]; exact ⟨by simp, by simp⟩, .inl hx⟩
          · have hoo := g6 (by omega)
            have hle : oo + (view (some (p, l)) xs0).length * e.nc ≤ cur.size := by
              rw [hl, hoo, ← Nat.add_mul]
              have := Nat.mul_le_mul_right e.nc (show p + l ≤ c by omega)
              omega
            refine ⟨_, cap, _, by rw [hl]; exact g1, by omega, rows b oo cur _ hle (fun i y hy => ?_), .inr ⟨b, oo, cur, et, (0, 0), rfl, hb, hle, rfl⟩⟩
            obtain ⟨v1, v2⟩ := view_get hy
            rw [hoo, ← Nat.add_mul]
            exact hel _ y v1
    · cases h
  · cases h
    obtain ⟨ad, cap, h1, h2, _, hrow⟩ := hv
    rcases hrow with rfl | ⟨b, oo, cur, et, fz, rfl, hA, hb, hl, hel⟩
    · exact ⟨ad, cap, [], h1, h2, ⟨by simp, by simp⟩, .inl rfl⟩
    · exact ⟨_, cap, _, h1, h2, rows b oo cur _ hl hel, .inr ⟨b, oo, cur, et, fz, rfl, hb, hl, rfl⟩⟩
  · cases h
theorem RowsR.one {A : Nat → Prop} {e : Sh} {xs : List e.den} {cs : List Value} (h : RowsR w A e xs cs) : ∀ u ∈ cs, u.oneCell' = true := by
  intro u hu
  obtain ⟨j, hj⟩ := List.getElem?_of_mem hu
  rcases Nat.eq_zero_or_pos e.nc with h0 | h0
  · have := h.1
    rw [h0, Nat.mul_zero] at this
    have := (List.getElem?_eq_some_iff.1 hj).1
    omega
  · have hlt := (List.getElem?_eq_some_iff.1 hj).1
    rw [h.1] at hlt
    have hq : j / e.nc < xs.length := Nat.div_lt_of_lt_mul (by rwa [Nat.mul_comm] at hlt)
    have hr := h.2 (j / e.nc) xs[j / e.nc] (by simp [hq])
    refine All2.oneCell (CR.of_VRs e _ _ hr) u ?_
    have hdm : j / e.nc * e.nc + j % e.nc = j := by rw [Nat.mul_comm]; exact Nat.div_add_mod j e.nc
    have : ((cs.drop (j / e.nc * e.nc)).take e.nc)[j % e.nc]? = some u := by
      rw [List.getElem?_take, if_pos (Nat.mod_lt _ h0), List.getElem?_drop, hdm]
      exact hj
    exact List.mem_of_getElem? this
theorem src_of {A : Nat → Prop} {e : Sh} {xs : List e.den} {ad : Option Addr} {cap : Nat} {cs : List Value} {tx ex : TypeId} (hk : P.underlying tx = some (.slice ex)) (hr : RowsR w A e xs cs)
    (hc : xs = [] ∨ ∃ b oo cur et fz, ad = some ⟨b, oo, none⟩ ∧ w.heap[b]? = some (.cells cur et fz) ∧ oo + xs.length * e.nc ≤ cur.size ∧ cs = (cur.toList.drop oo).take (xs.length * e.nc)) :
    Src P e.nc tx (.slice ad xs.length cap) xs.length cs w := by
  rcases hc with rfl | ⟨b, oo, cur, et, fz, rfl, hb, hl, rfl⟩
  · have hcs : cs = [] := List.eq_nil_of_length_eq_zero (by have := hr.1; simpa using this)
    subst hcs
    cases ad with
    | none => exact Src.ofNil w hk cap
    | some ad => exact Src.ofSlice w hk ad 0 cap [] (by simp) (by simp) (by simp)
  · refine Src.ofSlice w hk ⟨b, oo, none⟩ xs.length cap _ (by simp; omega) (fun j u hj => ?_) hr.one
    rw [add_eq, cell_row hb]
    rw [List.getElem?_take] at hj
    split at hj
    · simpa using hj
    · cases hj
theorem castL_eq {e e' : Sh} {xs : List e'.den} {ys : List e.den} (h : castL e' e xs = some ys) : ∃ he : e' = e, he ▸ xs = ys := by
  unfold castL at h
  split at h
  · rename_i he
    exact ⟨he, Option.some.inj h⟩
  · cases h
theorem elemsAs_eq {e : Sh} {v : V} {xs : List e.den} (h : elemsAs e H v = some xs) : elems H v = some ⟨e, xs⟩ := by
  unfold elemsAs at h
  split at h
  · rename_i e' xs' h1
    obtain ⟨he, h2⟩ := castL_eq h
    subst he
    subst h2
    exact h1
  · cases h
theorem RowsR.append {A : Nat → Prop} {e : Sh} {xs ys : List e.den} {cs ds : List Value} (h : RowsR w A e xs cs) (h' : RowsR w A e ys ds) : RowsR w A e (xs ++ ys) (cs ++ ds) := by
  refine ⟨by rw [List.length_append, List.length_append, h.1, h'.1, Nat.add_mul], fun i y hy => ?_⟩
  rw [List.getElem?_append] at hy
  split at hy
  · rename_i hlt
    have hb : i * e.nc + e.nc ≤ cs.length := by
      rw [h.1]
      have := Nat.mul_le_mul_right e.nc (show i + 1 ≤ xs.length by omega)
      rwa [Nat.add_mul, Nat.one_mul] at this
    rw [List.drop_append_of_le_length (by omega), List.take_append_of_le_length (by simp; omega)]
    exact h.2 i y hy
  · rename_i hge
    have hb : cs.length ≤ i * e.nc := by
      rw [h.1]
      exact Nat.mul_le_mul_right e.nc (by omega)
    have : (cs ++ ds).drop (i * e.nc) = ds.drop ((i - xs.length) * e.nc) := by
      rw [List.drop_append, List.drop_of_length_le hb, List.nil_append]
      congr 1
      rw [h.1, Nat.sub_mul]
    rw [this]
    exact h'.2 _ y hy
/-- A row that an append makes anew. -/
theorem grow_res {e : Sh} {xs ys : List e.den} {ad : Option Addr} {cap : Nat} {cs ds : List Value} {t tx ty et ex : TypeId} {uy : Value} (hnc : 0 < e.nc) (hu : P.underlying t = some (.slice et)) (hbe : Base P et e)
    (hxs : RowsR w (Av x γ w) e xs cs) (hc : xs = [] ∨ ∃ b oo cur et fz, ad = some ⟨b, oo, none⟩ ∧ w.heap[b]? = some (.cells cur et fz) ∧ oo + xs.length * e.nc ≤ cur.size ∧ cs = (cur.toList.drop oo).take (xs.length * e.nc))
    (hys : RowsR w (Av x γ w) e ys ds) (hs : Src P e.nc tx uy ys.length ds w) (hlim : xs.length + ys.length ≤ lim) (hgrow : cap < xs.length + ys.length) :
    ∃ c' w', (Builtin.append_ #[t, tx] ty #[.slice ad xs.length cap, uy]).run P w = .ok (.slice (some ⟨w.heap.size, 0, none⟩) (xs.length + ys.length) c') w' ∧ Grows w w' ∧ w.heap.size < w'.heap.size ∧
      ∃ cur, w'.heap[w.heap.size]? = some (.cells cur et (0, 0)) ∧ xs.length + ys.length ≤ c' ∧ c' * e.nc ≤ cur.size ∧ ∀ i y, (xs ++ ys)[i]? = some y → VRs w (Av x γ w) e y ((cur.toList.drop (i * e.nc)).take e.nc) := by
  obtain ⟨ii, d, zz, hii, hd, hsz, hby, hz, hzz, hag⟩ := hbe.ex
  have hlim' : xs.length + ys.length ≤ 1073741824 := hlim
  have hzl : zz.cells.size = e.nc := by
    have := (zeroB_all2 (w := w) (A := fun _ => True) hzz).length
    rw [cells_length] at this
    simpa using this.symm
  have hold : (Builtin.firstCells ii.size xs.length (.slice ad xs.length cap)).run P w.drew = .ok cs.toArray w.drew := by
    rw [hsz]
    exact (src_of (cap := cap) hu hxs hc).cellsD
  rw [← hsz] at hs
  have hfit : Builtin.nextslicecap (xs.length + ys.length) cap * ii.bytes ≤ 281474976710656 := by
    refine growslice_fits hgrow ?_
    have := Nat.mul_le_mul hlim' hby
    omega
  have hrun := run_append_grow_src (P := P) w t tx ty et ii zz hu hii hz ad xs.length cap cs hold uy ys.length ds hs hgrow (by omega) hfit
  have hge := grownCap_ge w (xs.length + ys.length) cap et
  refine ⟨_, _, hrun, (Grows.drew w).trans (Grows.alloc _ _), by simp, _, heap_new w.drew _, hge, ?_, fun i y hy => ?_⟩
  · simp only [Array.size_append, List.size_toArray, List.length_append, hxs.1, hys.1, size_zeroCells, hzl, ← Nat.add_mul]
    exact Nat.mul_le_mul_right _ (by omega)
  · have hin := (List.getElem?_eq_some_iff.1 hy).1
    simp only [List.length_append] at hin
    have hb : i * e.nc + e.nc ≤ (cs ++ ds).length := by
      rw [List.length_append, hxs.1, hys.1, ← Nat.add_mul]
      have := Nat.mul_le_mul_right e.nc (show i + 1 ≤ xs.length + ys.length by omega)
      rwa [Nat.add_mul, Nat.one_mul] at this
    simp only [Array.toList_append]
    rw [List.drop_append_of_le_length (by omega), List.take_append_of_le_length (by simp at hb ⊢; omega)]
    exact (hxs.append hys).2 i y hy
theorem P_append {c : Call} (hT : TabOK P E.T) (ho : o.op = .call c) (hc : c.callee = .builtin .append) (h : evalP E o ρv H ρ K = some r) (hi : Inv x γ H w) (hv : Ops ρv H x γ w a) : Good P o H K r x γ w a := by
  simp only [evalP, ho, hc] at h
  split at h
  · rename_i y z t tx hargs htys
    have hargs' : c.args.map a.eval = #[a.eval y, a.eval z] := by
      apply Array.ext'
      simp [hargs]
    have htys' : c.argTypes = #[t, tx] := by
      apply Array.ext'
      simp [htys]
    split at h
    · rename_i e ex0 e2 ys2 hs hsx hz
      obtain ⟨vz, hvz, hez⟩ := Option.bind_eq_some_iff.1 hz
      obtain ⟨et, hu, hbe, hnc⟩ := (hT.sh t _ hs).sl e rfl
      obtain ⟨ext, hux, _⟩ := (hT.sh tx _ hsx).sl _ rfl
      split at h
      · rename_i ys vy hcast hvy
        obtain ⟨he, hys⟩ := castL_eq hcast
        subst he
        have hys : ys2 = ys := hys
        subst hys
        obtain ⟨adz, capz, ds, ez, hcz, hrz, hlz⟩ := elems_cells hnc hi (hv _ _ hvz) hez
        have hsrc : Src P e2.nc tx (a.eval z) ys2.length ds w := by rw [ez]; exact src_of hux hrz hlz
        -- what the two kinds of a tight slice have in common
        have main : ∀ (xs : List e2.den) (ad : Option Addr) (cs : List Value), a.eval y = .slice ad xs.length xs.length → RowsR w (Av x γ w) e2 xs cs →
            (xs = [] ∨ ∃ b oo cur et fz, ad = some ⟨b, oo, none⟩ ∧ w.heap[b]? = some (.cells cur et fz) ∧ oo + xs.length * e2.nc ≤ cur.size ∧ cs = (cur.toList.drop oo).take (xs.length * e2.nc)) →
            (bif decide (xs.length + ys2.length ≤ lim) && (xs.isEmpty || !ys2.isEmpty) then K (.own (dstKey o.dst) none false) [(dstKey o.dst, .arr e2 (xs ++ ys2) false)] else none) = some r → Good P o H K r x γ w a := by
          intro xs ad cs ey hrx hlx hk
          obtain ⟨hd, hk⟩ := cond_some hk rfl
          simp only [Bool.and_eq_true, decide_eq_true_eq] at hd
          obtain ⟨d1, d2⟩ := hd
          by_cases hye : ys2 = []
          · subst hye
            have hxe : xs = [] := by simpa using d2
            subst hxe
            have hds : ds = [] := List.eq_nil_of_length_eq_zero (by have := hrz.1; simpa using this)
            subst hds
            have hrun : (execOp a.eval o).run P w = .ok (.value (.slice ad 0 0)) w := by
              obtain ⟨ii, d, zz, hii, hd, hsz, _⟩ := hbe.ex
              refine exec_builtin ho hc ?_
              have hcells := hsrc.cells
              rw [hargs', htys', ey]
              simp only [List.length_nil] at hcells ⊢
              cases ad with
              | none => simp [builtin, Builtin.append_, run_underlying hu, run_underlying hux, run_sizeOf' hii, hsrc.len, hsz, hcells]
              | some ad => simp [builtin, Builtin.append_, run_underlying hu, run_underlying hux, run_sizeOf' hii, hsrc.len, hsz, hcells, storeCells]
            refine ⟨_, _, hk, .inl ⟨_, w, hrun, Res.new (i := .emp) hi (Grows.refl w) (by simp) NoOsl.arr rfl ?_⟩⟩
            exact ⟨.emp, e2, [] ++ [], false, by simp [gset], by simp [upd], ad, rfl, by simp, rfl, by simp⟩
          · have hgrow : xs.length < xs.length + ys2.length := by
              have := List.length_pos_iff.2 hye
              omega
            obtain ⟨c', w', hrun, hg, hlt, cur, hb, hc', hcs, hel⟩ := grow_res (ty := o.type) (tx := tx) (ex := ext) hnc hu hbe hrx hlx hrz hsrc d1 hgrow
            have hrun' : (execOp a.eval o).run P w = .ok (.value (.slice (some ⟨w.heap.size, 0, none⟩) (xs.length + ys2.length) c')) w' := by
              refine exec_builtin ho hc ?_
              rw [hargs', htys', ey]
              simp only [builtin, Sem.run_bind, hrun, Result.andThen_ok, Sem.run_pure]
            refine ⟨_, _, hk, .inl ⟨_, _, hrun', Res.new (i := .at w.heap.size c') hi hg (by simpa using hlt) NoOsl.arr ?_ ?_⟩⟩
            · refine ⟨by simp, by simpa using hc', cur, et, hb, hcs, fun i q hq => VRs.mono (Av.set (by simp) hg) e2 q _ (hel i q hq)⟩
            · exact ⟨.at w.heap.size c', e2, xs ++ ys2, false, by simp [gset], by simp [upd], by simp, by simpa using hc', by simp⟩
        split at h
        · rename_i k win
          split at h
          · rename_i xs hxs
            obtain ⟨ad, cap, cs, e1, e2', e3, e4⟩ := elems_cells hnc hi (hv _ _ hvy) (elemsAs_eq hxs)
            have htight : cap = xs.length := by
              obtain ⟨i, e0, xs0, nilE, hg, hH, hsl⟩ := hv _ _ hvy
              have hel := elemsAs_eq hxs
              simp only [elems, hH, Option.some.injEq] at hel
              cases hel
              cases i with
              | emp =>
                obtain ⟨ad', g1, _, g3, g4⟩ := hsl
                rw [e1] at g1
                simp only [Value.slice.injEq] at g1
                omega
              | «at» b c =>
                cases win with
                | none =>
                  obtain ⟨g1, g2, g3⟩ := hsl
                  rw [e1] at g1
                  simp only [Value.slice.injEq] at g1
                  have := g3 rfl
                  show cap = xs0.length
                  omega
                | some p =>
                  obtain ⟨p, l⟩ := p
                  obtain ⟨oo, cap', g1, g2, g3, g4, g5, _⟩ := hsl
                  rw [e1] at g1
                  simp only [Value.slice.injEq] at g1
                  have := g5 rfl
                  omega
            rw [htight] at e1
            exact main xs ad cs e1 e3 e4 h
          · cases h
        · rename_i e' xs'
          split at h
          · rename_i xs hxs
            obtain ⟨he, hx⟩ := castL_eq hxs
            subst he
            have hx : xs' = xs := hx
            subst hx
            obtain ⟨ad, cap, cs, e1, e2', e3, e4⟩ := elems_cells (v := .c (.sl e' xs' true)) hnc hi (hv _ _ hvy) rfl
            obtain ⟨ad', cap', g1, g2, g3, _⟩ := hv _ _ hvy
            have htight : cap = xs'.length := by
              rw [e1] at g1
              simp only [Value.slice.injEq] at g1
              have := g3 rfl
              omega
            rw [htight] at e1
            exact main xs' ad cs e1 e3 e4 h
          · cases h
        · cases h
      · cases h
    · cases h
  · cases h
theorem P_convert {s t : TypeId} {y : Operand} (hT : TabOK P E.T) (ho : o.op = .convert s t y) (h : evalP E o ρv H ρ K = some r) (hi : Inv x γ H w) (hv : Ops ρv H x γ w a) : Good P o H K r x γ w a := by
  simp only [evalP, ho] at h
  split at h
  · rename_i k' n k ss h1 h2 h3
    obtain ⟨_, d, _, _, hs, _⟩ := (hT.sh s _ h3).base.ex
    have e1 := VR_int (hv _ _ h1)
    have hu := (hT.sh t _ h2).int _ rfl
    refine good_same h hi (u := .int k (k.wrap n)) ?_ rfl
    simp only [execOp, ho, e1, convert, Sem.run_bind, run_underlying hs, run_underlying hu, Result.andThen_ok]
    cases d <;> simp [Conv.intToInt]
  · -- bytes of a string
    rename_i s1 h1 h2 h3
    have e1 : a.eval y = .string s1 := hv _ _ h1
    have hs := (hT.sh s _ h3).str rfl
    obtain ⟨et, hd, hbe, hnc⟩ := (hT.sh t _ h2).sl _ rfl
    obtain ⟨et', hd', he⟩ := (hT.sh t _ h2).elt _ rfl
    rw [hd] at hd'
    cases hd'
    have hrun := run_bytes_of_string (P := P) w s t et s1 hs hd he
    generalize hc : grownCap w s1.size 0 et = cap at hrun
    have hcap : s1.size ≤ cap := by rw [← hc]; exact grownCap_ge w s1.size 0 et
    have hg : Grows w (w.drew.alloc (.cells (bytesRow s1 cap) et ((bytesRow s1 cap).size, (bytesRow s1 cap).size + 1))) := (Grows.drew w).trans (Grows.alloc _ _)
    refine ⟨_, [], h, .inl ⟨.slice (some ⟨w.heap.size, 0, none⟩) s1.size cap, _, by simp only [execOp, ho, e1, Sem.run_bind, hrun, Result.andThen_ok, Sem.run_pure], fun _ => ⟨γ, hi.grows hg, ?_, fun v uu _ hv' => VR.mono (Av.grows hg) v uu hv'⟩⟩⟩
    have hl := strBytes_length s1
    refine ⟨some ⟨w.heap.size, 0, none⟩, cap, by rw [hl], by rw [hl]; exact hcap, by simp, .inr ⟨w.heap.size, 0, bytesRow s1 cap, et, _, rfl, ⟨by simp, fun hb => absurd hi.size (by omega), fun k c hk => ?_⟩, heap_alloc_new _ _, ?_, fun i z hz => ?_⟩⟩
    · have := (hi.rng k _ c hk).2
      omega
    · rw [hl]
      unfold bytesRow
      rw [Array.size_append, Array.size_map]
      show 0 + s1.size * 1 ≤ s1.size + _
      omega
    · show ((bytesRow s1 cap).toList.drop (0 + i * 1)).take 1 = [.int .u8 z]
      have h9 : (bytesRow s1 cap).toList[i]? = some (.int .u8 z) := by
        simp only [strBytes, List.getElem?_map, Option.map_eq_some_iff] at hz
        obtain ⟨b, h6, h7⟩ := hz
        have hlt := (List.getElem?_eq_some_iff.1 h6).1
        unfold bytesRow
        rw [Array.toList_append, List.getElem?_append_left (by simpa using hlt), Array.toList_map, List.getElem?_map, h6]
        simp [h7]
      rw [Nat.zero_add, Nat.mul_one]
      have hlt := (List.getElem?_eq_some_iff.1 h9).1
      rw [List.drop_eq_getElem_cons hlt]
      simp [(List.getElem?_eq_some_iff.1 h9).2]
  · -- a string of bytes
    rename_i v0 h1 h2 h3
    split at h
    · rename_i xs hxs
      have hd := (hT.sh t _ h2).str rfl
      obtain ⟨et, hs, hbe, hnc⟩ := (hT.sh s _ h3).sl _ rfl
      obtain ⟨et', hs', he⟩ := (hT.sh s _ h3).elt _ rfl
      rw [hs] at hs'
      cases hs'
      obtain ⟨ad, cap, cs, e1, e2, e3, e4⟩ := elems_cells hnc hi (hv _ _ h1) (elemsAs_eq hxs)
      refine good_same h hi (u := .string (strNums xs)) ?_ rfl
      rcases e4 with rfl | ⟨b, oo, cur, et0, fz, rfl, hb, hsz, hcs⟩
      · have : (convert s t (.slice ad 0 cap)).run P w = .ok (.string ByteArray.empty) w := by
          cases ad with
          | none => exact run_convert_bytes_nil w s et hs he 0 cap t hd
          | some ad => exact run_convert_bytes_back w s t et ad cap [] hs he hd (fun j hj => by simp at hj)
        simp only [execOp, ho, e1, List.length_nil, Sem.run_bind, this, Result.andThen_ok, Sem.run_pure]
        rfl
      · have := run_convert_bytes_arg (P := P) w s et hs he b oo xs.length cap xs rfl (fun i hi => by
          have h7 := e3.2 i (xs[i]) (List.getElem?_eq_getElem hi)
          rw [hcs] at h7
          have h8 : ((((cur.toList.drop oo).take (xs.length * (Sh.int IntKind.u8).nc)).drop (i * (Sh.int IntKind.u8).nc)).take (Sh.int IntKind.u8).nc) = [Value.int .u8 xs[i]] := h7
          have h9 : cur[oo + i]? = some (.int .u8 xs[i]) := by
            have h10 := congrArg (fun l : List Value => l[0]?) h8
            simp only [Sh.nc, Nat.mul_one, List.getElem?_take, List.getElem?_drop, List.getElem?_cons_zero, Nat.add_zero] at h10
            rw [if_pos (by omega), if_pos hi] at h10
            rw [← Array.getElem?_toList]
            exact h10
          rw [World.cell?, hb]
          simp only [h9, List.getD, List.getElem?_eq_getElem hi, Option.getD_some]
          rfl) t hd
        simp only [execOp, ho, e1, Sem.run_bind, this, Result.andThen_ok, Sem.run_pure]
        rfl
    · cases h
  · cases h
theorem P_nilCheck {y : Operand} (ho : o.op = .nilCheck y) (h : evalP E o ρv H ρ K = some r) (hi : Inv x γ H w) (hv : Ops ρv H x γ w a) : Good P o H K r x γ w a := by
  simp only [evalP, ho] at h
  split at h
  · rename_i v h1
    obtain ⟨hd, h⟩ := cond_some h rfl
    have hv1 := hv _ _ h1
    have : ∃ ad, a.eval y = .pointer (some ad) := by
      cases v <;> first | cases hd | skip
      · obtain ⟨b, c, _, e⟩ := hv1; exact ⟨_, e⟩
      · obtain ⟨b, c, e, xs, nl, _, _, _, _, e1⟩ := hv1; exact ⟨_, e1⟩
      · obtain ⟨b, o, cur, et, fz, e1, _⟩ := hv1; exact ⟨_, e1⟩
    obtain ⟨ad, e1⟩ := this
    exact good_same h hi (u := a.eval y) (by simp only [execOp, ho, e1, Sem.run_pure]) hv1
  · cases h
theorem P_range {t : TypeId} {y : Operand} (hT : TabOK P E.T) (ho : o.op = .range t y) (h : evalP E o ρv H ρ K = some r) (hi : Inv x γ H w) (hv : Ops ρv H x γ w a) : Good P o H K r x γ w a := by
  simp only [evalP, ho] at h
  split at h
  · rename_i s h1 h2
    have e1 : a.eval y = .string s := hv _ _ h1
    have hu := (hT.sh t _ h2).str rfl
    have hrun : (execOp a.eval o).run P w = .ok (.value (.pointer (some ⟨w.heap.size, 0, none⟩))) (w.alloc (.stringIter s 0)) := by
      simp only [execOp, ho, e1, Instr.range, Sem.run_bind, run_underlying hu, Result.andThen_ok, Sem.run_pure, run_newObj]
      rfl
    refine ⟨_, _, h, .inl ⟨_, _, hrun, Res.new (i := .at w.heap.size 0) hi (Grows.alloc _ _) (fun b c e => by cases e; simp) (fun _ _ e => by cases e) ?_ ?_⟩⟩
    · exact heap_alloc_new _ _
    · exact ⟨w.heap.size, 0, by simp [gset], rfl⟩
  · cases h
end
end Go.Vi
/-
  Vi: operations that change nothing that is there. Part 8: calls of functions that only read; all of them together.
-/
set_option linter.unusedVariables false
set_option linter.unusedSimpArgs false
namespace Go.Vi
section
variable {P : Program} {E : Env} {o : Oper} {ρv : Val} {H : Heap} {ρ : Type} {K : V → List (Nat × O) → Option ρ} {r : ρ} {x : Cx} {γ : Gam} {w : World} {a : Act}
/-- What a callee may read: data, and what is handed to it. -/
def A0k (x : Cx) (γ : Gam) (w : World) (keys : List Nat) (b : Nat) : Prop := Av x γ w b ∨ ∃ k ∈ keys, ∃ c, γ k = some (.at b c)
theorem A0k_lt (hi : Inv x γ H w) (keys : List Nat) (b : Nat) (h : A0k x γ w keys b) : b < w.heap.size := by
  rcases h with h | ⟨k, _, c, hk⟩
  · exact h.1
  · exact (hi.rng k b c hk).2
theorem gnd1_VR {v v' : V} {u : Value} {keys : List Nat} (hi : Inv x γ H w) (h : gnd1 H v = some v') (hv : VR1 γ w (Av x γ w) H v u) (hk : ∀ k ∈ v.ownKey, k ∈ keys) : VR1 noGam w (A0k x γ w keys) emp v' u := by
  have hA : ∀ b, Av x γ w b → A0k x γ w keys b ∧ w.heap[b]? = w.heap[b]? := fun b hb => ⟨.inl hb, rfl⟩
  cases v with
  | c y => simp only [gnd1, Option.some.injEq] at h; subst h; exact CR.mono hA y u hv
  | agg cs => simp only [gnd1, Option.some.injEq] at h; subst h; exact VR1.mono (γ := noGam) (H := emp) hA (.agg cs) u hv
  | iptr cs => simp only [gnd1, Option.some.injEq] at h; subst h; exact VR1.mono (γ := noGam) (H := emp) hA (.iptr cs) u hv
  | own k win t =>
    obtain ⟨i, e, xs, nilE, hg, hH, hsl⟩ := hv
    simp only [gnd1, hH, Option.some.injEq] at h
    subst h
    have hkm : k ∈ keys := hk k (by simp [V.ownKey])
    obtain ⟨ob, hob, hR⟩ := hi.own k _ hg
    rw [hH] at hob
    cases hob
    cases i with
    | emp =>
      obtain ⟨ad, e1, _, h0, h1⟩ := hsl
      have hx : view win xs = [] := by
        apply List.eq_nil_of_length_eq_zero
        cases win <;> simp [view, h0]
      exact ⟨ad, 0, by rw [hx]; exact e1, by rw [hx]; exact Nat.le_refl _, fun _ => by rw [hx]; rfl, .inl hx⟩
    | «at» b c =>
      obtain ⟨_, hxc, cur, et, hb, hsz, hel⟩ := hR
      have hAb : A0k x γ w keys b := .inr ⟨k, hkm, c, hg⟩
      cases win with
      | none =>
        obtain ⟨g1, g2, g3⟩ := hsl
        refine ⟨_, _, g1, g2, g3, .inr ⟨b, 0, cur, et, (0, 0), rfl, hAb, hb, ?_, fun i y hy => ?_⟩⟩
        · have := Nat.mul_le_mul_right e.nc hxc
          show 0 + xs.length * e.nc ≤ cur.size
          omega
        · rw [Nat.zero_add]
          exact VRs.mono hA e y _ (hel i y hy)
      | some p =>
        obtain ⟨p, l⟩ := p
        obtain ⟨oo, cap, g1, g2, g3, g4, g5, g6, g7⟩ := hsl
        have hl : (view (some (p, l)) xs).length = l := by simp [view]; omega
        refine ⟨_, cap, by rw [hl]; exact g1, by omega, by rw [hl]; exact g5, ?_⟩
        by_cases hl0 : l = 0
        · exact .inl (List.eq_nil_of_length_eq_zero (by omega))
        · have hoo := g6 (by omega)
          refine .inr ⟨b, oo, cur, et, (0, 0), rfl, hAb, hb, ?_, fun i y hy => ?_⟩
          · rw [hl, hoo, ← Nat.add_mul]
            have := Nat.mul_le_mul_right e.nc (show p + l ≤ c by omega)
            omega
          · obtain ⟨v1, v2⟩ := view_get hy
            rw [hoo, ← Nat.add_mul]
            exact VRs.mono hA e y _ (hel _ y v1)
  | ptr k off =>
    obtain ⟨b, c, hg, e1⟩ := hv
    have hkm : k ∈ keys := hk k (by simp [V.ownKey])
    simp only [gnd1] at h
    split at h
    · rename_i cs hH
      obtain ⟨hd, h⟩ := cond_some h rfl
      have hd := of_decide_eq_true hd
      cases h
      obtain ⟨ob, hob, hR⟩ := hi.own k _ hg
      rw [hH] at hob
      cases hob
      obtain ⟨cur, et, hb, hc⟩ := hR
      have hl := hc.length
      simp only [Array.length_toList] at hl
      refine ⟨b, off, cur, et, (0, 0), e1, .inr ⟨k, hkm, c, hg⟩, hb, by simp; omega, ?_⟩
      have h2 := hc.drop off
      rw [List.take_of_length_le (by simp; omega)]
      exact h2.mono (CR.mono hA)
    · cases h
  | undef => simp [gnd1] at h
  | eptr k win i off => simp [gnd1] at h
  | aptr k off n e i => simp [gnd1] at h
  | tup vs => simp [gnd1] at h
  | fn f vs => simp [gnd1] at h
  | map k => simp [gnd1] at h
  | fptr f cds => simp [gnd1] at h
  | fpb f css => simp [gnd1] at h
theorem gnds_VR {keys : List Nat} (hi : Inv x γ H w) : ∀ {vs vs' : List V} {us : List Value}, gnds H vs = some vs' → All2 (VR1 γ w (Av x γ w) H) vs us → (∀ v ∈ vs, ∀ k ∈ v.ownKey, k ∈ keys) → All2 (VR1 noGam w (A0k x γ w keys) emp) vs' us
  | [], vs', [], h, _, _ => by simp [gnds] at h; subst h; trivial
  | v :: vs, vs', u :: us, h, hv, hk => by
    simp only [gnds] at h
    split at h
    · rename_i v1 vs1 h1 h2
      cases h
      exact ⟨gnd1_VR hi h1 hv.1 (hk v (by simp)), gnds_VR hi h2 hv.2 (fun v' hv' => hk v' (by simp [hv']))⟩
    · cases h
  | [], _, _ :: _, _, h, _ => h.elim
  | _ :: _, _, [], _, h, _ => h.elim
def isOP (k : Nat) : V → Prop
  | .own j _ _ => j = k
  | .ptr j _ => j = k
  | _ => False
theorem ownKey_caps : ∀ {vs : List V} {v : V}, v ∈ vs → ∀ k, isOP k v → k ∈ V.ownKey.capKeys vs
  | [], v, h, _, _ => by simp at h
  | y :: vs, v, h, k, hk => by
    rcases List.mem_cons.1 h with rfl | h
    · cases v <;> simp_all [isOP, V.ownKey.capKeys]
    · have ih := ownKey_caps h k hk
      cases y <;> simp_all [V.ownKey.capKeys]
theorem VR1_noFn {v : V} {u : Value} {A : Nat → Prop} (h : VR1 γ w A H v u) : ∀ k ∈ v.ownKey, isOP k v := by
  intro k hk
  cases v with
  | fn f vs => exact h.elim
  | _ => first | exact (List.not_mem_nil hk).elim | (simp only [V.ownKey, List.mem_singleton] at hk; exact hk.symm) | (simp [V.ownKey] at hk)
theorem gnd_VR {v v' : V} {u : Value} {keys : List Nat} (hi : Inv x γ H w) (h : gnd H v = some v') (hv : VR γ w (Av x γ w) H v u) (hk : ∀ k ∈ v.ownKey, k ∈ keys) : VR noGam w (A0k x γ w keys) emp v' u := by
  cases v with
  | fn f caps =>
    simp only [gnd, Option.map_eq_some_iff] at h
    obtain ⟨caps', h1, rfl⟩ := h
    obtain ⟨us, e1, h2⟩ := hv
    refine ⟨us, e1, gnds_VR hi h1 h2 (fun v hvm k hkm => hk k ?_)⟩
    obtain ⟨i, hi'⟩ := List.getElem?_of_mem hvm
    obtain ⟨u', _, hr⟩ := h2.get hi'
    exact ownKey_caps hvm k (VR1_noFn hr k hkm)
  | tup vs => simp [gnd, gnd1] at h
  | c y => simp only [gnd, gnd1, Option.some.injEq] at h; subst h; exact gnd1_VR (v := .c y) hi rfl hv hk
  | agg cs => simp only [gnd, gnd1, Option.some.injEq] at h; subst h; exact gnd1_VR (v := .agg cs) hi rfl hv hk
  | iptr cs => simp only [gnd, gnd1, Option.some.injEq] at h; subst h; exact gnd1_VR (v := .iptr cs) hi rfl hv hk
  | own k win t =>
    simp only [gnd] at h
    have := gnd1_VR hi h hv hk
    simp only [gnd1] at h
    split at h
    · cases h; exact this
    · cases h
  | ptr k off =>
    simp only [gnd] at h
    have := gnd1_VR hi h hv hk
    simp only [gnd1] at h
    split at h
    · obtain ⟨_, h⟩ := cond_some h rfl
      cases h; exact this
    · cases h
  | undef => simp [gnd, gnd1] at h
  | eptr k win i off => simp [gnd, gnd1] at h
  | aptr k off n e i => simp [gnd, gnd1] at h
  | map k => simp [gnd, gnd1] at h
  | fptr f cds => simp [gnd, gnd1] at h
  | fpb f css => simp [gnd, gnd1] at h
theorem argsV_VR {T : Tab} {keys : List Nat} (hi : Inv x γ H w) (hv : Ops ρv H x γ w a) : ∀ {ts : List TypeId} {ys : List Operand} {vs : List V}, argsV T ρv H ts ys = some vs → (∀ y ∈ ys, ∀ k ∈ opKey ρv y, k ∈ keys) →
    All2 (VR noGam w (A0k x γ w keys) emp) vs (ys.map a.eval)
  | [], [], vs, h, _ => by simp [argsV] at h; subst h; trivial
  | t :: ts, y :: ys, vs, h, hk => by
    simp only [argsV] at h
    split at h
    · rename_i v vs' h1 h2
      cases h
      refine ⟨?_, argsV_VR hi hv h2 (fun y' hy' => hk y' (by simp [hy']))⟩
      unfold argV at h1
      cases hn : isNil y with
      | true =>
        rw [hn] at h1
        simp only [cond_true, nilV] at h1
        have hy := isNil_eq hn
        subst hy
        split at h1
        · cases h1
          exact ⟨none, 0, rfl, Nat.le_refl _, fun _ => rfl, .inl rfl⟩
        · cases h1
      | false =>
        rw [hn] at h1
        simp only [cond_false] at h1
        obtain ⟨v0, g1, g2⟩ := Option.bind_eq_some_iff.1 h1
        exact gnd_VR hi g2 (hv y v0 g1) (fun k hkm => hk y (by simp) k (by simp [opKey, g1, hkm]))
    · cases h
  | [], _ :: _, _, h, _ => by simp [argsV] at h
  | _ :: _, [], _, h, _ => by simp [argsV] at h
theorem P_call {c : Call} {g : FuncId} (hT : TabOK P E.T) (hphi : PhiOK P E.phi) (ho : o.op = .call c) (hc : c.callee = .value (.func g)) (h : evalP E o ρv H ρ K = some r) (hi : Inv x γ H w) (hv : Ops ρv H x γ w a) : Good P o H K r x γ w a := by
  simp only [evalP, ho, hc] at h
  cases hid : memN g E.T.idf with
  | true =>
    rw [hid] at h
    simp only [cond_true] at h
    obtain ⟨hcall, hret⟩ := hT.idf g (memN_mem hid)
    split at h
    · rename_i y hy
      split at h
      · rename_i v hv1
        obtain ⟨hu, h⟩ := cond_none h rfl
        refine ⟨v, [], h, .inr (.inr ⟨g, #[a.eval y], w, ?_, ?_⟩)⟩
        · have hargs : c.args.map a.eval = #[a.eval y] := by
            apply Array.ext'
            rw [Array.toList_map, hy]
            rfl
          simp only [execOp, ho, resolve, hc, Act.eval, Deferred.ofValue, Sem.run_bind, Sem.run_pure, Result.andThen_ok, invoke, hargs]
          simpa using hcall _ w
        · refine (hret (a.eval y) w).mono fun e w' he => ?_
          obtain ⟨rfl, rfl⟩ := he
          exact Res.same hi (hv y v hv1)
      · cases h
    · cases h
  | false =>
  rw [hid] at h
  simp only [cond_false] at h
  split at h
  · rename_i vs hvs
    obtain ⟨ret, hk, hfc, hcall⟩ := hphi g vs ρ _ r h
    cases hsl : (ret.any Ret1.hasSl && c.args.toList.any fun y => !(opKey ρv y).isEmpty) with
    | true => rw [hsl] at hk; cases hk
    | false =>
      rw [hsl] at hk
      simp only [cond_false] at hk
      refine ⟨_, _, hk, .inr (.inr ⟨g, (c.args.toList.map a.eval).toArray, w, ?_, ?_⟩)⟩
      · have hargs : c.args.map a.eval = (c.args.toList.map a.eval).toArray := by
          apply Array.ext'
          rw [Array.toList_map]
        simp only [execOp, ho, resolve, hc, Act.eval, Deferred.ofValue, Sem.run_bind, Sem.run_pure, Result.andThen_ok, invoke, hargs]
        simpa using hcall _ w
      · have hA := hfc w (A0k x γ w (c.args.toList.flatMap (opKey ρv))) _ (fun b hb => A0k_lt hi _ b hb) (argsV_VR hi hv hvs fun y hy k hkm => List.mem_flatMap.2 ⟨y, hy, hkm⟩)
        refine (hA (hi.globs.mono (Nat.le_refl _) fun b hb => ⟨.inl hb, rfl⟩)).mono fun e w' he => ?_
        cases e with
        | returned u =>
          obtain ⟨hgw, hret⟩ := he
          refine Res.call hi hgw ?_ hret
          simp only [Bool.and_eq_false_iff] at hsl
          rcases hsl with h1 | h1
          · exact .inr h1
          · refine .inl fun b hb hA0 => ?_
            rcases hA0 with hA0 | ⟨k, hkm, _⟩
            · exact hA0
            · obtain ⟨y, hy, hyk⟩ := List.mem_flatMap.1 hkm
              have := List.any_eq_false.1 h1 y hy
              simp only [Bool.not_eq_true, Bool.not_eq_false'] at this
              have : opKey ρv y = [] := by simpa using this
              rw [this] at hyk
              simp at hyk
        | panicked chain => exact he.elim
        | outgrown => exact he.elim
  · cases h
theorem VR1.up {A : Nat → Prop} {v : V} {u : Value} (h : VR1 γ w A H v u) : VR γ w A H v u := by
  cases v with
  | tup vs => exact h.elim
  | fn f vs => exact h.elim
  | _ => exact h
/-- A call of a closure that only reads. -/
theorem P_callt {c : Call} {t : Tmp} (hT : TabOK P E.T) (hphi : PhiOK P E.phi) (ho : o.op = .call c) (hc : c.callee = .value (.tmp t)) (h : evalP E o ρv H ρ K = some r) (hi : Inv x γ H w) (hv : Ops ρv H x γ w a) : Good P o H K r x γ w a := by
  simp only [evalP, ho, hc] at h
  split at h
  · rename_i g caps hg
    obtain ⟨v, hvf, hgn⟩ := Option.bind_eq_some_iff.1 hg
    split at h
    · rename_i vs hvs
      obtain ⟨ret, hk, hfc, hcall⟩ := hphi g (vs ++ caps) ρ _ r h
      cases hsl : ret.any Ret1.hasSl with
      | true => rw [hsl] at hk; cases hk
      | false =>
        rw [hsl] at hk
        simp only [cond_false] at hk
        obtain ⟨us, e1, hcs⟩ := gnd_VR (v' := .fn g caps) (keys := v.ownKey ++ c.args.toList.flatMap (opKey ρv)) hi hgn (hv _ _ hvf) (fun k hkm => List.mem_append.2 (.inl hkm))
        have hargs := argsV_VR (keys := v.ownKey ++ c.args.toList.flatMap (opKey ρv)) hi hv hvs fun y hy k hkm => List.mem_append.2 (.inr (List.mem_flatMap.2 ⟨y, hy, hkm⟩))
        refine ⟨_, _, hk, .inr (.inr ⟨g, (c.args.toList.map a.eval ++ us).toArray, w, ?_, ?_⟩)⟩
        · have hargs : c.args.map a.eval ++ us.toArray = (c.args.toList.map a.eval ++ us).toArray := by
            apply Array.ext'
            simp
          simp only [execOp, ho, resolve, hc, e1, Deferred.ofValue, Sem.run_bind, Sem.run_pure, Result.andThen_ok, invoke]
          rw [← hargs]
          simpa using hcall _ w
        · have hA := hfc w (A0k x γ w (v.ownKey ++ c.args.toList.flatMap (opKey ρv))) _ (fun b hb => A0k_lt hi _ b hb) (hargs.append (hcs.mono fun _ _ q => VR1.up q))
          refine (hA (hi.globs.mono (Nat.le_refl _) fun b hb => ⟨.inl hb, rfl⟩)).mono fun e w' he => ?_
          cases e with
          | returned u =>
            obtain ⟨hgw, hret⟩ := he
            exact Res.call hi hgw (.inr hsl) hret
          | _ => exact he.elim
    · cases h
  · cases h
/-- Each operation that changes nothing comes to what the interpreter says. -/
theorem evalP_good (hT : TabOK P E.T) (hE : EqsOK P E.T) (hphi : PhiOK P E.phi) (h : evalP E o ρv H ρ K = some r) (hi : Inv x γ H w) (hv : Ops ρv H x γ w a) : Good P o H K r x γ w a := by
  cases ho : o.op with
  | move y => exact P_move (.inl ho) h hi hv
  | assign y => exact P_move (.inr ho) h hi hv
  | pick c y z => exact P_pick ho h hi hv
  | alloc t => exact P_alloc hT ho h hi
  | box t y => exact P_box hT ho h hi hv
  | build t ps => exact P_build hT ho h hi hv
  | buildSlice t n ps => exact P_buildSlice hT ho h hi hv
  | load t y => exact P_load hT ho h hi hv
  | binOp op t y z t' => exact P_binOp hT hE ho h hi hv
  | unOp op t y => exact P_unOp ho h hi hv
  | convert s t y => exact P_convert hT ho h hi hv
  | extract y j => exact P_extract ho h hi hv
  | fieldAddr s y f => exact P_fieldAddr hT ho h hi hv
  | field s y f => exact P_field hT ho h hi hv
  | indexAddr t y z => exact P_indexAddr hT ho h hi hv
  | index t y z => exact P_index hT ho h hi hv
  | slice t y lo hi' mx => exact P_slice hT ho h hi hv
  | makeSlice t l c => exact P_makeSlice hT ho h hi hv
  | makeFunc fn first caps => exact P_makeFunc ho h hi hv
  | makeMap t rs =>
    cases rs with
    | none => exact P_makeMap hT ho h hi
    | some y => simp only [evalP, ho] at h; cases h
  | lookup t y z ok => exact P_lookup hT ho h hi hv
  | nilCheck y => exact P_nilCheck ho h hi hv
  | range t y => exact P_range hT ho h hi hv
  | call c =>
    cases hc : c.callee with
    | builtin b =>
      cases b with
      | len => exact P_len hT ho hc h hi hv
      | cap => exact P_cap hT ho hc h hi hv
      | max => exact P_max ho hc h hi hv
      | min => exact P_min ho hc h hi hv
      | append => exact P_append hT ho hc h hi hv
      | _ => simp only [evalP, ho, hc] at h; cases h
    | value f =>
      cases f with
      | func g => exact P_call hT hphi ho hc h hi hv
      | tmp t => exact P_callt hT hphi ho hc h hi hv
      | _ => simp only [evalP, ho, hc] at h; cases h
    | invoke rv m => simp only [evalP, ho, hc] at h; cases h
  | _ => simp only [evalP, ho] at h; cases h
end
end Go.Vi
/-
  Vi: operations that change what is the call's own: stores.
-/
set_option linter.unusedVariables false
set_option linter.unusedSimpArgs false
namespace Go.Vi
open Op
variable {P : Program} {E : Env} {o : Oper} {ρ : Type} {r : ρ} {x : Cx} {γ : Gam} {H : Heap} {w : World} {a : Act} {st : St} {K : St → Option ρ}
/-- An operation goes on to a state. -/
def Eff (P : Program) (o : Oper) (K : St → Option ρ) (r : ρ) (x : Cx) (a : Act) (w : World) : Prop :=
  ∃ st', K st' = some r ∧ OpTo P o a w fun u w' => ∃ γ', RS x γ' st' (a.put o.dst u) w'
/-- Of one shape: what names the one names the other. -/
def sameO : O → O → Prop
  | .box _, .box _ => True
  | .arr e xs n, .arr e' xs' n' => e' = e ∧ xs'.length = xs.length ∧ n' = n
  | .mp _ _ _, .mp _ _ _ => True
  | .fbox, .fbox => True
  | .iter _ _, .iter _ _ => True
  | _, _ => False
theorem view_len {α β : Type} {win : Option (Nat × Nat)} {xs : List α} {ys : List β} (h : xs.length = ys.length) : (view win xs).length = (view win ys).length := by
  cases win with
  | none => exact h
  | some p => simp [view, h]
theorem upd_self (H : Heap) (k : Nat) (ob : O) : upd H k ob k = some ob := by simp [upd]
theorem upd_ne (H : Heap) {j k : Nat} (ob : O) (h : j ≠ k) : upd H k ob j = H j := by simp [upd, beq_false h]
theorem VR1.upd {A : Nat → Prop} {k : Nat} {ob ob' : O} (hH : H k = some ob) (hs : sameO ob ob') : ∀ (y : V) (u : Value), VR1 γ w A H y u → VR1 γ w A (upd H k ob') y u := by
  intro y u h
  cases y with
  | own j win t =>
    obtain ⟨i, e, xs, nilE, h1, h2, h3⟩ := h
    by_cases hj : j = k
    · subst hj
      rw [h2] at hH
      cases hH
      cases ob' with
      | arr e' xs' n' =>
        obtain ⟨rfl, hl, rfl⟩ := hs
        exact ⟨i, _, xs', _, h1, upd_self _ _ _, by rw [hl]; exact h3⟩
      | _ => exact hs.elim
    · exact ⟨i, e, xs, nilE, h1, (upd_ne H ob' hj).trans h2, h3⟩
  | eptr j win i off =>
    obtain ⟨b, c, e, xs, nilE, h1, h2, h3, h4, h5⟩ := h
    by_cases hj : j = k
    · subst hj
      rw [h2] at hH
      cases hH
      cases ob' with
      | arr e' xs' n' =>
        obtain ⟨rfl, hl, rfl⟩ := hs
        exact ⟨b, c, _, xs', _, h1, upd_self _ _ _, h3, by rw [view_len hl]; exact h4, h5⟩
      | _ => exact hs.elim
    · exact ⟨b, c, e, xs, nilE, h1, (upd_ne H ob' hj).trans h2, h3, h4, h5⟩
  | ptr j off => exact h
  | aptr j off n e i => exact h
  | map j => exact h
  | undef => trivial
  | c y => exact h
  | agg cs => exact h
  | iptr cs => exact h
  | tup vs => exact h
  | fn f vs => exact h
  | fptr f cds => exact h
  | fpb f css => exact h
theorem VR.upd {A : Nat → Prop} {k : Nat} {ob ob' : O} (hH : H k = some ob) (hs : sameO ob ob') (y : V) (u : Value) (h : VR γ w A H y u) : VR γ w A (upd H k ob') y u := by
  cases y with
  | tup vs => obtain ⟨us, h1, h2⟩ := h; exact ⟨us, h1, h2.mono (VR1.upd hH hs)⟩
  | fn f caps => obtain ⟨us, h1, h2⟩ := h; exact ⟨us, h1, h2.mono (VR1.upd hH hs)⟩
  | _ => simp only [VR] at h ⊢; exact VR1.upd hH hs _ _ h
/-- The one block of an own thing turns. -/
structure Turns (b : Nat) (w w' : World) : Prop where
  size : w'.heap.size = w.heap.size
  os : w'.os = w.os
  tape : w'.tape = w.tape
  output : w'.output = w.output
  blk : ∀ j, j ≠ b → w'.heap[j]? = w.heap[j]?
theorem Turns.setRow (w : World) (b : Nat) (cs : Array Value) : Turns b w (w.setRow b cs) :=
  ⟨setRow_size w b cs, rfl, rfl, rfl, fun j hj => setRow_other w b j cs hj⟩
/-- A cell that stays. -/
def CellKeep (w w' : World) (b j : Nat) : Prop := ∀ cur et fz u, w.heap[b]? = some (.cells cur et fz) → cur[j]? = some u → ∃ cur' et' fz', w'.heap[b]? = some (.cells cur' et' fz') ∧ cur'[j]? = some u
/-- Slices in a box that turns stay where they were. -/
def OslKeep (w w' : World) (b : Nat) (ob ob' : O) : Prop := ∀ (cs' : List C) (j : Nat), ob' = .box cs' → cs'[j]? = some C.osl → ∃ cs, ob = .box cs ∧ cs[j]? = some C.osl ∧ CellKeep w w' b j
theorem OslKeep.no {w w' : World} {b : Nat} {ob ob' : O} (h : NoOsl ob') : OslKeep w w' b ob ob' := fun cs' j e hj => absurd hj (h cs' j e)
theorem replace_osl {cs vs : List C} {off j : Nat} (hv : noOsl vs = true) (hl : off + vs.length ≤ cs.length) (h : (replace cs off vs)[j]? = some C.osl) : cs[j]? = some C.osl ∧ (j < off ∨ off + vs.length ≤ j) := by
  unfold replace at h
  rw [List.append_assoc, List.getElem?_append] at h
  rw [List.length_take] at h
  split at h
  · rename_i h1
    rw [List.getElem?_take, if_pos (by omega)] at h
    exact ⟨h, .inl (by omega)⟩
  · rename_i h1
    rw [List.getElem?_append] at h
    split at h
    · exact absurd h (noOsl_spec hv _)
    · rename_i h2
      rw [List.getElem?_drop] at h
      have e : off + vs.length + (j - min off cs.length - vs.length) = j := by omega
      rw [e] at h
      exact ⟨h, .inr (by omega)⟩
theorem splice_keep {w : World} {b : Nat} {cur : Array Value} {et : TypeId} {fz : Nat × Nat} {off j : Nat} {vs : List Value} (hb : w.heap[b]? = some (.cells cur et fz)) (hl : off + vs.length ≤ cur.size) (hj : j < off ∨ off + vs.length ≤ j) :
    CellKeep w (w.setRow b (cur.toList.take off ++ vs ++ cur.toList.drop (off + vs.length)).toArray) b j := by
  intro cur2 et2 fz2 u h1 h2
  rw [hb] at h1
  cases h1
  refine ⟨_, et, fz, setRow_heap w b cur _ et fz hb, ?_⟩
  rw [List.getElem?_toArray, List.append_assoc, List.getElem?_append, List.length_take]
  have hlen : cur.toList.length = cur.size := by simp
  rw [← Array.getElem?_toList] at h2
  by_cases h3 : j < min off cur.toList.length
  · rw [if_pos h3, List.getElem?_take, if_pos (by omega)]
    exact h2
  · rw [if_neg h3, List.getElem?_append, if_neg (by omega), List.getElem?_drop]
    have e : off + vs.length + (j - min off cur.toList.length - vs.length) = j := by omega
    rw [e]
    exact h2
theorem OslKeep.splice {w : World} {b : Nat} {cur : Array Value} {et : TypeId} {fz : Nat × Nat} {off : Nat} {vs : List Value} {cs ws : List C} (hb : w.heap[b]? = some (.cells cur et fz)) (hl : off + vs.length ≤ cur.size) (hc : cs.length = cur.size) (hw : ws.length = vs.length) (hn : noOsl ws = true) :
    OslKeep w (w.setRow b (cur.toList.take off ++ vs ++ cur.toList.drop (off + vs.length)).toArray) b (.box cs) (.box (replace cs off ws)) := by
  intro cs' j e hj
  cases e
  obtain ⟨h1, h2⟩ := replace_osl hn (by omega) hj
  exact ⟨cs, rfl, h1, splice_keep hb hl (by omega)⟩
theorem hk_ne (k off : Nat) : hk k off ≠ k := by
  unfold hk oslLo
  have := Nat.le_mul_self (k + off)
  omega
theorem Inv.upd {w' : World} {k b c : Nat} {ob ob' : O} (hi : Inv x γ H w) (hk : γ k = some (.at b c)) (hH : H k = some ob) (hs : sameO ob ob') (ht : Turns b w w') (hkp : OslKeep w w' b ob ob')
    (hob : objR w' (Av x γ w') ob' (.at b c)) :
    Inv x γ (Vi.upd H k ob') w' ∧ ∀ y u, VR γ w (Av x γ w) H y u → VR γ w' (Av x γ w') (Vi.upd H k ob') y u := by
  have hav : ∀ j, Av x γ w j → Av x γ w' j ∧ w'.heap[j]? = w.heap[j]? := fun j hj =>
    ⟨⟨by rw [ht.size]; exact hj.1, hj.2.1, hj.2.2⟩, ht.blk j fun e => hj.2.2 k c (e ▸ hk)⟩
  refine ⟨⟨by rw [ht.size]; exact hi.size, ht.os.trans hi.os, ht.tape.trans hi.tape, ht.output.trans hi.output, ?_, ?_, ?_, hi.inj, ?pin, ?lnk⟩, fun y u h => VR.upd hH hs y u (VR.mono hav y u h)⟩
  case lnk =>
    intro j cs off b1 c1 ob1 h1 h2 h3 h4
    by_cases hjk : j = k
    · subst hjk
      rw [upd_self] at h1
      rw [upd_ne H ob' (hk_ne j off)] at h4
      rw [hk] at h3
      cases h3
      obtain ⟨cs0, e0, h5, h6⟩ := hkp cs off (Option.some.inj h1) h2
      rw [e0] at hH
      obtain ⟨i, e1, cur, et, fz, u, e, xs, nilE, g1, g2, g3, g4⟩ := hi.lnk j cs0 off b c ob1 hH h5 hk h4
      obtain ⟨cur', et', fz', g5, g6⟩ := h6 cur et fz u g1 g2
      exact ⟨i, e1, cur', et', fz', u, e, xs, nilE, g5, g6, (upd_ne H ob' (hk_ne j off)).trans g3, g4⟩
    · rw [upd_ne H ob' hjk] at h1
      have hbb : w'.heap[b1]? = w.heap[b1]? := ht.blk b1 fun e => by
        subst e
        exact hjk (hi.inj j k b1 c1 c h3 hk)
      by_cases hjk2 : Vi.hk j off = k
      · obtain ⟨i, e1, cur, et, fz, u, e, xs, nilE, g1, g2, g3, g4⟩ := hi.lnk j cs off b1 c1 ob h1 h2 h3 (by rw [hjk2]; exact hH)
        rw [hjk2, hH] at g3
        cases g3
        rw [hjk2] at e1 ⊢
        cases ob' with
        | arr e' xs' n' =>
          obtain ⟨rfl, hl, rfl⟩ := hs
          exact ⟨i, e1, cur, et, fz, u, _, xs', _, hbb.trans g1, g2, upd_self _ _ _, by rw [hl]; exact g4⟩
        | _ => exact hs.elim
      · rw [upd_ne H ob' hjk2] at h4
        obtain ⟨i, e1, e2⟩ := hi.lnk j cs off b1 c1 ob1 h1 h2 h3 h4
        exact ⟨i, e1, e2.mono hbb (upd_ne H ob' hjk2)⟩
  case pin =>
    intro j i hp hHj
    refine hi.pin j i hp ?_
    by_cases hjk : j = k
    · subst hjk
      rw [hH]
      simp
    · rwa [upd_ne H ob' hjk] at hHj
  · intro j hj hm
    refine (ht.blk j fun e => ?_).trans (hi.blk j hj hm)
    subst e
    rcases (hi.rng k j c hk).1 with h | h
    · omega
    · exact hm h
  · intro j i hj
    by_cases hjk : j = k
    · subst hjk
      rw [hk] at hj
      cases hj
      exact ⟨ob', upd_self _ _ _, hob⟩
    · obtain ⟨ob2, h1, h2⟩ := hi.own j i hj
      refine ⟨ob2, (upd_ne H ob' hjk).trans h1, objR.mono hav _ _ (fun b' c' hb => ht.blk b' fun e => ?_) h2⟩
      subst e
      exact hjk (hi.inj j k b' c' c (hb ▸ hj) hk)
  · intro j b' c' hj
    rw [ht.size]
    exact hi.rng j b' c' hj
theorem RS.upd {w' : World} {k b c : Nat} {ob ob' : O} {v : V} {u : Value} {dst : Option Tmp} (h : RS x γ st a w) (hk : γ k = some (.at b c)) (hH : st.hp k = some ob) (hs : sameO ob ob') (ht : Turns b w w') (hkp : OslKeep w w' b ob ob')
    (hob : objR w' (Av x γ w') ob' (.at b c)) (hv : VR γ w' (Av x γ w') (Vi.upd st.hp k ob') v u) : RS x γ (hset (put st dst v) k ob') (a.put dst u) w' := by
  obtain ⟨h1, h2⟩ := h.inv.upd hk hH hs ht hkp hob
  refine ⟨?_, ?_, ?_, ?_⟩
  · cases dst <;> exact h1
  · rw [put_size, ← h.len]
    cases dst <;> simp [put, hset]
  · intro t y hy
    have e : (hset (put st dst v) k ob').hp = Vi.upd st.hp k ob' := by cases dst <;> rfl
    rw [e]
    cases dst with
    | none => exact h2 y _ (h.tm t y hy)
    | some d =>
      rw [put_getD]
      simp only [hset, put, List.getElem?_set] at hy
      split at hy
      · rename_i hdt
        split at hy
        · rename_i hlt
          cases hy
          rw [if_pos ⟨hdt.symm, by rw [← h.len]; exact hlt⟩]
          exact hv
        · cases hy
      · rename_i hdt
        rw [if_neg (fun e => hdt e.1.symm)]
        exact h2 y _ (h.tm t y hy)
  · rw [put_defers]; exact h.nod
/-- What the state says, for an operation. -/
theorem RS.ops (h : RS x γ st a w) (hc : ∀ v y, constV v = some y → VR γ w (Av x γ w) st.hp y v) (hf : ∀ f, VR γ w (Av x γ w) st.hp (.fn f []) (a.eval (.func f))) : Ops (opV st) st.hp x γ w a := by
  intro y v hy
  cases y with
  | tmp t => exact h.tm t v hy
  | const u => exact hc u v hy
  | «global» g =>
    replace hy : (match (globs[g]? : Option (List (IntKind × Int))) with | some ns => some (V.iptr (ns.map fun p => .int p.1 p.2)) | none => none) = some v := hy
    split at hy
    · rename_i ns hns
      cases hy
      obtain ⟨h1, h2, cur, et, fz, h3, h4⟩ := h.inv.globs g ns hns
      have hl : cur.size = ns.length := by rw [← Array.length_toList, h4, List.length_map]
      refine ⟨g, 0, cur, et, fz, rfl, h2, h3, by simp only [List.length_map]; omega, ?_⟩
      rw [List.drop_zero, h4, List.take_of_length_le (by simp)]
      clear h4 hl hns
      induction ns with
      | nil => trivial
      | cons p ns ih => exact ⟨rfl, ih⟩
    · cases hy
  | func f => cases hy; exact hf f
theorem constC_CR {A : Nat → Prop} : ∀ {v : Value} {y : C}, constC v = some y → CR w A y v := by
  intro v y h
  cases v <;> simp [constC] at h <;> subst h <;> rfl
theorem constCs_CR {A : Nat → Prop} : ∀ {vs : List Value} {ys : List C}, constCs vs = some ys → All2 (CR w A) ys vs
  | [], ys, h => by simp [constCs] at h; subst h; trivial
  | v :: vs, ys, h => by
    simp only [constCs] at h
    split at h
    · rename_i c cs h1 h2
      cases h
      exact ⟨constC_CR h1, constCs_CR h2⟩
    · cases h
theorem constV_VR {A : Nat → Prop} {v : Value} {y : V} (h : constV v = some y) : VR γ w A H y v := by
  unfold constV at h
  split at h
  · rename_i cs
    obtain ⟨ys, h1, rfl⟩ := Option.map_eq_some_iff.1 h
    exact ⟨cs.toList, by simp, constCs_CR h1⟩
  · obtain ⟨z, h1, rfl⟩ := Option.map_eq_some_iff.1 h
    exact constC_CR h1
theorem RS.ops' (h : RS x γ st a w) : Ops (opV st) st.hp x γ w a :=
  h.ops (fun _ _ hc => constV_VR hc) fun f => ⟨[], rfl, trivial⟩
/-- The pure ones. -/
theorem E_pure {Kp : V → List (Nat × O) → Option ρ} (hK : ∀ v obs, Kp v obs = some r → obs.all (fun p => dead st o.dst p.1) = true ∧ K { tm := (put st o.dst v).tm, hp := updAll st.hp obs } = some r)
    (hg : Good P o st.hp Kp r x γ w a) (h : RS x γ st a w) : Eff P o K r x a w := by
  obtain ⟨v, obs, h1, h2⟩ := hg
  obtain ⟨hd, h3⟩ := hK v obs h1
  exact ⟨_, h3, h2.mono fun u w' hr => h.step hd hr⟩
/-! ### Stores -/
theorem splice_get {α : Type} (L us : List α) (p q : Nat) (h : p + us.length ≤ L.length) :
    (L.take p ++ us ++ L.drop (p + us.length))[q]? = if q < p then L[q]? else if q < p + us.length then us[q - p]? else L[q]? := by
  have hl : (L.take p).length = p := by simp; omega
  rw [List.append_assoc, List.getElem?_append, hl]
  split
  · rename_i hq
    rw [List.getElem?_take, if_pos hq]
  · rename_i hq
    rw [List.getElem?_append]
    by_cases hq2 : q < p + us.length
    · rw [if_pos hq2, if_pos (by omega)]
    · rw [if_neg hq2, if_neg (by omega), List.getElem?_drop]
      congr 1
      omega
theorem win_get {α : Type} (L : List α) (s n q : Nat) : ((L.drop s).take n)[q]? = if q < n then L[s + q]? else none := by
  rw [List.getElem?_take]
  split
  · rw [List.getElem?_drop]
  · rfl
theorem splice_other {α : Type} (L us : List α) {n m j off : Nat} (h1 : off + us.length ≤ n) (h2 : m * n + n ≤ L.length) (hj : j ≠ m) :
    (((L.take (m * n + off) ++ us ++ L.drop (m * n + off + us.length))).drop (j * n)).take n = (L.drop (j * n)).take n := by
  apply List.ext_getElem?
  intro q
  rw [win_get, win_get]
  split
  · rename_i hq
    rw [splice_get _ _ _ _ (by omega)]
    rcases Nat.lt_or_gt_of_ne hj with hlt | hgt
    · have := Nat.mul_le_mul_right n (show j + 1 ≤ m from hlt)
      rw [Nat.add_mul, Nat.one_mul] at this
      rw [if_pos (by omega)]
    · have := Nat.mul_le_mul_right n (show m + 1 ≤ j from hgt)
      rw [Nat.add_mul, Nat.one_mul] at this
      rw [if_neg (by omega), if_neg (by omega)]
  · rfl
theorem splice_same {α : Type} (L us : List α) {n m off : Nat} (h1 : off + us.length ≤ n) (h2 : m * n + n ≤ L.length) :
    (((L.take (m * n + off) ++ us ++ L.drop (m * n + off + us.length))).drop (m * n)).take n =
      ((L.drop (m * n)).take n).take off ++ us ++ ((L.drop (m * n)).take n).drop (off + us.length) := by
  have hl : ((L.drop (m * n)).take n).length = n := by simp; omega
  apply List.ext_getElem?
  intro q
  rw [win_get, splice_get _ _ off q (by omega), win_get]
  by_cases hq : q < n
  · rw [if_pos hq, if_pos hq, splice_get _ _ _ _ (by omega)]
    by_cases h3 : q < off
    · rw [if_pos (by omega), if_pos h3]
    · rw [if_neg (by omega), if_neg h3]
      by_cases h4 : q < off + us.length
      · rw [if_pos (by omega), if_pos h4]
        congr 1
        omega
      · rw [if_neg (by omega), if_neg h4]
  · rw [if_neg hq, if_neg hq, if_neg (by omega), if_neg (by omega)]
theorem replaceR {w : World} {A : Nat → Prop} {cs vs : List C} {us ws : List Value} (h : All2 (CR w A) cs us) (hv : All2 (CR w A) vs ws) (off : Nat) :
    All2 (CR w A) (replace cs off vs) (us.take off ++ ws ++ us.drop (off + ws.length)) := by
  unfold Vi.replace
  rw [hv.length]
  exact ((h.take off).append hv).append (h.drop _)
theorem run_storeAt_shape {t : TypeId} {s : Sh} (hs : Base P t s) {b off : Nat} {cur : Array Value} {et : TypeId} {u : Value} (h : w.heap[b]? = some (.cells cur et (0, 0))) (hl : u.cells.toList.length = s.nc)
    (hn : off + s.nc ≤ cur.size) (h1 : ∀ v ∈ u.cells.toList, v.oneCell' = true) :
    (Instr.storeAt t (.pointer (some ⟨b, off, none⟩)) u).run P w = .ok () (w.setRow b (cur.toList.take off ++ u.cells.toList ++ cur.toList.drop (off + u.cells.toList.length)).toArray) := by
  obtain ⟨i, d, z, hi, hd, hsz, hby, hz, hzz, ha⟩ := hs.ex
  have hc : u.cells.size = i.size := by rw [hsz, ← hl]; simp
  have h2 := run_storeCells_at P b off et u.cells.toList 0 cur w h (by rw [hl]; omega) h1
  simp only [Nat.add_zero] at h2
  simp only [Instr.storeAt, Instr.sureAddr, storeVar, Sem.run_bind, Sem.run_pure, Result.andThen_ok, run_sizeOf' hi, hc, ne_eq, not_true_eq_false, if_false, h2]
theorem setRow1_spec {i : Int} {v : C} : ∀ (n j : Nat) (cs cs' : List C), setRow1 i v j n cs = some cs' → n ≤ cs.length ∧ ((j : Int) ≤ i → i < j + n → cs' = cs.set (i.toNat - j) v) ∧ (i < j → cs' = cs)
  | 0, j, cs, cs', h => by
    unfold setRow1 at h
    cases h
    exact ⟨Nat.zero_le _, fun h1 h2 => by omega, fun _ => rfl⟩
  | n + 1, j, [], cs', h => by cases h
  | n + 1, j, c :: cs, cs', h => by
    unfold setRow1 at h
    split at h
    · rename_i c' cs2 h1 h2
      cases h
      obtain ⟨g1, g2, g3⟩ := setRow1_spec n (j + 1) cs cs2 h2
      have hc : c' = if i = (j : Int) then v else c := by
        unfold selC at h1
        split at h1
        · rename_i k x k' y
          have hk : k = k' := by
            cases hdk : decide (k = k') with
            | false => rw [hdk] at h1; cases h1
            | true => exact of_decide_eq_true hdk
          subst hk
          rw [decide_eq_true rfl, cond_true] at h1
          have h1 := Option.some.inj h1
          subst h1
          by_cases e : i = (j : Int)
          · rw [if_pos e, show (i == (j : Int)) = true by simpa using e]; rfl
          · rw [if_neg e, show (i == (j : Int)) = false by simpa using e]; rfl
        · have h1 := Option.some.inj h1
          subst h1
          by_cases e : i = (j : Int)
          · rw [if_pos e, show (i == (j : Int)) = true by simpa using e]; rfl
          · rw [if_neg e, show (i == (j : Int)) = false by simpa using e]; rfl
        · cases h1
      refine ⟨by simp; omega, fun h3 h4 => ?_, fun h3 => ?_⟩
      · by_cases e : i = (j : Int)
        · rw [hc, if_pos e, g3 (by omega), show i.toNat - j = 0 by omega, List.set_cons_zero]
        · rw [hc, if_neg e, g2 (by omega) (by omega), show i.toNat - j = (i.toNat - (j + 1)) + 1 by omega, List.set_cons_succ]
      · rw [hc, if_neg (by omega), g3 (by omega)]
    · cases h
theorem setRow1_replace {i : Int} {v : C} {cs cs' : List C} {off n : Nat} (h : setRow1 i v 0 n (cs.drop off) = some cs') (h0 : 0 ≤ i) (h1 : i < n) : cs.take off ++ cs' = replace cs (off + i.toNat) [v] := by
  obtain ⟨g1, g2, _⟩ := setRow1_spec n 0 _ _ h
  rw [List.length_drop] at g1
  rw [g2 (by omega) (by omega), Nat.sub_zero]
  unfold replace
  have hl : i.toNat < (cs.drop off).length := by rw [List.length_drop]; omega
  rw [List.set_eq_take_append_cons_drop, if_pos hl, List.length_singleton, List.drop_drop, ← List.append_assoc, List.take_add]
  simp [Nat.add_assoc]
theorem cleanTm_get (ks : List Nat) : ∀ (tm : List V) (t : Nat), (cleanTm ks tm)[t]? = (tm[t]?).map fun v => bif anyRefs ks v then .undef else v
  | [], t => by simp [cleanTm]
  | v :: r, 0 => by simp [cleanTm]
  | v :: r, t + 1 => by simp [cleanTm, cleanTm_get ks r t]
theorem cleanTm_length (ks : List Nat) : ∀ (tm : List V), (cleanTm ks tm).length = tm.length
  | [] => rfl
  | v :: r => by simp [cleanTm, cleanTm_length ks r]
/-- An own array becomes a box's. -/
theorem Inv.osl {w' : World} {k k3 b c off : Nat} {i : Info} {e : Sh} {xs : List e.den} {nilE : Bool} {cs : List C} {u : Value} {cur cur' : Array Value} {et : TypeId} (hi : Inv x γ H w) (hk0 : γ k = some (.at b c)) (hH : H k = some (.box cs))
    (hsrc : ∀ b3 c3, i = .at b3 c3 → γ k3 = some i) (hobi : objR w (Av x γ w) (.arr e xs nilE) i) (hown : OwnSl i e.nc xs.length nilE none false u) (hne : k3 ≠ k) (hlo3 : k3 < oslLo ∨ k3 = hk k off) (hlo : k < oslLo) (hpin : hk k off < pinLo)
    (ht : Turns b w w') (hb : w.heap[b]? = some (.cells cur et (0, 0))) (hb' : w'.heap[b]? = some (.cells cur' et (0, 0))) (hsz : cur'.size = cur.size) (hcell : cur'[off]? = some u) (hoth : ∀ j, j ≠ off → cur'[j]? = cur[j]?) (hu : u.oneCell' = true) :
    Inv x (gset (gdel γ [k3, hk k off]) (hk k off) i) (Vi.upd (Vi.upd (eraAll H [k3, hk k off]) k (.box (cs.set off .osl))) (hk k off) (.arr e xs nilE)) w' ∧
    ∀ y uu, refs k3 y = false → refs (hk k off) y = false → VR γ w (Av x γ w) H y uu →
      VR (gset (gdel γ [k3, hk k off]) (hk k off) i) w' (Av x (gset (gdel γ [k3, hk k off]) (hk k off) i) w') (Vi.upd (Vi.upd (eraAll H [k3, hk k off]) k (.box (cs.set off .osl))) (hk k off) (.arr e xs nilE)) y uu := by
  have hkk : hk k off ≠ k := hk_ne k off
  generalize hK : hk k off = K at *
  generalize hγ : gset (gdel γ [k3, K]) K i = γ'
  generalize hHH : Vi.upd (Vi.upd (eraAll H [k3, K]) k (.box (cs.set off .osl))) K (.arr e xs nilE) = H'
  have hg : ∀ j i', γ' j = some i' → (j = K ∧ i' = i) ∨ (j ≠ K ∧ j ≠ k3 ∧ γ j = some i') := by
    intro j i' hj
    rw [← hγ] at hj
    unfold gset at hj
    split at hj
    · rename_i h1
      cases hj
      exact .inl ⟨h1, rfl⟩
    · rename_i h1
      have hj' : gdel γ [k3, K] j = some i' := hj
      unfold gdel at hj'
      split at hj'
      · cases hj'
      · rename_i h2
        exact .inr ⟨h1, fun e => h2 (by simp [e]), hj'⟩
  have hgK : γ' K = some i := by rw [← hγ]; simp [gset]
  have hgn : ∀ j, j ≠ K → j ≠ k3 → γ' j = γ j := fun j h1 h2 => by rw [← hγ]; simp [gset, gdel, h1, h2]
  have hHK : H' K = some (.arr e xs nilE) := by rw [← hHH]; exact upd_self _ _ _
  have hHk : H' k = some (.box (cs.set off .osl)) := by rw [← hHH, upd_ne _ _ (fun e => hkk e.symm)]; exact upd_self _ _ _
  have hera : ∀ (ks : List Nat) (j : Nat), j ∉ ks → eraAll H ks j = H j := by
    intro ks
    induction ks with
    | nil => intro j _; rfl
    | cons q ks ih =>
      intro j hj
      simp only [List.mem_cons, not_or] at hj
      simp only [eraAll, era, beq_false hj.1, cond_false]
      exact ih j hj.2
  have hHn : ∀ j, j ≠ K → j ≠ k → j ≠ k3 → H' j = H j := fun j h1 h2 h3 => by rw [← hHH, upd_ne _ _ h1, upd_ne _ _ h2]; exact hera _ j (by simp [h1, h3])
  have hblk : ∀ j c', γ' j = some (.at b c') → j = k := fun j c' hj => by
    rcases hg j _ hj with ⟨h1, h2⟩ | ⟨h1, h2, h3⟩
    · have := hsrc b c' h2.symm
      rw [← h2] at this
      exact absurd (hi.inj k3 k b c' c this hk0) hne
    · exact hi.inj j k b c' c h3 hk0
  have hav0 : ∀ j, Av x γ w' j → Av x γ' w' j := fun j hj => ⟨hj.1, hj.2.1, fun k' c'' hk' => by
    rcases hg k' _ hk' with ⟨h1, h2⟩ | ⟨h1, h2, h3⟩
    · have := hsrc j c'' h2.symm
      rw [← h2] at this
      exact hj.2.2 k3 c'' this
    · exact hj.2.2 k' c'' h3⟩
  have hav : ∀ j, Av x γ w j → Av x γ' w' j ∧ w'.heap[j]? = w.heap[j]? := fun j hj =>
    ⟨hav0 j ⟨by rw [ht.size]; exact hj.1, hj.2.1, hj.2.2⟩, ht.blk j fun e => hj.2.2 k c (e ▸ hk0)⟩
  refine ⟨⟨by rw [ht.size]; exact hi.size, ht.os.trans hi.os, ht.tape.trans hi.tape, ht.output.trans hi.output, ?_, ?_, ?_, ?_, ?pin, ?lnk⟩, ?_⟩
  case pin =>
    intro j i' hp hHj
    have h1 := x.pinlo j i' hp
    have h2 := osl_pin
    have h3 : j ≠ K := by omega
    have h4 : j ≠ k := by omega
    have h5 : j ≠ k3 := by omega
    rw [hHn j h3 h4 h5] at hHj
    rw [hgn j h3 h5]
    exact hi.pin j i' hp hHj
  case lnk =>
    intro j cs1 off1 b1 c1 ob1 h1 h2 h3 h4
    have hj1 := hk_lo j off1
    have hKlo : oslLo ≤ K := by rw [← hK]; exact hk_lo k off
    by_cases hjk : j = k
    · subst hjk
      rw [hHk] at h1
      cases h1
      rcases hg j _ h3 with ⟨h5, _⟩ | ⟨_, _, h5⟩
      · exact absurd h5.symm hkk
      · rw [hk0] at h5
        cases h5
        by_cases ho : off1 = off
        · subst ho
          rw [hK] at h4 ⊢
          exact ⟨i, hgK, cur', et, (0, 0), u, e, xs, nilE, hb', hcell, hHK, hown⟩
        · have hnK : hk j off1 ≠ K := fun h => ho (hk_inj (h.trans hK.symm)).2
          have hn3 : hk j off1 ≠ k3 := fun h => by rcases hlo3 with h' | h' <;> omega
          have hnk : hk j off1 ≠ j := hk_ne j off1
          rw [hHn _ hnK hnk hn3] at h4
          rw [List.getElem?_set_ne (fun h => ho h.symm)] at h2
          obtain ⟨i2, e1, cur2, et2, fz2, u2, e2, xs2, n2, g1, g2, g3, g4⟩ := hi.lnk j cs off1 b c ob1 hH h2 hk0 h4
          rw [hb] at g1
          cases g1
          exact ⟨i2, by rw [hgn _ hnK hn3]; exact e1, cur', et, (0, 0), u2, e2, xs2, n2, hb', by rw [hoth off1 ho]; exact g2, by rw [hHn _ hnK hnk hn3]; exact g3, g4⟩
    · have hjK : j ≠ K := fun h => by rw [h, hHK] at h1; cases h1
      have hj3 : j ≠ k3 := fun h => by
        rw [← hHH, upd_ne _ _ hjK, upd_ne _ _ hjk, h] at h1
        simp [eraAll, era] at h1
      rw [hHn j hjK hjk hj3] at h1
      rw [hgn j hjK hj3] at h3
      have hnK : hk j off1 ≠ K := fun h => hjk (hk_inj (h.trans hK.symm)).1
      have hn3 : hk j off1 ≠ k3 := fun h => by
        rcases hlo3 with h' | h'
        · omega
        · exact hnK (h.trans h')
      have hnk : hk j off1 ≠ k := by omega
      rw [hHn _ hnK hnk hn3] at h4
      obtain ⟨i2, e1, e2⟩ := hi.lnk j cs1 off1 b1 c1 ob1 h1 h2 h3 h4
      exact ⟨i2, by rw [hgn _ hnK hn3]; exact e1, e2.mono (ht.blk b1 fun h => by subst h; exact hjk (hi.inj j k b1 c1 c h3 hk0)) (hHn _ hnK hnk hn3)⟩
  · intro j hj hm
    refine (ht.blk j fun e => ?_).trans (hi.blk j hj hm)
    subst e
    rcases (hi.rng k j c hk0).1 with h | h
    · omega
    · exact hm h
  · intro j i' hj
    rcases hg j i' hj with ⟨rfl, rfl⟩ | ⟨h1, h2, h3⟩
    · refine ⟨_, hHK, objR.mono hav _ _ (fun b3 c3 hb3 => ht.blk b3 fun h => ?_) hobi⟩
      subst h
      have := hsrc b3 c3 hb3
      rw [hb3] at this
      exact hne (hi.inj k3 k b3 c3 c this hk0)
    · by_cases hjk : j = k
      · subst hjk
        rw [hk0] at h3
        cases h3
        obtain ⟨ob2, h4, h5⟩ := hi.own j _ hk0
        rw [hH] at h4
        cases h4
        obtain ⟨cur2, et2, h6, h7⟩ := h5
        rw [hb] at h6
        cases h6
        refine ⟨_, hHk, cur', et, hb', ?_⟩
        have hl := h7.length
        refine All2.of_get (by rw [List.length_set, hl]; simp [hsz]) fun q y z hy hz => ?_
        rw [Array.getElem?_toList] at hz
        by_cases hq : q = off
        · subst hq
          rw [hcell] at hz
          cases hz
          rw [List.getElem?_set] at hy
          split at hy
          · split at hy
            · cases hy; exact hu
            · cases hy
          · rename_i hne2; exact absurd rfl hne2
        · rw [List.getElem?_set_ne (fun h => hq h.symm)] at hy
          rw [hoth q hq, ← Array.getElem?_toList] at hz
          obtain ⟨z2, hz2, hR⟩ := h7.get hy
          rw [hz] at hz2
          cases hz2
          exact CR.mono hav y z hR
      · obtain ⟨ob2, h4, h5⟩ := hi.own j i' h3
        refine ⟨ob2, (hHn j h1 hjk h2).trans h4, objR.mono hav _ _ (fun b' c'' hb2 => ht.blk b' fun h => ?_) h5⟩
        subst h
        exact hjk (hi.inj j k b' c'' c (hb2 ▸ h3) hk0)
  · intro j b' c'' hj
    rw [ht.size]
    rcases hg j _ hj with ⟨_, h2⟩ | ⟨_, _, h3⟩
    · have := hsrc b' c'' h2.symm
      rw [← h2] at this
      exact hi.rng k3 b' c'' this
    · exact hi.rng j b' c'' h3
  · intro j j' b' c1 c2 hj hj'
    rcases hg j _ hj with ⟨h1, h2⟩ | ⟨h1, h2, h3⟩ <;> rcases hg j' _ hj' with ⟨g1, g2⟩ | ⟨g1, g2, g3⟩
    · exact h1.trans g1.symm
    · have := hsrc b' c1 h2.symm
      rw [← h2] at this
      exact absurd (hi.inj j' k3 b' c2 c1 g3 this) g2
    · have := hsrc b' c2 g2.symm
      rw [← g2] at this
      exact absurd (hi.inj j k3 b' c1 c2 h3 this) h2
    · exact hi.inj j j' b' c1 c2 h3 g3
  · intro y uu hr3 hrK hv
    have h1 := VR.mono hav y uu hv
    -- names of others stay; the box's cells do not matter
    have hbox : VR γ w' (Av x γ' w') (Vi.upd H k (.box (cs.set off .osl))) y uu := VR.upd (ob := .box cs) (ob' := .box (cs.set off .osl)) hH trivial y uu h1
    refine VR.key (ks := [k3, K]) (fun j hj => ?_) (fun j hj => ?_) y uu (fun q hq => ?_) hbox
    · simp only [List.mem_cons, List.not_mem_nil, or_false, not_or] at hj
      exact hgn j hj.2 hj.1
    · simp only [List.mem_cons, List.not_mem_nil, or_false, not_or] at hj
      by_cases hjk : j = k
      · subst hjk
        rw [hHk, upd_self]
      · rw [hHn j hj.2 hjk hj.1, upd_ne _ _ hjk]
    · simp only [List.mem_cons, List.not_mem_nil, or_false] at hq
      rcases hq with rfl | rfl
      · exact hr3
      · exact hrK
theorem RS.osl {w' : World} {k k3 b c off : Nat} {i : Info} {e : Sh} {xs : List e.den} {nilE : Bool} {cs : List C} {u : Value} {cur cur' : Array Value} {et : TypeId} (hr : RS x γ st a w) (hk0 : γ k = some (.at b c)) (hH : st.hp k = some (.box cs))
    (hsrc : ∀ b3 c3, i = .at b3 c3 → γ k3 = some i) (hobi : objR w (Av x γ w) (.arr e xs nilE) i) (hown : OwnSl i e.nc xs.length nilE none false u) (hne : k3 ≠ k) (hlo3 : k3 < oslLo ∨ k3 = hk k off) (hlo : k < oslLo) (hpin : hk k off < pinLo)
    (ht : Turns b w w') (hb : w.heap[b]? = some (.cells cur et (0, 0))) (hb' : w'.heap[b]? = some (.cells cur' et (0, 0))) (hsz : cur'.size = cur.size) (hcell : cur'[off]? = some u) (hoth : ∀ j, j ≠ off → cur'[j]? = cur[j]?) (hu : u.oneCell' = true) :
    RS x (gset (gdel γ [k3, hk k off]) (hk k off) i) { tm := cleanTm [k3, hk k off] st.tm, hp := Vi.upd (Vi.upd (eraAll st.hp [k3, hk k off]) k (.box (cs.set off .osl))) (hk k off) (.arr e xs nilE) } a w' := by
  obtain ⟨h1, h2⟩ := hr.inv.osl hk0 hH hsrc hobi hown hne hlo3 hlo hpin ht hb hb' hsz hcell hoth hu
  refine ⟨h1, by rw [cleanTm_length]; exact hr.len, fun t v hv => ?_, hr.nod⟩
  simp only [cleanTm_get, Option.map_eq_some_iff] at hv
  obtain ⟨y, hy, hyv⟩ := hv
  cases hany : anyRefs [k3, hk k off] y with
  | true =>
    rw [hany] at hyv
    subst hyv
    trivial
  | false =>
    rw [hany] at hyv
    subst hyv
    have := List.any_eq_false.1 hany
    exact h2 y _ (by simpa using this k3 (by simp)) (by simpa using this (hk k off) (by simp)) (hr.tm t y hy)
theorem E_osl {t : TypeId} {p y : Operand} (hT : TabOK P E.T) (ho : o.op = .store t p y) (h : evalOsl E o st t p y ρ K = some r) (hr : RS x γ st a w) : Eff P o K r x a w := by
  have hv := hr.ops'
  unfold evalOsl at h
  split at h
  · rename_i k off k3 t3 h1 h2
    obtain ⟨b, c, hg, he⟩ := hv _ _ h1
    obtain ⟨i, e0, xs0, n0, g1, g2, g3⟩ := hv _ _ h2
    split at h
    · rename_i e cs e' xs nilE hs hH hH3
      obtain ⟨hd, hK⟩ := cond_some h rfl
      clear h
      simp only [Bool.and_eq_true, decide_eq_true_eq, Bool.not_eq_true'] at hd
      obtain ⟨⟨⟨⟨⟨d1, d2⟩, d3⟩, d4⟩, d5⟩, d6⟩ := hd
      subst d1
      rw [g2] at hH3
      cases hH3
      obtain ⟨ob, hob, hR⟩ := hr.inv.own k _ hg
      rw [hH] at hob
      cases hob
      obtain ⟨cur, et, hb, hcs⟩ := hR
      obtain ⟨ob3, hob3, hR3⟩ := hr.inv.own k3 _ g1
      rw [g2] at hob3
      cases hob3
      have hl := hcs.length
      have hu : (a.eval y).oneCell' = true ∧ (a.eval y).cells = #[a.eval y] := by
        cases i with
        | emp => obtain ⟨q, hq, _⟩ := g3; rw [hq]; exact ⟨rfl, rfl⟩
        | «at» b3 c3 => rw [g3.1]; exact ⟨rfl, rfl⟩
      have hown : OwnSl i e0.nc xs0.length n0 none false (a.eval y) := by
        cases i with
        | emp => exact g3
        | «at» b3 c3 => exact ⟨g3.1, g3.2.1, by simp⟩
      have hoff : off < cur.toList.length := by rw [← hl]; exact d2
      have hoff2 : off < cur.size := by simpa using hoff
      generalize hw' : w.setRow b (cur.toList.take off ++ (a.eval y).cells.toList ++ cur.toList.drop (off + (a.eval y).cells.toList.length)).toArray = w'
      have hb' : w'.heap[b]? = some (.cells (cur.toList.take off ++ [a.eval y] ++ cur.toList.drop (off + 1)).toArray et (0, 0)) := by
        rw [← hw', hu.2]
        exact setRow_heap w b cur _ et _ hb
      have hrs := RS.osl (e := e0) (xs := xs0) (nilE := n0) (u := a.eval y) hr hg hH (fun _ _ h3 => g1) hR3 hown (fun h3 => by
          rw [h3, Nat.beq_refl] at d5; cases d5) (.inl (lt_of_blt d4)) (lt_of_blt d3) (lt_of_blt d6) (by rw [← hw']; exact Turns.setRow w b _) hb hb'
        (by simp; omega) (by simp [List.getElem?_append, Nat.min_eq_left (Nat.le_of_lt hoff2), hoff2]) (fun j hj => by
          rw [List.getElem?_toArray, List.append_assoc, List.getElem?_append, List.length_take, ← Array.getElem?_toList]
          by_cases h3 : j < min off cur.toList.length
          · rw [if_pos h3, List.getElem?_take, if_pos (by omega)]
          · rw [if_neg h3, List.getElem?_append, if_neg (by simp; omega), List.getElem?_drop]
            refine congrArg (fun z : Nat => cur.toList[z]?) ?_
            simp only [List.length_take, List.length_cons, List.length_nil]
            omega) hu.1
      refine ⟨_, hK, .inr (.inl ⟨w', ?_, gset (gdel γ [k3, hk k off]) (hk k off) i, ?_⟩)⟩
      · have hrun := run_storeAt_shape (P := P) (w := w) (off := off) (u := a.eval y) (hT.sh t _ hs).base hb (by rw [hu.2]; rfl) (by show off + 1 ≤ cur.size; omega) (fun q hq => by rw [hu.2] at hq; simp at hq; rw [hq]; exact hu.1)
        rw [hw'] at hrun
        simp only [execOp, ho, he, Sem.run_bind, hrun, Result.andThen_ok, Sem.run_pure]
      · refine ⟨?_, ?_, ?_, ?_⟩
        · cases o.dst <;> exact hrs.inv
        · rw [put_size, ← hr.len]
          cases o.dst <;> simp [put, cleanTm_length]
        · intro q v hq
          cases hdst : o.dst with
          | none =>
            rw [hdst] at hq
            exact hrs.tm q v hq
          | some d =>
            rw [hdst] at hq
            simp only [put, List.getElem?_set] at hq
            rw [put_getD]
            split at hq
            · split at hq
              · cases hq
                trivial
              · cases hq
            · rename_i hdt
              rw [if_neg (fun e => hdt e.1.symm)]
              exact hrs.tm q v hq
        · rw [put_defers]
          exact hr.nod
    · cases h
  · cases h
theorem E_store {t : TypeId} {p y : Operand} (hT : TabOK P E.T) (hf : memN t E.T.fns = false) (ho : o.op = .store t p y) (h : evalE E o st ρ K = some r) (hr : RS x γ st a w) : Eff P o K r x a w := by
  have hv := hr.ops'
  simp only [evalE, ho, hf, cond_false] at h
  cases hO : isOwnV (opV st y) with
  | true =>
    rw [hO, cond_true] at h
    exact E_osl hT ho h hr
  | false =>
  rw [hO, cond_false] at h
  split at h
  · rename_i s k off vs h1 h2 h3
    obtain ⟨b, c, hg, he⟩ := hv _ _ h2
    obtain ⟨yv, g1, g2⟩ := Option.bind_eq_some_iff.1 h3
    have hc := cellsOf_VR g2 (hv _ _ g1)
    split at h
    · rename_i cs hH
      obtain ⟨hd, h⟩ := cond_some h rfl
      simp only [Bool.and_eq_true, decide_eq_true_eq] at hd
      obtain ⟨ob, hob, hR⟩ := hr.inv.own k _ hg
      rw [hH] at hob
      cases hob
      obtain ⟨cur, et, hb, hcs⟩ := hR
      have hl := hcs.length
      have hl2 := hc.length
      refine ⟨_, h, .inr (.inl ⟨w.setRow b (cur.toList.take off ++ (a.eval y).cells.toList ++ cur.toList.drop (off + (a.eval y).cells.toList.length)).toArray, ?_, γ, RS.upd (v := .undef) (u := undef) hr hg hH trivial (Turns.setRow w b _) (OslKeep.splice hb (by rw [← hl2]; simp at hl; omega) (by simpa using hl) hl2 hd.2) ?_ trivial⟩)⟩
      · have hrun := run_storeAt_shape (P := P) (w := w) (off := off) (hT.sh t s h1).base hb (by omega) (by simp at hl; omega) hc.oneCell
        simp only [execOp, ho, he, Sem.run_bind, hrun, Result.andThen_ok, Sem.run_pure]
      · refine ⟨_, et, setRow_heap w b cur _ et _ hb, ?_⟩
        have hav : ∀ j, Av x γ w j → Av x γ (w.setRow b (cur.toList.take off ++ (a.eval y).cells.toList ++ cur.toList.drop (off + (a.eval y).cells.toList.length)).toArray) j ∧
            (w.setRow b (cur.toList.take off ++ (a.eval y).cells.toList ++ cur.toList.drop (off + (a.eval y).cells.toList.length)).toArray).heap[j]? = w.heap[j]? := fun j hj =>
          ⟨⟨by rw [setRow_size]; exact hj.1, hj.2.1, hj.2.2⟩, setRow_other w b j _ fun e => hj.2.2 k c (e ▸ hg)⟩
        exact (replaceR hcs hc off).mono (CR.mono hav)
    · cases h
  · rename_i s k win i off vs h1 h2 h3
    obtain ⟨b, c, e, xs, nilE, hg, hH, hi0, hi1, he⟩ := hv _ _ h2
    obtain ⟨yv, g1, g2⟩ := Option.bind_eq_some_iff.1 h3
    have hc := cellsOf_VR g2 (hv _ _ g1)
    have hl2 := hc.length
    split at h
    · rename_i e' xs' n' hH'
      rw [hH] at hH'
      cases hH'
      obtain ⟨hd, h⟩ := cond_some h rfl
      simp only [Bool.and_eq_true, decide_eq_true_eq] at hd
      obtain ⟨z, hz, h⟩ := Option.bind_eq_some_iff.1 h
      split at h
      · rename_i yy hy
        obtain ⟨i0, i1, i2⟩ := idx_some hz
        obtain ⟨g3, g4⟩ := view_get i2
        obtain ⟨ob, hob, hR⟩ := hr.inv.own k _ hg
        rw [hH] at hob
        cases hob
        obtain ⟨hne, hxc, cur, et, hb, hsz, hel⟩ := hR
        have hlt : wo win + i.toNat < xs.length := (List.getElem?_eq_some_iff.1 g3).1
        have hmul : (wo win + i.toNat) * e.nc + e.nc ≤ c * e.nc := by
          have := Nat.mul_le_mul_right e.nc (show wo win + i.toNat + 1 ≤ c by omega)
          rwa [Nat.add_mul, Nat.one_mul] at this
        have hset : setW win xs i yy = xs.set (wo win + i.toNat) yy := by
          cases win with
          | none => simp [setW, wo]
          | some p => rfl
        rw [hset] at h
        have hlen : cur.toList.length = cur.size := by simp
        refine ⟨_, h, .inr (.inl ⟨w.setRow b (cur.toList.take ((wo win + i.toNat) * e.nc + off) ++ (a.eval y).cells.toList ++ cur.toList.drop ((wo win + i.toNat) * e.nc + off + (a.eval y).cells.toList.length)).toArray, ?_, γ, RS.upd (v := .undef) (u := undef) hr hg hH ⟨rfl, by simp, rfl⟩ (Turns.setRow w b _) (OslKeep.no NoOsl.arr) ?_ trivial⟩)⟩
        · have hrun := run_storeAt_shape (P := P) (w := w) (off := (wo win + i.toNat) * e.nc + off) (hT.sh t s h1).base hb (by omega) (by omega) hc.oneCell
          simp only [execOp, ho, he, Sem.run_bind, hrun, Result.andThen_ok, Sem.run_pure]
        · have hav : ∀ j, Av x γ w j → Av x γ (w.setRow b (cur.toList.take ((wo win + i.toNat) * e.nc + off) ++ (a.eval y).cells.toList ++ cur.toList.drop ((wo win + i.toNat) * e.nc + off + (a.eval y).cells.toList.length)).toArray) j ∧
              (w.setRow b (cur.toList.take ((wo win + i.toNat) * e.nc + off) ++ (a.eval y).cells.toList ++ cur.toList.drop ((wo win + i.toNat) * e.nc + off + (a.eval y).cells.toList.length)).toArray).heap[j]? = w.heap[j]? := fun j hj =>
            ⟨⟨by rw [setRow_size]; exact hj.1, hj.2.1, hj.2.2⟩, setRow_other w b j _ fun e => hj.2.2 k c (e ▸ hg)⟩
          refine ⟨fun hn => ?_, by simpa using hxc, _, et, setRow_heap w b cur _ et _ hb, ?_, ?_⟩
          · have := hne hn
            intro h0
            exact this (by simpa using congrArg List.length h0)
          · simp
            omega
          · intro j q hq
            rw [List.toList_toArray]
            by_cases hj : j = wo win + i.toNat
            · subst hj
              rw [splice_same _ _ (by omega) (by omega)]
              rw [List.getElem?_set, if_pos rfl, if_pos hlt] at hq
              cases hq
              have h5 := replaceR (CR.of_VRs e z _ (hel _ _ g3)) hc off
              exact VRs.of_ofC e _ _ _ hy (h5.mono (CR.mono hav))
            · rw [splice_other _ _ (by omega) (by omega) hj]
              rw [List.getElem?_set, if_neg (fun e => hj e.symm)] at hq
              exact VRs.mono hav e q _ (hel j q hq)
      · cases h
    · cases h
  · rename_i s k off n e i vs h1 h2 h3
    obtain ⟨b, c, hg, hi0, hi1, he⟩ := hv _ _ h2
    obtain ⟨yv, g1, g2⟩ := Option.bind_eq_some_iff.1 h3
    split at h
    · rename_i cs v hH
      have hc := cellsOf_VR g2 (hv _ _ g1)
      obtain ⟨hd, h⟩ := cond_some h rfl
      simp only [Bool.and_eq_true, decide_eq_true_eq] at hd
      split at h
      · rename_i cs' hset
        have hrep := setRow1_replace hset hi0 hi1
        rw [hrep] at h
        rw [hd.1.1.2, Nat.mul_one] at he
        obtain ⟨ob, hob, hR⟩ := hr.inv.own k _ hg
        rw [hH] at hob
        cases hob
        obtain ⟨cur, et, hb, hcs⟩ := hR
        have hl := hcs.length
        have hl2 := hc.length
        refine ⟨_, h, .inr (.inl ⟨w.setRow b (cur.toList.take (off + i.toNat) ++ (a.eval y).cells.toList ++ cur.toList.drop (off + i.toNat + (a.eval y).cells.toList.length)).toArray, ?_, γ, RS.upd (v := .undef) (u := undef) hr hg hH trivial (Turns.setRow w b _) (OslKeep.splice hb (by rw [← hl2]; simp at hl ⊢; omega) (by simpa using hl) hl2 hd.2) ?_ trivial⟩)⟩
        · have hrun := run_storeAt_shape (P := P) (w := w) (off := off + i.toNat) (hT.sh t s h1).base hb (by rw [← hl2]; simp; omega) (by simp at hl; omega) hc.oneCell
          simp only [execOp, ho, he, Sem.run_bind, hrun, Result.andThen_ok, Sem.run_pure]
        · refine ⟨_, et, setRow_heap w b cur _ et _ hb, ?_⟩
          have hav : ∀ j, Av x γ w j → Av x γ (w.setRow b (cur.toList.take (off + i.toNat) ++ (a.eval y).cells.toList ++ cur.toList.drop (off + i.toNat + (a.eval y).cells.toList.length)).toArray) j ∧
              (w.setRow b (cur.toList.take (off + i.toNat) ++ (a.eval y).cells.toList ++ cur.toList.drop (off + i.toNat + (a.eval y).cells.toList.length)).toArray).heap[j]? = w.heap[j]? := fun j hj =>
            ⟨⟨by rw [setRow_size]; exact hj.1, hj.2.1, hj.2.2⟩, setRow_other w b j _ fun e => hj.2.2 k c (e ▸ hg)⟩
          exact (replaceR hcs hc (off + i.toNat)).mono (CR.mono hav)
      · cases h
    · cases h
  · cases h
end Go.Vi
