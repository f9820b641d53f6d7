/-
  Vi: operations that change what is the call's own: maps.
-/
import Derived.Test.YtombednapelokaaViE3
set_option linter.unusedVariables false
set_option linter.unusedSimpArgs false
namespace Go.Vi
open Op

variable {P : Program} {E : Env} {o : Oper} {ρ : Type} {r : ρ} {x : Cx} {γ : Gam} {H : Heap} {w : World} {a : Act} {st : St} {K : St → Option ρ}

def setBlk (w : World) (b : Nat) (ob : Obj) : World := { w with heap := w.heap.setIfInBounds b ob }

theorem Turns.setBlk (w : World) (b : Nat) (ob : Obj) : Turns b w (setBlk w b ob) :=
  ⟨by simp [Vi.setBlk], rfl, rfl, rfl, fun j hj => by
    have : b ≠ j := fun e => hj e.symm
    simp only [Vi.setBlk, Array.getElem?_setIfInBounds, if_neg this]⟩

theorem setBlk_heap {w : World} {b : Nat} {o1 : Obj} (h : w.heap[b]? = some o1) (ob : Obj) : (setBlk w b ob).heap[b]? = some ob := by
  have : b < w.heap.size := (Array.getElem?_eq_some_iff.1 h).1
  simp [Vi.setBlk, this]

theorem run_getObj' {b : Nat} {es : Array MapEntry} {clock : Nat} (hb : w.heap[b]? = some (.map es clock)) : (getObj b).run P w = .ok (.map es clock) w := by
  simp [getObj, Sem.run, hb]

theorem run_setObj' {b : Nat} {es : Array MapEntry} {clock : Nat} (ob : Obj) (hb : w.heap[b]? = some (.map es clock)) : (setObj b ob).run P w = .ok () (setBlk w b ob) := by
  simp [setObj, Sem.run, hb, setBlk]

theorem findNow_at {A : Nat → Prop} {kk : IntKind} {e : Sh} {n : Int} {z : e.den} : ∀ (m : List (Int × e.den)) (es : List MapEntry) (i : Nat), All2 (entR w A kk e) m es →
    (∃ j en, es[j]? = some en ∧ en.key = .int kk n ∧ Instr.findNow (.int kk) (.int kk n) es i = some (some (i + j, en.val)) ∧
      (∀ en', entR w A kk e (n, z) en' → All2 (entR w A kk e) (aset m n z) (es.set j en')) ∧ All2 (entR w A kk e) (m.eraseP fun p => p.1 == n) (es.eraseIdx j)) ∨
    (Instr.findNow (.int kk) (.int kk n) es i = some none ∧ (∀ en', entR w A kk e (n, z) en' → All2 (entR w A kk e) (aset m n z) (es ++ [en'])) ∧ (m.eraseP fun p => p.1 == n) = m)
  | [], [], i, _ => .inr ⟨rfl, fun en' h => ⟨h, trivial⟩, rfl⟩
  | p :: m, en :: es, i, h => by
    have hk : en.key = .int kk p.1 := h.1.1
    by_cases hp : p.1 = n
    · have h1 : (p.1 == n) = true := by simpa using hp
      refine .inl ⟨0, en, rfl, by rw [hk, hp], ?_, fun en' he => ?_, ?_⟩
      · simp [Instr.findNow, hk, Instr.sameNow, hp]
      · simp only [aset, h1, cond_true, List.set_cons_zero]
        exact ⟨he, h.2⟩
      · simp only [List.eraseP_cons, h1, cond_true, List.eraseIdx_cons_zero]
        exact h.2
    · have h1 : (p.1 == n) = false := by simpa using hp
      have h2 : Instr.findNow (.int kk) (.int kk n) (en :: es) i = Instr.findNow (.int kk) (.int kk n) es (i + 1) := by
        have : (n == p.1) = false := by simpa using fun e => hp e.symm
        simp [Instr.findNow, hk, Instr.sameNow, this]
      rcases findNow_at (n := n) (z := z) m es (i + 1) h.2 with ⟨j, en0, g1, g2, g3, g4, g5⟩ | ⟨g1, g2, g3⟩
      · refine .inl ⟨j + 1, en0, by simpa using g1, g2, by rw [h2, g3]; simp; omega, fun en' he => ?_, ?_⟩
        · simp only [aset, h1, cond_false, List.set_cons_succ]
          exact ⟨h.1, g4 en' he⟩
        · simp only [List.eraseP_cons, h1, cond_false, List.eraseIdx_cons_succ]
          exact ⟨h.1, g5⟩
      · refine .inr ⟨h2.trans g1, fun en' he => ?_, ?_⟩
        · simp only [aset, h1, cond_false, List.cons_append]
          exact ⟨h.1, g2 en' he⟩
        · simp only [List.eraseP_cons, h1, cond_false, g3]
  | [], _ :: _, _, h => h.elim
  | _ :: _, [], _, h => h.elim

theorem Turns.av {w' : World} {b c k : Nat} (ht : Turns b w w') (hg : γ k = some (.at b c)) (j : Nat) (hj : Av x γ w j) : Av x γ w' j ∧ w'.heap[j]? = w.heap[j]? :=
  ⟨⟨by rw [ht.size]; exact hj.1, hj.2.1, hj.2.2⟩, ht.blk j fun e => hj.2.2 k c (e ▸ hg)⟩

theorem E_mapUpdate {t : TypeId} {p q y : Operand} (hT : TabOK P E.T) (ho : o.op = .mapUpdate t p q y) (h : evalE E o st ρ K = some r) (hr : RS x γ st a w) : Eff P o K r x a w := by
  have hv := hr.ops'
  simp only [evalE, ho] at h
  split at h
  · rename_i k kk n cs h1 h2 h3
    obtain ⟨b, c, hg, e1⟩ := hv _ _ h1
    have e3 := VR_int (hv _ _ h2)
    obtain ⟨v, g1, g2⟩ := Option.bind_eq_some_iff.1 h3
    have hvr := hv _ _ g1
    have hc := cellsOf_VR g2 hvr
    split at h
    · rename_i kk' e m kk2 e2 hH hm
      obtain ⟨hd, h⟩ := cond_some h rfl
      simp only [Bool.and_eq_true, decide_eq_true_eq] at hd
      obtain ⟨⟨⟨d1, d2⟩, d3⟩, d4⟩ := hd
      subst d1
      subst d2
      subst d3
      split at h
      · rename_i z hz
        have hval : valR w (Av x γ w) e2 z (a.eval y) := by
          have h5 := VRs.of_ofC e2 cs z _ hz hc
          rw [g1] at d4
          have d4 : vAgg v = e2.agg := of_decide_eq_true d4
          unfold valR
          cases v with
          | c y0 =>
            have d4 : e2.agg = false := d4.symm
            rw [if_neg (by simp [d4])]
            have h6 : (a.eval y).cells.toList = [a.eval y] := by
              cases y0 with
              | sl e0 xs0 t0 =>
                obtain ⟨ad, cap, f1, _⟩ := hvr
                rw [f1]
                rfl
              | _ => rw [show a.eval y = _ from hvr]; rfl
            rwa [h6] at h5
          | agg cs0 =>
            have d4 : e2.agg = true := d4.symm
            rw [if_pos d4]
            obtain ⟨vs, f1, f2⟩ := hvr
            rw [f1] at h5
            exact ⟨vs, f1, by simpa [Value.cells] using h5⟩
          | _ => cases g2
        obtain ⟨ob, hob, hR⟩ := hr.inv.own k _ hg
        rw [hH] at hob
        cases hob
        obtain ⟨es, clock, hb, hes⟩ := hR
        obtain ⟨kt, et, hu, hk, hbe⟩ := hT.maps t kk2 e2 hm
        have fin : ∀ (es' : Array MapEntry) (clock' : Nat), All2 (entR w (Av x γ w) kk2 e2) (aset m n z) es'.toList → (Instr.mapUpdate t (a.eval p) (a.eval q) (a.eval y)).run P w = .ok () (setBlk w b (.map es' clock')) → Eff P o K r x a w := by
          intro es' clock' hes' hrun
          refine ⟨_, h, .inr (.inl ⟨setBlk w b (.map es' clock'), ?_, γ, RS.upd (v := .undef) (u := undef) hr hg hH trivial (Turns.setBlk w b _) ?_ trivial⟩)⟩
          · simp only [execOp, ho, Sem.run_bind, hrun, Result.andThen_ok, Sem.run_pure]
          · exact ⟨es', clock', setBlk_heap hb _, hes'.mono (entR.mono (Turns.av (Turns.setBlk w b _) hg))⟩
        rcases findNow_at (n := n) (z := z) m es.toList 0 hes with ⟨j, en, f1, f2, f3, f4, f5⟩ | ⟨f1, f2, f3⟩
        · have hj : es[j]? = some en := by simpa using f1
          refine fin (es.modify j fun e => { e with key := .int kk2 n, val := a.eval y }) clock ?_ ?_
          · have hlt : j < es.size := (Array.getElem?_eq_some_iff.1 hj).1
            have : (es.modify j fun e => { e with key := .int kk2 n, val := a.eval y }).toList = es.toList.set j { en with key := .int kk2 n, val := a.eval y } := by
              apply List.ext_getElem?
              intro i
              simp only [Array.getElem?_toList, Array.getElem?_modify, List.getElem?_set, Array.length_toList]
              by_cases hi : j = i
              · subst hi
                rw [if_pos rfl, if_pos rfl, if_pos hlt, hj]
                rfl
              · simp [hi]
            rw [this]
            exact f4 _ ⟨rfl, hval⟩
          · simp only [Instr.mapUpdate, e1, e3, Sem.run_bind, run_underlying hu, Result.andThen_ok, run_getObj' hb, run_checkKey hk, Instr.findKey, run_underlying hk, f3, Sem.run_pure, hj, Instr.keyThatStays, Nat.zero_add]
            simp [f2, Instr.sameBits, run_setObj' _ hb]
        · refine fin (es.push { key := .int kk2 n, val := a.eval y, born := clock }) (clock + 1) ?_ ?_
          · rw [Array.toList_push]
            exact f2 _ ⟨rfl, hval⟩
          · simp only [Instr.mapUpdate, e1, e3, Sem.run_bind, run_underlying hu, Result.andThen_ok, run_getObj' hb, run_checkKey hk, Instr.findKey, run_underlying hk, f1, Sem.run_pure, run_setObj' _ hb]
      · cases h
    · cases h
  · cases h

theorem E_delete {c : Call} (hT : TabOK P E.T) (ho : o.op = .call c) (hc : c.callee = .builtin .delete) (h : evalE E o st ρ K = some r) (hr : RS x γ st a w) : Eff P o K r x a w := by
  have hv := hr.ops'
  simp only [evalE, ho, hc] at h
  split at h
  · rename_i p q t ts hargs htys
    have hargs' : c.args.map a.eval = #[a.eval p, a.eval q] := by
      apply Array.ext'
      simp [hargs]
    have htys' : c.argTypes[0]? = some t := by rw [← Array.getElem?_toList, htys]; rfl
    split at h
    · rename_i k kk n h1 h2
      obtain ⟨b, c0, hg, e1⟩ := hv _ _ h1
      have e3 := VR_int (hv _ _ h2)
      split at h
      · rename_i kk' e m kk2 e2 hH hm
        obtain ⟨hd, h⟩ := cond_some h rfl
        simp only [Bool.and_eq_true, decide_eq_true_eq] at hd
        obtain ⟨⟨d1, d2⟩, d3⟩ := hd
        subst d1
        subst d2
        subst d3
        obtain ⟨ob, hob, hR⟩ := hr.inv.own k _ hg
        rw [hH] at hob
        cases hob
        obtain ⟨es, clock, hb, hes⟩ := hR
        obtain ⟨kt, et, hu, hk, hbe⟩ := hT.maps t kk2 e2 hm
        have fin : ∀ (es' : Array MapEntry), All2 (entR w (Av x γ w) kk2 e2) (m.eraseP fun p => p.1 == n) es'.toList → (Builtin.delete_ c.argTypes o.type #[a.eval p, a.eval q]).run P w = .ok (.tuple #[]) (setBlk w b (.map es' clock)) → Eff P o K r x a w := by
          intro es' hes' hrun
          refine ⟨_, h, .inl ⟨.tuple #[], setBlk w b (.map es' clock), ?_, γ, RS.upd (v := .undef) hr hg hH trivial (Turns.setBlk w b _) ?_ trivial⟩⟩
          · refine exec_builtin ho hc ?_
            rw [hargs']
            simp only [builtin, Sem.run_bind, hrun, Result.andThen_ok, Sem.run_pure]
          · exact ⟨es', clock, setBlk_heap hb _, hes'.mono (entR.mono (Turns.av (Turns.setBlk w b _) hg))⟩
        have ha0 : (#[a.eval p, a.eval q] : Array Value)[0]? = some (a.eval p) := rfl
        have ha1 : (#[a.eval p, a.eval q] : Array Value)[1]? = some (a.eval q) := rfl
        rcases findNow_at (n := n) (z := zero e2) m es.toList 0 hes with ⟨j, en, f1, f2, f3, f4, f5⟩ | ⟨f1, f2, f3⟩
        · refine fin (es.eraseIdxIfInBounds j) ?_ ?_
          · have : (es.eraseIdxIfInBounds j).toList = es.toList.eraseIdx j := by simp
            rw [this]
            exact f5
          · simp only [Builtin.delete_, htys', ha0, ha1]
            simp only [e1, e3, Sem.run_bind, run_underlying hu, Result.andThen_ok, run_getObj' hb, run_checkKey hk, Instr.findKey, run_underlying hk, f3, Sem.run_pure, Nat.zero_add, run_setObj' _ hb]
        · refine fin es (by rw [f3]; exact hes) ?_
          simp only [Builtin.delete_, htys', ha0, ha1]
          simp only [e1, e3, Sem.run_bind, run_underlying hu, Result.andThen_ok, run_getObj' hb, run_checkKey hk, Instr.findKey, run_underlying hk, f1, Sem.run_pure, run_setObj' _ hb]
      · cases h
    · cases h
  · cases h

end Go.Vi
