/-
  Vi: operations that change nothing that is there. Part 6: literals of structs, arrays and slices.
-/
import Derived.Test.YtombednapelokaaViP5
import Derived.Laws.Tables
set_option linter.unusedVariables false
set_option linter.unusedSimpArgs false
namespace Go.Vi

theorem fold_set (vs : List Value) : ∀ (off n : Nat) (cells : Array Value), off + n + vs.length ≤ cells.size →
    ((vs.zipIdx n).foldl (fun cs (c, j) => cs.setIfInBounds (off + j) c) cells).toList = cells.toList.take (off + n) ++ vs ++ cells.toList.drop (off + n + vs.length) := by
  induction vs with
  | nil => intro off n cells h; simp
  | cons v vs ih =>
    intro off n cells h
    simp only [List.length_cons] at h
    simp only [List.zipIdx_cons, List.foldl_cons]
    rw [ih off (n + 1) _ (by simp; omega)]
    have h1 : off + n < cells.toList.length := by simp; omega
    simp only [Array.toList_setIfInBounds, List.length_cons]
    rw [show off + (n + 1) = off + n + 1 by omega]
    rw [List.take_set, List.drop_set_of_lt (by omega)]
    rw [List.take_succ_eq_append_getElem h1, List.set_append_right _ _ (by simp; omega)]
    simp only [List.length_take]
    rw [show off + n - min (off + n) cells.toList.length = 0 by omega]
    simp only [List.set_cons_zero, List.append_assoc, List.singleton_append, List.cons_append]
    congr 2
    rw [show off + n + 1 + vs.length = off + n + (vs.length + 1) by omega]
    rfl

theorem replace_eq (cs : List C) (off : Nat) (vs : List C) : replace cs off vs = cs.take off ++ vs ++ cs.drop (off + vs.length) := rfl

section
variable {P : Program} {E : Env} {o : Oper} {ρv : Val} {H : Heap} {ρ : Type} {K : V → List (Nat × O) → Option ρ} {r : ρ} {x : Cx} {γ : Gam} {w : World} {a : Act}

theorem All2.replace {A : Nat → Prop} {cs vs : List C} {us ws : List Value} {off : Nat} (h : All2 (CR w A) cs us) (hv : All2 (CR w A) vs ws) :
    All2 (CR w A) (replace cs off vs) (us.take off ++ ws ++ us.drop (off + ws.length)) := by
  rw [replace_eq, hv.length]
  exact ((h.take off).append hv).append (h.drop _)

def evParts (a : Act) (ps : List (Nat × Operand)) : List (Nat × Value) := ps.map fun (i, y) => (i, a.eval y)

theorem fill_parts {fs : List Sh} {pl : Nat → Option (Nat × Nat)} (hpl : ∀ j s, fs[j]? = some s → pl j = some (fieldOff fs j, s.nc)) :
    ∀ (ps : List (Nat × Operand)) (cs cs' : List C) (cells : Array Value), Ops ρv H x γ w a → All2 (CR w (Av x γ w)) cs cells.toList → partsFill fs ρv cs ps = some cs' →
      ∃ cells', Instr.fill pl cells (evParts a ps) = some cells' ∧ All2 (CR w (Av x γ w)) cs' cells'.toList
  | [], cs, cs', cells, hv, hc, h => by
    simp [partsFill] at h
    subst h
    exact ⟨cells, rfl, hc⟩
  | (j, y) :: ps, cs, cs', cells, hv, hc, h => by
    simp only [partsFill] at h
    split at h
    · rename_i vs s h1 h2
      obtain ⟨hd, h⟩ := cond_some h rfl
      simp only [Bool.and_eq_true, decide_eq_true_eq] at hd
      obtain ⟨v, g1, g2⟩ := Option.bind_eq_some_iff.1 h1
      have hcv := cellsOf_VR g2 (hv y v g1)
      have hl := hcv.length
      have hcl := hc.length
      simp only [Array.length_toList] at hl hcl
      have hfold := fold_set (a.eval y).cells.toList (fieldOff fs j) 0 cells (by simp; omega)
      simp only [evParts, List.map_cons, Instr.fill, hpl j s h2]
      rw [if_neg (by simp; omega)]
      have hz : (a.eval y).cells.zipIdx.toList = (a.eval y).cells.toList.zipIdx 0 := by simp [Array.toList_zipIdx]
      rw [← Array.foldl_toList, hz]
      refine fill_parts hpl ps _ cs' _ hv ?_ h
      rw [hfold]
      exact hc.replace hcv
    · cases h

theorem run_build' {t : TypeId} {parts : Array (Nat × Operand)} {cells : Array Value} (ho : o.op = .build t parts) (h : P.built t (evParts a parts.toList) = some cells) : (execOp a.eval o).run P w = .ok (.value (.agg cells)) w := by
  have hp : (parts.map fun (i, y) => (i, a.eval y)).toList = evParts a parts.toList := by simp [evParts]
  have := run_build (P := P) w t (parts.map fun (i, y) => (i, a.eval y)) cells (by rw [hp]; exact h)
  simp only [execOp, ho, Sem.run_bind, this, Result.andThen_ok, Sem.run_pure]

theorem places_ok {fs : List Sh} : ∀ (fields : List Field) (rest : List Sh) (n : Nat), fields.length = rest.length → (∀ j s, rest[j]? = some s → ∃ f, fields[j]? = some f ∧ f.offset = fieldOff fs (n + j) ∧ Base P f.type s ∧ 0 < s.nc) →
    ∃ places, fields.mapM (fun f => (P.info? f.type).map fun i => (f.offset, i.size)) = some places ∧ ∀ j s, rest[j]? = some s → places[j]? = some (fieldOff fs (n + j), s.nc)
  | [], [], n, _, _ => ⟨[], rfl, by simp⟩
  | f :: fields, s :: rest, n, hl, h => by
    obtain ⟨places, h1, h2⟩ := places_ok fields rest (n + 1) (by simpa using hl) (fun j s' hj => by
      obtain ⟨f', g1, g2, g3⟩ := h (j + 1) s' (by simpa using hj)
      exact ⟨f', by simpa using g1, by rw [g2]; congr 1; omega, g3⟩)
    obtain ⟨f', g1, g2, g3, g4⟩ := h 0 s (by simp)
    have : f = f' := by simpa using g1
    subst this
    obtain ⟨i, d, z, hi, hd, hsz, _⟩ := g3.ex
    refine ⟨(f.offset, i.size) :: places, by simp [List.mapM_cons, hi, h1], fun j s' hj => ?_⟩
    cases j with
    | zero =>
      simp at hj
      subst hj
      simp [g2, hsz]
    | succ j =>
      have := h2 j s' (by simpa using hj)
      simp only [List.getElem?_cons_succ, this]
      congr 3
      omega
  | [], _ :: _, _, hl, _ => by simp at hl
  | _ :: _, [], _, hl, _ => by simp at hl

theorem fieldOff_replicate (n : Nat) (e : Sh) (j : Nat) (hj : j ≤ n) : fieldOff (List.replicate n e) j = j * e.nc := by
  unfold fieldOff
  rw [List.take_replicate, Nat.min_eq_left hj, List.map_replicate]
  clear hj
  induction j with
  | zero => simp
  | succ j ih => rw [List.replicate_succ, List.sum_cons, ih, Nat.add_mul, Nat.one_mul, Nat.add_comm]

theorem P_build {t : TypeId} {parts : Array (Nat × Operand)} (hT : TabOK P E.T) (ho : o.op = .build t parts) (h : evalP E o ρv H ρ K = some r) (hi : Inv x γ H w) (hv : Ops ρv H x γ w a) : Good P o H K r x γ w a := by
  simp only [evalP, ho] at h
  split at h
  · rename_i s hs
    obtain ⟨it, d, z, hit, hd, hsz, hby, hz, hzz, hag⟩ := (hT.sh t s hs).base.ex
    split at h
    · rename_i fs hfs
      obtain ⟨hsa, h0⟩ := cond_some h rfl
      clear h
      split at h0
      · rename_i cs hcs
        split at hfs
        · rename_i fs' hfl
          cases hfs
          obtain ⟨fields, hu, hsize, hget⟩ := (hT.flds t fs hfl).ex
          obtain ⟨places, h1, h2⟩ := places_ok (fs := fs) fields.toList fs 0 (by simpa using hsize) (fun j s hj => by
            obtain ⟨f, g1, g2, g3⟩ := hget j s hj
            exact ⟨f, by simpa using g1, by simpa using g2, g3⟩)
          obtain ⟨cells', g1, g2⟩ := fill_parts (pl := fun i => places.toArray[i]?) (fs := fs) (fun j s hj => by simpa using h2 j s hj) parts.toList _ cs z.cells hv (zeroB_all2 hzz) hcs
          refine good_same h0 hi (run_build' ho (cells := cells') ?_) ⟨cells'.toList, by simp, g2⟩
          simp only [Program.built, hit, hu, hz, h1]
          exact g1
        · simp only [Option.map_eq_some_iff] at hfs
          obtain ⟨⟨n, e⟩, hfl, rfl⟩ := hfs
          obtain ⟨et, hu, hbe, hnc⟩ := hT.arrs t n e hfl
          obtain ⟨ie, d', z', hie, hd', hsz', _⟩ := hbe.ex
          obtain ⟨cells', g1, g2⟩ := fill_parts (pl := fun i => some (i * ie.size, ie.size)) (fs := List.replicate n e) (fun j s hj => by
            rw [List.getElem?_replicate] at hj
            split at hj
            · rename_i hlt
              cases hj
              rw [fieldOff_replicate n e j (by omega), hsz']
            · cases hj) parts.toList _ cs z.cells hv (zeroB_all2 hzz) hcs
          refine good_same h0 hi (run_build' ho (cells := cells') ?_) ⟨cells'.toList, by simp, g2⟩
          simp only [Program.built, hit, hu, hz, hie]
          exact g1
      · cases h0
    · cases h
  · cases h

/-- Rows of elements, one of them put in. -/
def RowsR (w : World) (A : Nat → Prop) (e : Sh) (xs : List e.den) (us : List Value) : Prop := us.length = xs.length * e.nc ∧ ∀ i y, xs[i]? = some y → VRs w A e y ((us.drop (i * e.nc)).take e.nc)

theorem RowsR.set {A : Nat → Prop} {e : Sh} {xs : List e.den} {us vs : List Value} {j : Nat} {y : e.den} (h : RowsR w A e xs us) (hj : j < xs.length) (hv : VRs w A e y vs) :
    RowsR w A e (xs.set j y) (us.take (j * e.nc) ++ vs ++ us.drop (j * e.nc + vs.length)) := by
  have hl := hv.length
  have hb : j * e.nc + e.nc ≤ us.length := by
    rw [h.1]
    have := Nat.mul_le_mul_right e.nc (show j + 1 ≤ xs.length by omega)
    rwa [Nat.add_mul, Nat.one_mul] at this
  have hlen : (us.take (j * e.nc) ++ vs ++ us.drop (j * e.nc + vs.length)).length = us.length := by simp; omega
  refine ⟨by rw [hlen, h.1]; simp, fun i q hq => ?_⟩
  rw [List.getElem?_set] at hq
  split at hq
  · rename_i hij
    subst hij
    have hq : some y = some q := by first | exact hq | (rw [if_pos hj] at hq; exact hq)
    cases hq
    have : ((us.take (j * e.nc) ++ vs ++ us.drop (j * e.nc + vs.length)).drop (j * e.nc)).take e.nc = vs := by
      rw [List.append_assoc, List.drop_append_of_le_length (by simp; omega), List.drop_of_length_le (by simp; omega), List.nil_append]
      rw [List.take_append_of_le_length (by omega), List.take_of_length_le (by omega)]
    rw [this]
    exact hv
  · rename_i hij
    have h1 := h.2 i q hq
    have : ((us.take (j * e.nc) ++ vs ++ us.drop (j * e.nc + vs.length)).drop (i * e.nc)).take e.nc = (us.drop (i * e.nc)).take e.nc := by
      apply List.ext_getElem?
      intro k
      rw [List.getElem?_take, List.getElem?_take]
      split
      · rename_i hk
        rw [List.getElem?_drop, List.getElem?_drop, List.append_assoc]
        rcases Nat.lt_or_ge i j with hlt | hge
        · have h2 : i * e.nc + e.nc ≤ j * e.nc := by
            have := Nat.mul_le_mul_right e.nc (show i + 1 ≤ j by omega)
            rwa [Nat.add_mul, Nat.one_mul] at this
          rw [List.getElem?_append_left (by simp; omega), List.getElem?_take, if_pos (by omega)]
        · have h2 : j * e.nc + e.nc ≤ i * e.nc := by
            have := Nat.mul_le_mul_right e.nc (show j + 1 ≤ i by omega)
            rwa [Nat.add_mul, Nat.one_mul] at this
          rw [List.getElem?_append_right (by simp; omega), List.getElem?_append_right (by simp; omega), List.getElem?_drop]
          congr 1
          simp only [List.length_take]
          omega
      · rfl
    rw [this]
    exact h1

theorem RowsR.zeros {A : Nat → Prop} {e : Sh} {z : Array Value} {n : Nat} (hnc : 0 < e.nc) (hz : zeroB (cells e (zero e)) z.toList = true) :
    RowsR w A e (List.replicate n (zero e)) ((Array.range (n * z.size)).map fun j => z[j % z.size]!).toList := by
  have hzl : z.size = e.nc := by
    have := (zeroB_all2 (w := w) (A := fun _ => True) hz).length
    rw [cells_length] at this
    simpa using this.symm
  refine ⟨by simp [hzl], fun i q hq => ?_⟩
  have hin : i < n := by
    have := (List.getElem?_eq_some_iff.1 hq).1
    simpa using this
  have hq' : q = zero e := by
    obtain ⟨_, h3⟩ := List.getElem?_eq_some_iff.1 hq
    simpa using h3.symm
  subst hq'
  have := zeros_get z n (by omega) (i := i) hin
  rw [hzl] at this ⊢
  rw [this]
  exact VRs.of_ofC e _ _ _ (VRs_zero (A := fun _ => True) e) (zeroB_all2 hz)

/-- The elements of a literal are laid. -/
theorem fill_list {A : Nat → Prop} {e : Sh} : ∀ (ps : List (Nat × Operand)) (xs xs' : List e.den) (cells : Array Value), (∀ p ∈ ps, ∀ y, partEl e ρv H p.2 = some y → VRs w A e y (a.eval p.2).cells.toList) →
    RowsR w A e xs cells.toList → listFill e ρv H xs ps = some xs' →
      ∃ cells', Instr.fill (fun i => some (i * e.nc, e.nc)) cells (evParts a ps) = some cells' ∧ RowsR w A e xs' cells'.toList ∧ xs'.length = xs.length
  | [], xs, xs', cells, hv, hc, h => by
    simp [listFill] at h
    subst h
    exact ⟨cells, rfl, hc, rfl⟩
  | (j, y) :: ps, xs, xs', cells, hv, hc, h => by
    simp only [listFill] at h
    split at h
    · rename_i q h1
      obtain ⟨hd, h⟩ := cond_some h rfl
      have hd := of_decide_eq_true hd
      have hvr := hv (j, y) (by simp) q h1
      have hl := hvr.length
      simp only [Array.length_toList] at hl
      have hb : j * e.nc + e.nc ≤ cells.size := by
        have h2 := hc.1
        simp only [Array.length_toList] at h2
        rw [h2]
        have := Nat.mul_le_mul_right e.nc (show j + 1 ≤ xs.length by omega)
        rwa [Nat.add_mul, Nat.one_mul] at this
      have hfold := fold_set (a.eval y).cells.toList (j * e.nc) 0 cells (by simp; omega)
      simp only [evParts, List.map_cons, Instr.fill]
      rw [if_neg (by simp; omega)]
      have hz : (a.eval y).cells.zipIdx.toList = (a.eval y).cells.toList.zipIdx 0 := by simp [Array.toList_zipIdx]
      rw [← Array.foldl_toList, hz]
      obtain ⟨cells', g1, g2, g3⟩ := fill_list ps (xs.set j q) xs' _ (fun p hp => hv p (by simp [hp])) (by rw [hfold]; exact hc.set hd hvr) h
      exact ⟨cells', g1, g2, by simpa using g3⟩
    · cases h

/-- A slice's literal: what is laid down. -/
theorem run_buildSlice {A : Nat → Prop} {t : TypeId} {len : Nat} {parts : Array (Nat × Operand)} {e : Sh} {xs : List e.den} (hT : TabOK P E.T) (ho : o.op = .buildSlice t len parts) (hs : shOf E.T t = some (.sl e)) (hlen : len * e.nc ≤ 16777216)
    (hv : ∀ p ∈ parts.toList, ∀ y, partEl e ρv H p.2 = some y → VRs w A e y (a.eval p.2).cells.toList) (h : listFill e ρv H (List.replicate len (zero e)) parts.toList = some xs) :
    ∃ cells et, (execOp a.eval o).run P w = .ok (.value (.slice (some ⟨w.heap.size, 0, none⟩) len len)) (w.alloc (.cells cells et)) ∧ RowsR w A e xs cells.toList ∧ xs.length = len := by
  obtain ⟨et, hu, hbe, hnc⟩ := (hT.sh t _ hs).sl e rfl
  obtain ⟨ii, d, zz, hii, hd, hsz, hby, hz, hzz, hag⟩ := hbe.ex
  have hzl : zz.cells.size = e.nc := by
    have := (zeroB_all2 (w := w) (A := fun _ => True) hzz).length
    rw [cells_length] at this
    simpa using this.symm
  have hz' : (zeroValue et).run P w = .ok zz w := by simp [zeroValue, typeInfo, hii, hz]
  have hrows : RowsR w A e (List.replicate len (zero e)) ((Array.range (len * e.nc)).map fun j => (if len * e.nc = 0 then #[] else zz.cells)[j % (if len * e.nc = 0 then #[] else zz.cells).size]!).toList := by
    by_cases h0 : len * e.nc = 0
    · have hl0 : len = 0 := by
        rcases Nat.mul_eq_zero.1 h0 with h1 | h1
        · exact h1
        · omega
      subst hl0
      exact ⟨by simp, by simp⟩
    · have := RowsR.zeros (w := w) (A := A) (n := len) hnc hzz
      rw [hzl] at this
      simp only [if_neg h0, hzl]
      exact this
  obtain ⟨cells', g1, g2, g3⟩ := fill_list parts.toList _ xs _ hv hrows h
  refine ⟨cells', et, ?_, g2, by simpa using g3⟩
  have hp : (parts.map fun (i, y) => (i, a.eval y)).toList = evParts a parts.toList := by simp [evParts]
  simp only [execOp, ho, Instr.buildSlice, Sem.run_bind, run_underlying hu, Result.andThen_ok, run_sizeOf' hii, hsz]
  rw [if_neg (by omega)]
  by_cases h0 : len * e.nc = 0
  · simp only [h0, if_true, Sem.run_bind, Sem.run_pure, Result.andThen_ok, hp] at g1 ⊢
    simp only [g1, Sem.run_bind, newRow, run_newObj, Result.andThen_ok, Sem.run_pure]
    rfl
  · simp only [h0, if_false, Sem.run_bind, Sem.run_pure, Result.andThen_ok, hz', hp] at g1 ⊢
    simp only [g1, Sem.run_bind, newRow, run_newObj, Result.andThen_ok, Sem.run_pure]
    rfl

theorem P_buildSlice {t : TypeId} {len : Nat} {parts : Array (Nat × Operand)} (hT : TabOK P E.T) (ho : o.op = .buildSlice t len parts) (h : evalP E o ρv H ρ K = some r) (hi : Inv x γ H w) (hv : Ops ρv H x γ w a) : Good P o H K r x γ w a := by
  simp only [evalP, ho] at h
  split at h
  · rename_i e hs
    cases hlit : memN t E.T.lits with
    | true =>
      rw [hlit] at h
      simp only [cond_true] at h
      obtain ⟨hd, h⟩ := cond_some h rfl
      simp only [Bool.and_eq_true, decide_eq_true_eq] at hd
      split at h
      · rename_i xs hxs
        have hkeys : ∀ p ∈ parts.toList, opKey ρv p.2 = [] := by
          have : ∀ (ps : List (Nat × Operand)), (partKeys ρv ps).isEmpty = true → ∀ p ∈ ps, opKey ρv p.2 = [] := by
            intro ps
            induction ps with
            | nil => intro _ p hp; simp at hp
            | cons q ps ih =>
              intro hq p hp
              have hq' : opKey ρv q.2 ++ partKeys ρv ps = [] := List.isEmpty_iff.1 hq
              obtain ⟨h1, h2⟩ := List.append_eq_nil_iff.1 hq'
              rcases List.mem_cons.1 hp with rfl | hp
              · exact h1
              · exact ih (by rw [h2]; rfl) p hp
          exact this _ hd.1
        obtain ⟨cells, et, hrun, hr, hl⟩ := run_buildSlice (A := Av x γ w) hT ho hs hd.2 (fun p hp y hy => by
          unfold partEl at hy
          split at hy
          · rename_i v h1
            split at hy
            · rename_i vs h2
              exact VRs.of_ofC e vs y _ hy (cellsOf_VR h2 (hv _ _ h1))
            · rename_i h2
              exfalso
              have hk := hkeys p hp
              unfold opKey at hk
              rw [h1] at hk
              split at hy
              · cases v with
                | own k win t => simp [V.ownKey] at hk
                | c z => cases h2
                | agg z => cases h2
                | _ => simp [elemsAs, elems] at hy
              · cases hy
          · cases hy) hxs
        refine ⟨_, _, h, .inl ⟨_, _, hrun, fun _ => ⟨γ, hi.grows (Grows.alloc w _), ?_, fun y uu _ hy => VR.mono (Av.grows (Grows.alloc w _)) y uu hy⟩⟩⟩
        refine ⟨some ⟨w.heap.size, 0, none⟩, len, by rw [hl], by omega, fun _ => hl.symm, .inr ⟨w.heap.size, 0, cells, et, (0, 0), rfl, ?_, heap_new w _, ?_, fun i q hq => ?_⟩⟩
        · refine ⟨by simp, fun hb => ?_, fun k c hk => ?_⟩
          · have := hi.size
            omega
          · have := (hi.rng k _ c hk).2
            omega
        · have := hr.1
          simp only [Array.length_toList] at this
          rw [this, Nat.zero_add]
          exact Nat.le_refl _
        · rw [Nat.zero_add]
          exact VRs.mono (Av.grows (Grows.alloc w _)) e q _ (hr.2 i q hq)
      · cases h
    | false =>
    rw [hlit] at h
    simp only [cond_false] at h
    obtain ⟨hd, h⟩ := cond_some h rfl
    simp only [Bool.and_eq_true, Bool.not_eq_true', decide_eq_true_eq] at hd
    split at h
    · rename_i xs hxs
      obtain ⟨cells, et, hrun, hr, hl⟩ := run_buildSlice (A := Av x γ w) hT ho hs hd.2 (fun p hp y hy => by
        unfold partEl at hy
        split at hy
        · rename_i v h1
          split at hy
          · rename_i vs h2
            exact VRs.of_ofC e vs y _ hy (cellsOf_VR h2 (hv _ _ h1))
          · split at hy
            · simp [Sh.hasSl] at hd
            · cases hy
        · cases hy) hxs
      refine ⟨_, _, h, .inl ⟨_, _, hrun, Res.new (i := .at w.heap.size len) hi (Grows.alloc w _) (by simp) ?_ ?_⟩⟩
      · refine ⟨by simp, by omega, cells, et, heap_new w _, ?_, fun i q hq => ?_⟩
        · have := hr.1
          simp only [Array.length_toList] at this
          rw [this, hl]
          exact Nat.le_refl _
        · exact VRs.mono (Av.set (by simp) (Grows.alloc w _)) e q _ (hr.2 i q hq)
      · exact ⟨.at w.heap.size len, e, xs, false, by simp [gset], by simp [upd], by rw [hl], by omega, by simp⟩
    · cases h
  · cases h

end
end Go.Vi
