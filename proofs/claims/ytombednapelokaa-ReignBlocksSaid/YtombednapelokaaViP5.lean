/-
  Vi: operations that change nothing that is there. Part 5: len, cap, make, look-ups, literals.
-/
import Derived.Test.YtombednapelokaaViP4
set_option linter.unusedVariables false
set_option linter.unusedSimpArgs false
namespace Go.Vi

section
variable {P : Program} {E : Env} {o : Oper} {ρv : Val} {H : Heap} {ρ : Type} {K : V → List (Nat × O) → Option ρ} {r : ρ} {x : Cx} {γ : Gam} {w : World} {a : Act}

/-- The elements of a slice and the slice itself. -/
theorem elems_slice {v : V} {u : Value} {e : Sh} {xs : List e.den} (hi : Inv x γ H w) (hv : VR γ w (Av x γ w) H v u) (h : elems H v = some ⟨e, xs⟩) :
    ∃ ad cap, u = .slice ad xs.length cap ∧ xs.length ≤ cap := by
  unfold elems at h
  split at h
  · rename_i k win tt
    split at h
    · rename_i xe xs0 n hH
      obtain ⟨i, e0, xs1, nilE, hg, hH', hsl⟩ := hv
      rw [hH] at hH'
      cases hH'
      cases h
      cases i with
      | emp =>
        obtain ⟨ad, e1, _, h0, h1⟩ := hsl
        have : (view win xs0).length = 0 := by cases win <;> simp [view, h0]
        exact ⟨ad, 0, by rw [this]; exact e1, by rw [this]; exact Nat.le_refl _⟩
      | «at» b c =>
        cases win with
        | none => exact ⟨_, _, hsl.1, hsl.2.1⟩
        | some p =>
          obtain ⟨p, l⟩ := p
          obtain ⟨oo, cap, g1, g2, g3, _⟩ := hsl
          have hl : (view (some (p, l)) xs0).length = l := by simp [view]; omega
          exact ⟨_, cap, by rw [hl]; exact g1, by rw [hl]; exact g3⟩
    · cases h
  · cases h
    obtain ⟨ad, cap, h1, h2, _⟩ := hv
    exact ⟨ad, cap, h1, h2⟩
  · cases h

theorem P_len {c : Call} (hT : TabOK P E.T) (ho : o.op = .call c) (hc : c.callee = .builtin .len) (h : evalP E o ρv H ρ K = some r) (hi : Inv x γ H w) (hv : Ops ρv H x γ w a) : Good P o H K r x γ w a := by
  simp only [evalP, ho, hc] at h
  split at h
  · rename_i y t ts hargs htys
    have ht : c.argTypes[0]? = some t := by
      have : c.argTypes.toList[0]? = some t := by rw [htys]; rfl
      simpa using this
    have hx : (c.args.map a.eval)[0]? = some (a.eval y) := by
      have : c.args.toList[0]? = some y := by rw [hargs]; rfl
      have : c.args[0]? = some y := by simpa using this
      simp [this]
    split at h
    · rename_i s h1
      split at h
      · rename_i hs
        have e1 : a.eval y = .string s := hv _ _ h1
        refine good_same h hi (exec_builtin ho hc ?_) (rfl : VR γ w (Av x γ w) H (.c (.int .i64 (s.size : Int))) (.int .i64 (s.size : Int)))
        simp [builtin, Builtin.len_, ht, hx, e1, run_underlying ((hT.sh t _ hs).str rfl), goInt]
      · cases h
    · rename_i k h1
      obtain ⟨b, cc, hg, e1⟩ := hv _ _ h1
      split at h
      · rename_i kk e m p hH hm
        obtain ⟨kk', e'⟩ := p
        obtain ⟨kt, et, hu, _⟩ := hT.maps t kk' e' hm
        obtain ⟨ob, hob, hR⟩ := hi.own k _ hg
        rw [hH] at hob
        cases hob
        obtain ⟨es, clock, hb, hes⟩ := hR
        have hl := hes.length
        refine good_same h hi (exec_builtin ho hc ?_) (rfl : VR γ w (Av x γ w) H (.c (.int .i64 (m.length : Int))) (.int .i64 (m.length : Int)))
        have hget : (getObj b).run P w = .ok (.map es clock) w := by simp [getObj, Sem.run, hb]
        simp [builtin, Builtin.len_, ht, hx, e1, run_underlying hu, goInt, hget, hl]
      · cases h
    · rename_i v _ _ h1
      split at h
      · rename_i e xs e' hel hs
        obtain ⟨et, hu, _⟩ := (hT.sh t _ hs).sl _ rfl
        obtain ⟨ad, cap, e1, _⟩ := elems_slice hi (hv _ _ h1) hel
        refine good_same h hi (exec_builtin ho hc ?_) (rfl : VR γ w (Av x γ w) H (.c (.int .i64 (xs.length : Int))) (.int .i64 (xs.length : Int)))
        simp [builtin, Builtin.len_, ht, hx, e1, run_underlying hu, goInt]
      · cases h
    · cases h
  · cases h

theorem P_cap {c : Call} (hT : TabOK P E.T) (ho : o.op = .call c) (hc : c.callee = .builtin .cap) (h : evalP E o ρv H ρ K = some r) (hi : Inv x γ H w) (hv : Ops ρv H x γ w a) : Good P o H K r x γ w a := by
  simp only [evalP, ho, hc] at h
  split at h
  · rename_i y t ts hargs htys
    have ht : c.argTypes[0]? = some t := by
      have : c.argTypes.toList[0]? = some t := by rw [htys]; rfl
      simpa using this
    have hx : (c.args.map a.eval)[0]? = some (a.eval y) := by
      have : c.args.toList[0]? = some y := by rw [hargs]; rfl
      have : c.args[0]? = some y := by simpa using this
      simp [this]
    split at h
    · rename_i e xs e' h1 hs
      obtain ⟨et, hu, _⟩ := (hT.sh t _ hs).sl _ rfl
      obtain ⟨ad, cap, e1, _, e3, _⟩ := hv _ _ h1
      refine good_same h hi (exec_builtin ho hc ?_) (rfl : VR γ w (Av x γ w) H (.c (.int .i64 (xs.length : Int))) (.int .i64 (xs.length : Int)))
      simp [builtin, Builtin.cap_, ht, hx, e1, run_underlying hu, goInt, e3 rfl]
    · cases h
  · cases h

/-- Rows of zero elements. -/
theorem zeros_get (z : Array Value) (n : Nat) (hz : 0 < z.size) {i : Nat} (hi : i < n) :
    ((((Array.range (n * z.size)).map fun j => z[j % z.size]!).toList.drop (i * z.size)).take z.size) = z.toList := by
  have hlen : i * z.size + z.size ≤ n * z.size := by
    have := Nat.mul_le_mul_right z.size (show i + 1 ≤ n by omega)
    rwa [Nat.add_mul, Nat.one_mul] at this
  apply List.ext_getElem?
  intro j
  by_cases hj : j < z.size
  · rw [List.getElem?_take, if_pos hj, List.getElem?_drop]
    have h1 : i * z.size + j < n * z.size := by omega
    have h2 : (i * z.size + j) % z.size = j := by
      rw [Nat.add_comm, Nat.add_mul_mod_self_right, Nat.mod_eq_of_lt hj]
    simp [h1, h2, hj]
  · rw [List.getElem?_take, if_neg hj]
    simp; omega

theorem VRs_zero {A : Nat → Prop} : ∀ (s : Sh), ofC s (cells s (zero s)) = some (zero s)
  | .int _ => by simp [cells, ofC, zero]
  | .bool => rfl
  | .str => rfl
  | .unit => rfl
  | .sl _ => by simp [cells, ofC, zero]
  | .pair a b => by
    have l1 := cells_length a (zero a)
    simp only [cells, ofC, zero]
    rw [List.take_append_of_le_length (by omega), List.take_of_length_le (by omega), VRs_zero (A := A) a]
    rw [List.drop_append_of_le_length (by omega), List.drop_of_length_le (by omega), List.nil_append, VRs_zero (A := A) b]

theorem run_wrap_small {n : Int} (h0 : 0 ≤ n) (h1 : n ≤ 1073741824) : IntKind.i64.wrap n = n := IntWalk.i64_in n ⟨by omega, by omega⟩

theorem P_makeSlice {t : TypeId} {y z : Operand} (hT : TabOK P E.T) (ho : o.op = .makeSlice t y z) (h : evalP E o ρv H ρ K = some r) (hi : Inv x γ H w) (hv : Ops ρv H x γ w a) : Good P o H K r x γ w a := by
  simp only [evalP, ho] at h
  split at h
  · rename_i e n m hs h1 h2
    have e1 := VR_int (hv _ _ h1)
    have e2 := VR_int (hv _ _ h2)
    obtain ⟨hd, h⟩ := cond_some h rfl
    simp only [Bool.and_eq_true, decide_eq_true_eq] at hd
    obtain ⟨⟨d1, d2⟩, d3⟩ := hd
    obtain ⟨et, hu, hbe, hnc⟩ := (hT.sh t _ hs).sl e rfl
    obtain ⟨ii, d, zz, hii, hd', hsz, hby, hz, hzz, hag⟩ := hbe.ex
    have hlim : (m : Int) ≤ 1073741824 := d3
    have w1 := run_wrap_small d1 (by omega)
    have w2 := run_wrap_small (n := m) (by omega) hlim
    have hzl : zz.cells.size = e.nc := by
      have := (zeroB_all2 (w := w) (A := fun _ => True) hzz).length
      rw [cells_length] at this
      simpa using this.symm
    have hbm : ¬ ((ii.bytes : Int) * m > 2 ^ 48) := by
      have : (ii.bytes : Int) * m ≤ 4096 * 1073741824 := Int.mul_le_mul (by omega) hlim (by omega) (by omega)
      omega
    have hbn : ¬ ((ii.bytes : Int) * n > 2 ^ 48) := by
      have : (ii.bytes : Int) * n ≤ 4096 * 1073741824 := Int.mul_le_mul (by omega) (by omega) (by omega) (by omega)
      omega
    let row : Array Value := (Array.range (m.toNat * e.nc)).map fun j => (if m.toNat * e.nc = 0 then #[] else zz.cells)[j % (if m.toNat * e.nc = 0 then #[] else zz.cells).size]!
    have hrun : (execOp a.eval o).run P w = .ok (.value (.slice (some ⟨w.heap.size, 0, none⟩) n.toNat m.toNat)) (w.alloc (.cells row et)) := by
      have hz' : (zeroValue et).run P w = .ok zz w := by simp [zeroValue, typeInfo, hii, hz]
      simp only [execOp, ho, Instr.makeSlice, e1, e2, Sem.run_bind, run_underlying hu, Result.andThen_ok, asInt, asIntOf, Sem.run_pure, info_run hii, w1, w2]
      rw [if_neg (by simp; omega)]
      simp only [Sem.run_bind, run_askRoom, Result.andThen_ok, run_sizeOf' hii, hsz, Sem.run_pure]
      by_cases hzero : m.toNat * e.nc = 0
      · simp only [hzero, if_true, Sem.run_pure, Result.andThen_ok, Sem.run_bind, newRow, run_newObj, row]
        rfl
      · simp only [hzero, if_false, Sem.run_pure, Result.andThen_ok, Sem.run_bind, newRow, run_newObj, row, hz']
        rfl
    refine ⟨_, _, h, .inl ⟨_, _, hrun, Res.new (i := .at w.heap.size m.toNat) hi (Grows.alloc w _) (by simp) ?_ ?_⟩⟩
    · refine ⟨by simp, by simp; omega, row, et, heap_new w _, by simp [row], fun i q hq => ?_⟩
      have hin : i < n.toNat := by
        have := (List.getElem?_eq_some_iff.1 hq).1
        simpa using this
      have hq' : q = zero e := by
        have := List.getElem?_eq_some_iff.1 hq
        obtain ⟨_, h3⟩ := this
        simpa using h3.symm
      subst hq'
      have hmz : m.toNat * e.nc ≠ 0 := Nat.mul_ne_zero (by omega) (by omega)
      have hrow : ((row.toList.drop (i * e.nc)).take e.nc) = zz.cells.toList := by
        have := zeros_get zz.cells m.toNat (by omega) (i := i) (by omega)
        rw [hzl] at this
        simp only [row, if_neg hmz, hzl]
        exact this
      rw [hrow]
      exact VRs.of_ofC e _ _ _ (VRs_zero (A := fun _ => True) e) (zeroB_all2 hzz)
    · refine ⟨.at w.heap.size m.toNat, e, List.replicate n.toNat (zero e), false, by simp [gset], by simp [upd], ?_⟩
      exact ⟨by simp, by simp; omega, by simp⟩
  · cases h

end
end Go.Vi
