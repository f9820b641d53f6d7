/-
  Vi: operations that change nothing that is there. Part 2: structs, fields, elements, reads.
-/
import Derived.Test.YtombednapelokaaViP
set_option linter.unusedVariables false
set_option linter.unusedSimpArgs false
namespace Go.Vi

section
variable {P : Program} {E : Env} {o : Oper} {ρv : Val} {H : Heap} {ρ : Type} {K : V → List (Nat × O) → Option ρ} {r : ρ} {x : Cx} {γ : Gam} {w : World} {a : Act}

theorem cond_some {α : Type} {b : Bool} {y z : Option α} {r : α} (h : (bif b then y else z) = some r) (hz : z = none) : b = true ∧ y = some r := by
  cases b
  · simp [hz] at h
  · exact ⟨rfl, h⟩

theorem P_unOp {op : UnOp} {t : TypeId} {y : Operand} (ho : o.op = .unOp op t y) (h : evalP E o ρv H ρ K = some r) (hi : Inv x γ H w) (hv : Ops ρv H x γ w a) : Good P o H K r x γ w a := by
  simp only [evalP, ho] at h
  split at h
  · rename_i k n h1
    have e1 := VR_int (hv _ _ h1)
    exact good_same h hi (by simp [execOp, ho, e1, Op.unary, Op.intArith]) rfl
  · rename_i b h1
    have e1 := VR_bool (hv _ _ h1)
    exact good_same h hi (by simp [execOp, ho, e1, Op.unary]) rfl
  · cases h

theorem P_convert {s t : TypeId} {y : Operand} (hT : TabOK P E.T) (ho : o.op = .convert s t y) (h : evalP E o ρv H ρ K = some r) (hi : Inv x γ H w) (hv : Ops ρv H x γ w a) : Good P o H K r x γ w a := by
  simp only [evalP, ho] at h
  split at h
  · rename_i k' n k ss h1 h2 h3
    obtain ⟨_, d, _, _, hs, _⟩ := (hT.sh s _ h3).base.ex
    have e1 := VR_int (hv _ _ h1)
    have hu := (hT.sh t _ h2).int _ rfl
    refine good_same h hi (u := .int k (k.wrap n)) ?_ rfl
    simp only [execOp, ho, e1, convert, Sem.run_bind, run_underlying hs, run_underlying hu, Result.andThen_ok]
    cases d <;> simp [Conv.intToInt]
  · cases h

theorem All2.get' {α β : Type} {R : α → β → Prop} {as : List α} {bs : List β} (h : All2 R as bs) {i : Nat} {a : α} (hi : as[i]? = some a) : ∃ b, bs[i]? = some b ∧ R a b := h.get hi

theorem P_extract {y : Operand} {j : Nat} (ho : o.op = .extract y j) (h : evalP E o ρv H ρ K = some r) (hi : Inv x γ H w) (hv : Ops ρv H x γ w a) : Good P o H K r x γ w a := by
  simp only [evalP, ho] at h
  split at h
  · rename_i vs h1
    obtain ⟨us, e1, h2⟩ := hv _ _ h1
    split at h
    · rename_i v h3
      obtain ⟨_, h⟩ := cond_some h rfl
      obtain ⟨u, h4, h5⟩ := h2.get h3
      refine good_same h hi (u := u) ?_ ?_
      · simp [execOp, ho, e1, Instr.extract, h4]
      · cases v <;> first | exact h5 | exact h5.elim
    · cases h
  · cases h

theorem run_fieldPlace {t : TypeId} {s : Sh} {f : Field} (hb : Base P f.type s) (hnc : 0 < s.nc) (b o : Nat) : (fieldPlace ⟨b, o, none⟩ f).run P w = .ok ⟨b, o + f.offset, none⟩ w := by
  obtain ⟨i, d, z, hi, hd, hsz, hby, hz, hzz, ha⟩ := hb.ex
  unfold fieldPlace
  simp only [Sem.run_bind, run_sizeOf' hi, Result.andThen_ok, hsz]
  rw [if_neg (by omega)]
  simp only [Sem.run_pure, add_eq]

theorem P_fieldAddr {s : TypeId} {y : Operand} {f : Nat} (hT : TabOK P E.T) (ho : o.op = .fieldAddr s y f) (h : evalP E o ρv H ρ K = some r) (hi : Inv x γ H w) (hv : Ops ρv H x γ w a) : Good P o H K r x γ w a := by
  simp only [evalP, ho] at h
  have key : ∀ d b off, fldOff E.T s f = some d → a.eval y = .pointer (some ⟨b, off, none⟩) → (execOp a.eval o).run P w = .ok (.value (.pointer (some ⟨b, off + d, none⟩))) w := by
    intro d b off hd he
    unfold fldOff at hd
    split at hd
    · rename_i fs hfs
      split at hd
      · rename_i e hfe
        cases hd
        obtain ⟨fields, hu, hsz, hget⟩ := (hT.flds s fs hfs).ex
        obtain ⟨fd, h1, h2, h3, h4⟩ := hget f e hfe
        simp only [execOp, ho, Instr.fieldAt, Sem.run_bind, run_underlying hu, Result.andThen_ok, h1, he, Instr.sureAddr, Sem.run_pure, run_fieldPlace (t := 0) h3 h4, h2]
      · cases hd
    · cases hd
  split at h
  · rename_i d k off h1 h2
    obtain ⟨b, c, hg, he⟩ := hv _ _ h2
    exact good_same h hi (key d b off h1 he) ⟨b, c, hg, rfl⟩
  · rename_i d k win i off h1 h2
    obtain ⟨b, c, e, xs, nilE, hg, hH, h3, h4, he⟩ := hv _ _ h2
    refine good_same h hi (key d b _ h1 he) ⟨b, c, e, xs, nilE, hg, hH, h3, h4, ?_⟩
    rw [Nat.add_assoc]
  · rename_i d cs h1 h2
    obtain ⟨b, oo, cur, et, fz, he, hA, hb, hl, hc⟩ := hv _ _ h2
    obtain ⟨hd, h⟩ := cond_some h rfl
    have hd := of_decide_eq_true hd
    refine good_same h hi (key d b oo h1 he) ⟨b, oo + d, cur, et, fz, rfl, hA, hb, by simp; omega, ?_⟩
    have := hc.drop d
    rw [List.drop_take, List.drop_drop] at this
    simpa using this
  · cases h

theorem P_field {s : TypeId} {y : Operand} {f : Nat} (hT : TabOK P E.T) (ho : o.op = .field s y f) (h : evalP E o ρv H ρ K = some r) (hi : Inv x γ H w) (hv : Ops ρv H x γ w a) : Good P o H K r x γ w a := by
  simp only [evalP, ho] at h
  split at h
  · rename_i fs cs h1 h2
    obtain ⟨vs, he, hc⟩ := hv _ _ h2
    split at h
    · rename_i e h3
      obtain ⟨hd, h⟩ := cond_some h rfl
      have hd := of_decide_eq_true hd
      split at h
      · rename_i v hm
        obtain ⟨fields, hu, hsz, hget⟩ := (hT.flds s fs h1).ex
        obtain ⟨fd, g1, g2, g3, g4⟩ := hget f e h3
        have hl := hc.length
        have hcs := (hc.drop (fieldOff fs f)).take e.nc
        refine good_same h hi (u := mkVal e ((vs.drop (fieldOff fs f)).take e.nc)) ?_ (mkV_VR hm hcs)
        simp only [execOp, ho, Instr.field, Sem.run_bind, run_underlying hu, Result.andThen_ok, g1, he, asAgg, Sem.run_pure, g2, run_part g3 (show fieldOff fs f + e.nc ≤ vs.length by omega)]
      · cases h
    · cases h
  · cases h

theorem idx_some {α : Type} {xs : List α} {i : Int} {y : α} (h : idx xs i = some y) : 0 ≤ i ∧ i.toNat < xs.length ∧ xs[i.toNat]? = some y := by
  unfold idx at h
  split at h
  · rename_i h0
    exact ⟨h0, (List.getElem?_eq_some_iff.1 h).1, h⟩
  · cases h

theorem view_get {α : Type} {win : Option (Nat × Nat)} {xs : List α} {j : Nat} {y : α} (h : (view win xs)[j]? = some y) : xs[wo win + j]? = some y ∧ j < (view win xs).length := by
  refine ⟨?_, (List.getElem?_eq_some_iff.1 h).1⟩
  cases win with
  | none => simpa [view, wo] using h
  | some p =>
    obtain ⟨o, l⟩ := p
    simp only [view, List.getElem?_take, List.getElem?_drop] at h
    split at h
    · simpa [wo] using h
    · cases h

theorem P_load {t : TypeId} {y : Operand} (hT : TabOK P E.T) (ho : o.op = .load t y) (h : evalP E o ρv H ρ K = some r) (hi : Inv x γ H w) (hv : Ops ρv H x γ w a) : Good P o H K r x γ w a := by
  simp only [evalP, ho] at h
  have key : ∀ (s : Sh) (cs : List C) (v : V) (b oo : Nat) (cur : Array Value) (et : TypeId) (fz : Nat × Nat), shOf E.T t = some s → mkV s cs = some v → a.eval y = .pointer (some ⟨b, oo, none⟩) →
      w.heap[b]? = some (.cells cur et fz) → oo + s.nc ≤ cur.size → All2 (CR w (Av x γ w)) cs ((cur.toList.drop oo).take s.nc) → K v [] = some r → Good P o H K r x γ w a := by
    intro s cs v b oo cur et fz hs hm he hb hl hc hK
    refine good_same hK hi (u := mkVal s ((cur.toList.drop oo).take s.nc)) ?_ (mkV_VR hm hc)
    have hrun := run_load_shape (P := P) (w := w) (hT.sh t s hs).base hb hl nc_one
    simp only [execOp, ho, he, Sem.run_bind, hrun, Result.andThen_ok, Sem.run_pure]
    congr 2
    unfold mkVal
    split
    · rfl
    · rename_i hag
      have h1 := nc_one (by simpa using hag)
      simp [h1, List.getD, List.getElem?_take, List.getElem?_drop]
  split at h
  · -- a variable of the call's own
    rename_i s k off h1 h2
    obtain ⟨b, c, hg, he⟩ := hv _ _ h2
    split at h
    · rename_i cs hH
      obtain ⟨hd, h⟩ := cond_some h rfl
      have hd := of_decide_eq_true hd
      split at h
      · rename_i v hm
        obtain ⟨ob, hob, hR⟩ := hi.own k _ hg
        rw [hH] at hob
        cases hob
        obtain ⟨cur, et, hb, hc⟩ := hR
        have hl := hc.length
        exact key s _ v b off cur et (0, 0) h1 hm he hb (by simp at hl; omega) ((hc.drop off).take s.nc) h
      · cases h
    · cases h
  · -- data
    rename_i s cs h1 h2
    obtain ⟨b, oo, cur, et, fz, he, hA, hb, hl, hc⟩ := hv _ _ h2
    obtain ⟨hd, h⟩ := cond_some h rfl
    have hd := of_decide_eq_true hd
    split at h
    · rename_i v hm
      have := hc.take s.nc
      rw [List.take_take, Nat.min_eq_left hd] at this
      exact key s _ v b oo cur et fz h1 hm he hb (by omega) this h
    · cases h
  · -- an element of an own array
    rename_i s k win i off h1 h2
    obtain ⟨b, c, e, xs, nilE, hg, hH, h3, h4, he⟩ := hv _ _ h2
    split at h
    · rename_i e' xs' n' hH'
      rw [hH] at hH'
      cases hH'
      obtain ⟨hd, h⟩ := cond_some h rfl
      have hd := of_decide_eq_true hd
      obtain ⟨z, hz, h⟩ := Option.bind_eq_some_iff.1 h
      split at h
      · rename_i v hm
        obtain ⟨i0, i1, i2⟩ := idx_some hz
        obtain ⟨g1, g2⟩ := view_get i2
        obtain ⟨ob, hob, hR⟩ := hi.own k _ hg
        rw [hH] at hob
        cases hob
        obtain ⟨_, hxc, cur, et, hb, hsz, hel⟩ := hR
        have hlt : wo win + i.toNat < xs.length := (List.getElem?_eq_some_iff.1 g1).1
        have hmul : (wo win + i.toNat) * e.nc + e.nc ≤ c * e.nc := by
          have := Nat.mul_le_mul_right e.nc (show wo win + i.toNat + 1 ≤ c by omega)
          rwa [Nat.add_mul, Nat.one_mul] at this
        have hc := CR.of_VRs e z _ (hel _ _ g1)
        have hc := (hc.drop off).take s.nc
        rw [List.drop_take, List.take_take, List.drop_drop, Nat.min_eq_left (by omega)] at hc
        exact key s _ v b _ cur et (0, 0) h1 hm he hb (by omega) hc h
      · cases h
    · cases h
  · -- an element of an array in a variable
    rename_i s k off n e i h1 h2
    obtain ⟨b, c, hg, h3, h4, he⟩ := hv _ _ h2
    split at h
    · rename_i kk cs hH
      obtain ⟨hd, h'⟩ := cond_some h rfl
      clear h
      simp only [Bool.and_eq_true, decide_eq_true_eq] at hd
      obtain ⟨rfl, hd⟩ := hd
      split at h'
      · rename_i ns hns
        obtain ⟨z, hz, h⟩ := Option.bind_eq_some_iff.1 h'
        obtain ⟨i0, i1, i2⟩ := idx_some hz
        obtain ⟨ob, hob, hR⟩ := hi.own k _ hg
        rw [hH] at hob
        cases hob
        obtain ⟨cur, et, hb, hc⟩ := hR
        have hl := hc.length
        have ints_get : ∀ (cs : List C) (ns : List Int), ints kk cs = some ns → ∀ (j : Nat) (z : Int), ns[j]? = some z → cs[j]? = some (.int kk z) := by
          intro cs
          induction cs with
          | nil => intro ns h j z hj; simp [ints] at h; subst h; simp at hj
          | cons c cs ih =>
            intro ns h j z hj
            cases c <;> simp only [ints] at h
            all_goals first | (cases h; done) | skip
            split at h
            · rename_i hk
              subst hk
              simp only [Option.map_eq_some_iff] at h
              obtain ⟨ns', h1, rfl⟩ := h
              cases j with
              | zero => simp at hj; simp [hj]
              | succ j => simp at hj; simpa using ih ns' h1 j _ hj
            · cases h
        have g1 := ints_get _ _ hns _ _ i2
        rw [List.getElem?_take] at g1
        split at g1
        · rename_i hin
          rw [List.getElem?_drop] at g1
          obtain ⟨u, g2, g3⟩ := hc.get g1
          have hlt : off + i.toNat < cur.toList.length := (List.getElem?_eq_some_iff.1 g2).1
          refine key (.int kk) [.int kk z] _ b (off + i.toNat * 1) cur et (0, 0) h1 rfl he hb (by simp [Sh.nc]; simp at hlt; omega) ?_ h
          rw [Nat.mul_one]
          have : (cur.toList.drop (off + i.toNat)).take 1 = [u] := by
            rw [List.drop_eq_getElem_cons hlt]
            have : cur.toList[off + i.toNat] = u := by
              rw [List.getElem?_eq_getElem hlt] at g2
              exact Option.some.inj g2
            rw [this]
            simp
          simp only [Sh.nc]
          rw [this]
          exact ⟨g3, trivial⟩
        · cases g1
      · cases h'
    · cases h
  · cases h

end
end Go.Vi
