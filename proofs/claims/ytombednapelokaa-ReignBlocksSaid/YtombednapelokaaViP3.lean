/-
  Vi: operations that change nothing that is there. Part 3: literals, elements' addresses, slices, made things.
-/
import Derived.Test.YtombednapelokaaViP2
set_option linter.unusedVariables false
set_option linter.unusedSimpArgs false
namespace Go.Vi

section
variable {P : Program} {E : Env} {o : Oper} {ρv : Val} {H : Heap} {ρ : Type} {K : V → List (Nat × O) → Option ρ} {r : ρ} {x : Cx} {γ : Gam} {w : World} {a : Act}

theorem P_indexAddr {t : TypeId} {y z : Operand} (hT : TabOK P E.T) (ho : o.op = .indexAddr t y z) (h : evalP E o ρv H ρ K = some r) (hi : Inv x γ H w) (hv : Ops ρv H x γ w a) : Good P o H K r x γ w a := by
  simp only [evalP, ho] at h
  split at h
  · -- an own array
    rename_i k win tt kk n h1 h2
    obtain ⟨i, e, xs, nilE, hg, hH, hsl⟩ := hv _ _ h1
    have e2 := VR_int (hv _ _ h2)
    split at h
    · rename_i e' xs' n' es hH' hs
      rw [hH] at hH'
      cases hH'
      obtain ⟨hin, hk⟩ := cond_some h rfl
      clear h
      simp only [inB, Bool.and_eq_true, decide_eq_true_eq] at hin
      obtain ⟨he, hin⟩ := hin
      subst he
      obtain ⟨et, hu, hbe, hnc⟩ := (hT.sh t _ hs).sl e rfl
      obtain ⟨ii, d, zz, hii, hd, hsz, _⟩ := hbe.ex
      obtain ⟨ob, hob, hR⟩ := hi.own k _ hg
      rw [hH] at hob
      cases hob
      cases i with
      | emp =>
        have : xs = [] := hR
        subst this
        have : (view win ([] : List e.den)).length = 0 := by cases win <;> simp [view]
        omega
      | «at» b c =>
        obtain ⟨_, hxc, cur, et', hb, hcs, hel⟩ := hR
        have key : ∃ o' l cap, a.eval y = .slice (some ⟨b, o', none⟩) l cap ∧ l = (view win xs).length ∧ o' = wo win * e.nc := by
          cases win with
          | none => exact ⟨0, _, _, hsl.1, rfl, by simp [wo]⟩
          | some p =>
            obtain ⟨p, l⟩ := p
            obtain ⟨o', cap, g1, g2, g3, g4, g5, g6, g7⟩ := hsl
            have hl : (view (some (p, l)) xs).length = l := by simp [view]; omega
            exact ⟨o', l, cap, g1, hl.symm, g6 (by rw [hl] at hin; omega)⟩
        obtain ⟨o', l, cap, e1, hl, ho'⟩ := key
        refine good_same hk hi (u := .pointer (some ⟨b, o' + n.toNat * e.nc, none⟩)) ?_ ⟨b, c, e, xs, nilE, hg, hH, hin.1, hin.2, ?_⟩
        · have hc : 0 ≤ n ∧ n < (l : Int) := ⟨hin.1, by rw [hl]; exact hin.2⟩
          simp only [execOp, ho, Instr.indexAt, e1, e2, asIntOf, Sem.run_bind, Sem.run_pure, Result.andThen_ok, run_underlying hu, if_pos hc, run_sizeOf' hii, hsz, add_eq]
        · rw [ho', Nat.add_mul, Nat.add_zero]
    · cases h
  · -- data
    rename_i e xs tt kk n h1 h2
    obtain ⟨ad, cap, e1, hcap, _, hrow⟩ := hv _ _ h1
    have e2 := VR_int (hv _ _ h2)
    split at h
    case h_2 => cases h
    rename_i es hs
    obtain ⟨he, hk⟩ := cond_some h rfl
    clear h
    have he := of_decide_eq_true he
    subst he
    obtain ⟨et, hu, hbe, hnc⟩ := (hT.sh t _ hs).sl e rfl
    obtain ⟨ii, d, zz, hii, hd, hsz, _⟩ := hbe.ex
    obtain ⟨q, hq, h⟩ := Option.bind_eq_some_iff.1 hk
    obtain ⟨i0, i1, i2⟩ := idx_some hq
    rcases hrow with rfl | ⟨b, oo, cur, et', fz, rfl, hA, hb, hl, hel⟩
    · simp at i1
    · have hc : 0 ≤ n ∧ n < (xs.length : Int) := ⟨i0, by omega⟩
      refine good_same h hi (u := .pointer (some ⟨b, oo + n.toNat * e.nc, none⟩)) ?_ ⟨b, oo + n.toNat * e.nc, cur, et', fz, rfl, hA, hb, ?_, ?_⟩
      · simp only [execOp, ho, Instr.indexAt, e1, e2, asIntOf, Sem.run_bind, Sem.run_pure, Result.andThen_ok, run_underlying hu, if_pos hc, run_sizeOf' hii, hsz, add_eq]
      · rw [cells_length]
        have := Nat.mul_le_mul_right e.nc (show n.toNat + 1 ≤ xs.length by omega)
        rw [Nat.add_mul, Nat.one_mul] at this
        omega
      · rw [cells_length]
        exact CR.of_VRs e q _ (hel _ _ i2)
  · -- an array in a variable
    rename_i k off kk n h1 h2
    obtain ⟨b, c, hg, e1⟩ := hv _ _ h1
    have e2 := VR_int (hv _ _ h2)
    split at h
    · rename_i len e hs
      obtain ⟨et, hu, hbe, hnc⟩ := hT.arrs t len e hs
      obtain ⟨ii, d, zz, hii, hd, hsz, _⟩ := hbe.ex
      obtain ⟨hin, h⟩ := cond_some h rfl
      simp only [inB, Bool.and_eq_true, decide_eq_true_eq] at hin
      refine good_same h hi (u := .pointer (some ⟨b, off + n.toNat * e.nc, none⟩)) ?_ ⟨b, c, hg, hin.1, hin.2, rfl⟩
      have hc : 0 ≤ n ∧ n < (len : Int) := hin
      simp only [execOp, ho, Instr.indexAt, e1, e2, asIntOf, Sem.run_bind, Sem.run_pure, Result.andThen_ok, run_underlying hu, Instr.sureAddr, if_pos hc, run_sizeOf' hii, hsz, add_eq]
    · cases h
  · cases h

theorem ints_get {kk : IntKind} : ∀ (cs : List C) (ns : List Int), ints kk cs = some ns → ∀ (j : Nat) (z : Int), ns[j]? = some z → cs[j]? = some (.int kk z)
  | [], ns, h, j, z, hj => by simp [ints] at h; subst h; simp at hj
  | c :: cs, ns, h, j, z, hj => by
    cases c <;> simp only [ints] at h
    all_goals first | (cases h; done) | skip
    split at h
    · rename_i hk
      subst hk
      simp only [Option.map_eq_some_iff] at h
      obtain ⟨ns', h1, rfl⟩ := h
      cases j with
      | zero => simp at hj; simp [hj]
      | succ j => simp at hj; simpa using ints_get cs ns' h1 j _ hj
    · cases h

theorem ints_length {kk : IntKind} : ∀ (cs : List C) (ns : List Int), ints kk cs = some ns → ns.length = cs.length
  | [], ns, h => by simp [ints] at h; subst h; rfl
  | c :: cs, ns, h => by
    cases c <;> simp only [ints] at h
    all_goals first | (cases h; done) | skip
    split at h
    · simp only [Option.map_eq_some_iff] at h
      obtain ⟨ns', h1, rfl⟩ := h
      simp [ints_length cs ns' h1]
    · cases h

theorem P_index {t : TypeId} {y z : Operand} (hT : TabOK P E.T) (ho : o.op = .index t y z) (h : evalP E o ρv H ρ K = some r) (hi : Inv x γ H w) (hv : Ops ρv H x γ w a) : Good P o H K r x γ w a := by
  simp only [evalP, ho] at h
  split at h
  · rename_i len kk cs kk' n h0 h1 h2
    obtain ⟨vs, e1, hc⟩ := hv _ _ h1
    have e2 := VR_int (hv _ _ h2)
    obtain ⟨et, hu, hbe, hnc⟩ := hT.arrs t len _ h0
    have hbe' := hbe
    obtain ⟨ii, d, zz, hii, hd, hsz, _⟩ := hbe.ex
    obtain ⟨hd', h⟩ := cond_some h rfl
    have hd' := of_decide_eq_true hd'
    split at h
    · rename_i ns hns
      obtain ⟨q, hq, h⟩ := Option.bind_eq_some_iff.1 h
      obtain ⟨i0, i1, i2⟩ := idx_some hq
      have hln := ints_length _ _ hns
      have hl := hc.length
      obtain ⟨u, g1, g2⟩ := hc.get (ints_get _ _ hns _ _ i2)
      have hcc : 0 ≤ n ∧ n < (len : Int) := ⟨i0, by omega⟩
      have hp := run_part (P := P) (w := w) hbe' (vs := vs) (off := n.toNat * 1) (by simp [Sh.nc]; omega)
      refine good_same h hi (u := u) ?_ g2
      have hu2 : mkVal (.int kk) ((vs.drop (n.toNat * 1)).take (Sh.int kk).nc) = u := by
        simp [mkVal, Sh.agg, Sh.nc, List.getD, List.getElem?_take, List.getElem?_drop, g1]
      have hsz1 : ii.size = 1 := hsz
      rw [hu2] at hp
      simp only [execOp, ho, Instr.index, e1, e2, asIntOf, Sem.run_bind, Sem.run_pure, Result.andThen_ok, run_underlying hu, if_pos hcc, run_sizeOf' hii, hsz1, hp]
    · cases h
  · cases h

theorem run_bound {z : Operand} {k : IntKind} {n : Int} {m : Nat} {code : BoundsCode} (he : a.eval z = .int k n) (h : 0 ≤ n ∧ n ≤ m) : (Instr.sliceBound (a.eval z) m code).run P w = .ok n.toNat w := by
  simp only [Instr.sliceBound, he, asIntOf, Sem.run_bind, Sem.run_pure, Result.andThen_ok, if_pos h]

theorem optI_run {lo : Option Operand} {lo' : Option Int} (hv : Ops ρv H x γ w a) (h : optI ρv lo = some lo') : (lo = none ∧ lo' = none) ∨ ∃ z k n, lo = some z ∧ lo' = some n ∧ a.eval z = .int k n := by
  cases lo with
  | none => simp [optI] at h; exact .inl ⟨rfl, h.symm⟩
  | some z =>
    simp only [optI] at h
    split at h
    · rename_i k n h1
      cases h
      exact .inr ⟨z, k, n, rfl, rfl, VR_int (hv _ _ h1)⟩
    · cases h

def mxN (mx : Option Int) (n : Nat) : Nat := match mx with | some h => h.toNat | none => n

/-- The bounds of a slice expression, computed. -/
theorem run_bounds {lo hi mx : Option Operand} {lo' hi' mx' : Option Int} {isS : Bool} {len cap : Nat} (hv : Ops ρv H x γ w a) (h1 : optI ρv lo = some lo') (h2 : optI ρv hi = some hi') (h3 : optI ρv mx = some mx')
    (hb : bounds lo' hi' mx' len = true) (hlc : len ≤ cap) (hm : mx'.isSome = true → hi'.isSome = true) :
    (Instr.sliceBounds isS len cap (lo.map a.eval) (hi.map a.eval) (mx.map a.eval)).run P w = .ok (loN lo', hiN hi' len, mxN mx' cap) w ∧
      loN lo' ≤ hiN hi' len ∧ hiN hi' len ≤ len ∧ (∀ m, mx' = some m → m.toNat ≤ len ∧ hiN hi' len ≤ m.toNat ∧ 0 ≤ m) ∧ (∀ h, hi' = some h → 0 ≤ h) := by
  simp only [bounds, Bool.and_eq_true, decide_eq_true_eq] at hb
  obtain ⟨⟨⟨b1, b2⟩, b3⟩, b4⟩ := hb
  rcases optI_run hv h1 with ⟨rfl, rfl⟩ | ⟨z1, k1, n1, rfl, rfl, e1⟩ <;> rcases optI_run hv h2 with ⟨rfl, rfl⟩ | ⟨z2, k2, n2, rfl, rfl, e2⟩ <;> rcases optI_run hv h3 with ⟨rfl, rfl⟩ | ⟨z3, k3, n3, rfl, rfl, e3⟩
  all_goals first
    | (exfalso; simp at hm; done)
    | skip
  all_goals simp only at b1 b2 b3 b4
  all_goals
    refine ⟨?_, by simp only [loN, hiN]; omega, by simp only [hiN]; omega, ?_, ?_⟩
  all_goals first
    | (intro m hm'; first | (cases hm'; done) | (cases hm'; refine ⟨by omega, by simp only [hiN]; omega, by omega⟩); done)
    | (intro m hm'; first | (cases hm'; done) | (cases hm'; omega); done)
    | skip
  · simp only [Instr.sliceBounds, Option.map_none, Sem.run_bind, Sem.run_pure, Result.andThen_ok, loN, hiN, mxN]
  · simp only [Instr.sliceBounds, Option.map_none, Option.map_some, Sem.run_bind, Sem.run_pure, Result.andThen_ok, loN, hiN, mxN]
    rw [run_bound e2 (by omega)]
    simp only [Result.andThen_ok]
  · simp only [Instr.sliceBounds, Option.map_none, Option.map_some, Sem.run_bind, Sem.run_pure, Result.andThen_ok, loN, hiN, mxN]
    rw [run_bound e3 (by omega)]
    simp only [Result.andThen_ok]
    rw [run_bound e2 (by omega)]
    simp only [Result.andThen_ok]
  · simp only [Instr.sliceBounds, Option.map_none, Option.map_some, Sem.run_bind, Sem.run_pure, Result.andThen_ok, loN, hiN, mxN]
    rw [run_bound e1 (by omega)]
    simp only [Result.andThen_ok]
  · simp only [Instr.sliceBounds, Option.map_none, Option.map_some, Sem.run_bind, Sem.run_pure, Result.andThen_ok, loN, hiN, mxN]
    rw [run_bound e2 (by omega)]
    simp only [Result.andThen_ok]
    rw [run_bound e1 (by omega)]
    simp only [Result.andThen_ok]
  · simp only [Instr.sliceBounds, Option.map_none, Option.map_some, Sem.run_bind, Sem.run_pure, Result.andThen_ok, loN, hiN, mxN]
    rw [run_bound e3 (by omega)]
    simp only [Result.andThen_ok]
    rw [run_bound e2 (by omega)]
    simp only [Result.andThen_ok]
    rw [run_bound e1 (by omega)]
    simp only [Result.andThen_ok]

end
end Go.Vi
