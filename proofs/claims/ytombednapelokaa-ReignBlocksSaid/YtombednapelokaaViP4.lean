/-
  Vi: operations that change nothing that is there. Part 4: slice expressions, lengths, the greatest, closures, made things.
-/
import Derived.Test.YtombednapelokaaViP3
set_option linter.unusedVariables false
set_option linter.unusedSimpArgs false
namespace Go.Vi

section
variable {P : Program} {E : Env} {o : Oper} {ρv : Val} {H : Heap} {ρ : Type} {K : V → List (Nat × O) → Option ρ} {r : ρ} {x : Cx} {γ : Gam} {w : World} {a : Act}

theorem exec_slice {t : TypeId} {y : Operand} {lo hi mx : Option Operand} {e : Sh} {lo' hi' mx' : Option Int} {ad : Option Addr} {len cap : Nat} (hT : TabOK P E.T) (ho : o.op = .slice t y lo hi mx) (hv : Ops ρv H x γ w a)
    (h1 : optI ρv lo = some lo') (h2 : optI ρv hi = some hi') (h3 : optI ρv mx = some mx') (hs : shOf E.T t = some (.sl e)) (hm : mx'.isSome = true → hi'.isSome = true)
    (hb : bounds lo' hi' mx' len = true) (hlc : len ≤ cap) (he : a.eval y = .slice ad len cap) :
    ∃ m, (execOp a.eval o).run P w = .ok (.value (.slice (if m = loN lo' then ad else ad.map (·.add (loN lo' * e.nc))) (hiN hi' len - loN lo') (m - loN lo'))) w ∧
      loN lo' ≤ hiN hi' len ∧ hiN hi' len ≤ len ∧ hiN hi' len ≤ m ∧ m ≤ cap ∧ (mx' = none → m = cap) ∧ (∀ k, mx' = some k → m = k.toNat) ∧ (∀ h, hi' = some h → 0 ≤ h) ∧ (∀ k, mx' = some k → 0 ≤ k) := by
  obtain ⟨et, hu, hbe, hnc⟩ := (hT.sh t _ hs).sl e rfl
  obtain ⟨ii, d, zz, hii, hd, hsz, _⟩ := hbe.ex
  obtain ⟨b1, b2, b3, b4, b5⟩ := run_bounds (P := P) (isS := true) hv h1 h2 h3 hb hlc hm
  refine ⟨mxN mx' cap, ?_, b2, b3, ?_, ?_, ?_, ?_, b5, ?_⟩
  · simp only [execOp, ho, Instr.sliceAt, he, Sem.run_bind, run_underlying hu, Result.andThen_ok, Instr.slice, b1, run_sizeOf' hii, hsz, Sem.run_pure]
  · cases mx' with
    | none => exact Nat.le_trans b3 hlc
    | some m => exact (b4 m rfl).2.1
  · cases mx' with
    | none => exact Nat.le_refl _
    | some m => exact Nat.le_trans (b4 m rfl).1 hlc
  · rintro rfl; rfl
  · rintro k rfl; rfl
  · rintro k rfl; exact (b4 k rfl).2.2

theorem tight_eq {tight : Bool} {hi mx : Option Int} {l m cap len : Nat} (ht : cutTight tight hi mx = true) (h1 : tight = true → cap = len) (hm1 : mx = none → m = cap) (hm2 : ∀ k, mx = some k → m = k.toNat) (hh : hiN hi len ≤ len) :
    m - l = hiN hi len - l := by
  unfold cutTight at ht
  split at ht
  · rename_i k
    split at ht
    · rename_i h
      have : h = k := by simpa using ht
      subst this
      rw [hm2 h rfl]
      rfl
    · cases ht
  · simp only [Bool.and_eq_true] at ht
    have : hi = none := by cases hi <;> simp_all
    subst this
    rw [hm1 rfl, h1 ht.1]
    rfl

theorem RowsAt.cut {A : Nat → Prop} {n : Nat} {α : Type} {Q : α → List Value → Prop} {xs : List α} {ad : Option Addr} (h : RowsAt w A n Q xs ad) (l m : Nat) (hl : l ≤ m) :
    RowsAt w A n Q ((xs.take m).drop l) (ad.map (·.add (l * n))) := by
  rcases h with rfl | ⟨b, oo, cur, et, fz, rfl, hA, hb, hlen, hel⟩
  · exact .inl (by simp)
  · by_cases hx : (xs.take m).drop l = []
    · exact .inl hx
    refine .inr ⟨b, oo + l * n, cur, et, fz, by simp [add_eq], hA, hb, ?_, ?_⟩
    · have h2 : ((xs.take m).drop l).length + l ≤ xs.length := by
        have : l < (xs.take m).length := by
          rcases Nat.lt_or_ge l (xs.take m).length with h3 | h3
          · exact h3
          · exact absurd (List.drop_eq_nil_of_le h3) hx
        simp only [List.length_drop, List.length_take] at this ⊢
        omega
      have := Nat.mul_le_mul_right n h2
      rw [Nat.add_mul] at this
      omega
    · intro i y hy
      rw [List.getElem?_drop, List.getElem?_take] at hy
      split at hy
      · have := hel _ y hy
        rw [Nat.add_mul, ← Nat.add_assoc] at this
        exact this
      · cases hy

theorem P_slice {t : TypeId} {y : Operand} {lo hi mx : Option Operand} (hT : TabOK P E.T) (ho : o.op = .slice t y lo hi mx) (h : evalP E o ρv H ρ K = some r) (hi' : Inv x γ H w) (hv : Ops ρv H x γ w a) : Good P o H K r x γ w a := by
  simp only [evalP, ho] at h
  split at h
  · rename_i lo1 hi1 mx1 e hlo hhi hmx hs
    split at h
    · -- an own array
      rename_i k win tight h1
      obtain ⟨i, e0, xs, nilE, hg, hH, hsl⟩ := hv _ _ h1
      split at h
      · rename_i e1 xs1 n1 hH1
        rw [hH] at hH1
        cases hH1
        obtain ⟨hc, hk⟩ := cond_some h rfl
        clear h
        simp only [Bool.and_eq_true, decide_eq_true_eq] at hc
        obtain ⟨⟨he, hm⟩, hb⟩ := hc
        subst he
        have hm' : mx1.isSome = true → hi1.isSome = true := by
          intro hh
          simpa [hh] using hm
        obtain ⟨ob, hob, hR⟩ := hi'.own k _ hg
        rw [hH] at hob
        cases hob
        cases i with
        | emp =>
          obtain ⟨ad, e1, e2, e3, e4⟩ := hsl
          have hx : xs = [] := hR
          have hv0 : (view win xs).length = 0 := by subst hx; cases win <;> simp [view]
          rw [hv0] at hb hk
          obtain ⟨m, hrun, m1, m2, m3, m4, m5, m6, m7, m8⟩ := exec_slice hT ho hv hlo hhi hmx hs hm' hb (Nat.le_refl 0) e1
          have hl0 : loN lo1 = 0 := by omega
          have hh0 : hiN hi1 0 = 0 := by omega
          have hm0 : m = 0 := by omega
          rw [hl0, hh0, hm0] at hrun
          rw [hl0, hh0] at hk
          refine good_same hk hi' hrun ⟨.emp, e0, xs, nilE, hg, hH, ad, by simp, e2, e3, ?_⟩
          intro p l hpl
          cases win with
          | none => simp [cutWin] at hpl; omega
          | some q =>
            obtain ⟨p', l'⟩ := q
            have := e4 p' l' rfl
            simp [cutWin] at hpl
            omega
        | «at» b c =>
          have key : ∃ oo p cap, a.eval y = .slice (some ⟨b, oo, none⟩) (view win xs).length cap ∧ (view win xs).length ≤ cap ∧ p + cap ≤ c ∧ (tight = true → cap = (view win xs).length) ∧ (0 < cap → oo = p * e0.nc) ∧ (p = 0 → oo = 0) ∧
              p + (view win xs).length ≤ xs.length ∧ ∀ l h, cutWin win l h = some (p + l, h - l) := by
            cases win with
            | none =>
              obtain ⟨g1, g2, g3⟩ := hsl
              refine ⟨0, 0, c, g1, g2, by omega, g3, by simp, fun _ => rfl, ?_, fun l h => rfl⟩
              show 0 + xs.length ≤ _
              omega
            | some q =>
              obtain ⟨p, l⟩ := q
              obtain ⟨oo, cap, g1, g2, g3, g4, g5, g6, g7⟩ := hsl
              have hl : (view (some (p, l)) xs).length = l := by simp [view]; omega
              exact ⟨oo, p, cap, by rw [hl]; exact g1, by omega, g4, by rw [hl]; exact g5, g6, g7, by omega, fun l h => rfl⟩
          obtain ⟨oo, p, cap, g1, g2, g3, g4, g5, g6, g7, g8⟩ := key
          obtain ⟨m, hrun, m1, m2, m3, m4, m5, m6, m7, m8⟩ := exec_slice hT ho hv hlo hhi hmx hs hm' hb g2 g1
          rw [g8] at hk
          refine good_same hk hi' hrun ⟨.at b c, e0, xs, nilE, hg, hH, ?_⟩
          refine ⟨if m = loN lo1 then oo else oo + loN lo1 * e0.nc, m - loN lo1, ?_, by omega, by omega, by omega, fun ht => tight_eq ht g4 m5 m6 m2, ?_, ?_⟩
          · split <;> simp [add_eq]
          · intro hp
            rw [if_neg (by omega), g5 (by omega), Nat.add_mul]
          · intro hp
            have hl0 : loN lo1 = 0 := by omega
            have := g6 (by omega)
            split <;> simp [this, hl0]
      · cases h
    · -- data
      rename_i e0 xs tight h1
      obtain ⟨ad, cap, e1, hcap, htt, hrow⟩ := hv _ _ h1
      obtain ⟨hc, hk⟩ := cond_some h rfl
      clear h
      simp only [Bool.and_eq_true, decide_eq_true_eq] at hc
      obtain ⟨⟨he, hm⟩, hb⟩ := hc
      subst he
      have hm' : mx1.isSome = true → hi1.isSome = true := by
        intro hh
        simpa [hh] using hm
      obtain ⟨m, hrun, m1, m2, m3, m4, m5, m6, m7, m8⟩ := exec_slice hT ho hv hlo hhi hmx hs hm' hb hcap e1
      have hlist : cutHi hi1 xs = xs.take (hiN hi1 xs.length) := by
        cases hi1 with
        | none => simp [hiN, cutHi]
        | some h => rfl
      rw [hlist] at hk
      have hlen : ((xs.take (hiN hi1 xs.length)).drop (loN lo1)).length = hiN hi1 xs.length - loN lo1 := by simp; omega
      refine good_same hk hi' hrun ⟨_, _, by rw [hlen], by rw [hlen]; omega, fun ht => by rw [hlen]; exact tight_eq ht htt m5 m6 m2, ?_⟩
      by_cases hml : m = loN lo1
      · refine .inl ?_
        apply List.eq_nil_of_length_eq_zero
        rw [hlen]
        omega
      · rw [if_neg hml]
        exact hrow.cut _ _ m1
    · cases h
  · cases h

theorem opVs_VR : ∀ {ys : List Operand} {vs : List V}, Ops ρv H x γ w a → opVs ρv ys = some vs → All2 (VR γ w (Av x γ w) H) vs (ys.map a.eval)
  | [], vs, hv, h => by simp [opVs] at h; subst h; trivial
  | y :: ys, vs, hv, h => by
    simp only [opVs] at h
    split at h
    · rename_i v vs' h1 h2
      cases h
      exact ⟨hv _ _ h1, opVs_VR hv h2⟩
    · cases h

theorem VR_flat {v : V} {u : Value} (hf : v.flat = true) (h : VR γ w (Av x γ w) H v u) : VR1 γ w (Av x γ w) H v u := by
  cases v <;> first | exact h | simp [V.flat] at hf

theorem All2.flat : ∀ {vs : List V} {us : List Value}, vs.all V.flat = true → All2 (VR γ w (Av x γ w) H) vs us → All2 (VR1 γ w (Av x γ w) H) vs us
  | [], [], _, _ => trivial
  | v :: vs, u :: us, hf, h => by
    simp only [List.all_cons, Bool.and_eq_true] at hf
    exact ⟨VR_flat hf.1 h.1, All2.flat hf.2 h.2⟩
  | [], _ :: _, _, h => h.elim
  | _ :: _, [], _, h => h.elim

theorem P_makeFunc {fn : Fn} {first caps : Array Operand} (ho : o.op = .makeFunc fn first caps) (h : evalP E o ρv H ρ K = some r) (hi : Inv x γ H w) (hv : Ops ρv H x γ w a) : Good P o H K r x γ w a := by
  simp only [evalP, ho] at h
  split at h
  · rename_i f vs h1 h2
    obtain ⟨hf, h⟩ := cond_some h rfl
    have h3 := All2.flat hf (opVs_VR hv h2)
    have hfirst : first = #[] := by simpa using h1
    refine good_same h hi (u := .func (.func f) #[] (caps.toList.map a.eval).toArray) ?_ ⟨_, rfl, h3⟩
    subst hfirst
    have : (caps.toList.map a.eval).toArray = caps.map a.eval := by
      apply Array.ext'
      rw [Array.toList_map]
    rw [this]
    simp [execOp, ho, Instr.makeFunc]
  · cases h

theorem P_makeMap {t : TypeId} (hT : TabOK P E.T) (ho : o.op = .makeMap t none) (h : evalP E o ρv H ρ K = some r) (hi : Inv x γ H w) : Good P o H K r x γ w a := by
  simp only [evalP, ho] at h
  split at h
  · rename_i kk e hs
    refine ⟨_, _, h, .inl ⟨.map (some w.heap.size), w.alloc (.map #[] 0), ?_, Res.new (i := .at w.heap.size 0) hi (Grows.alloc w _) (by simp) ?_ ?_⟩⟩
    · simp only [execOp, ho, Instr.makeMap, Option.map_none, Sem.run_bind, Sem.run_pure, Result.andThen_ok, run_newObj]
      rfl
    · exact ⟨#[], 0, heap_new w _, trivial⟩
    · exact ⟨w.heap.size, 0, by simp [gset], rfl⟩
  · cases h

theorem run_maxes {k : IntKind} : ∀ (vs : List V) (us : List Value) (n m : Int), max2 k n vs = some m → All2 (VR γ w (Av x γ w) H) vs us → (us.foldlM Builtin.max2 (.int k n)).run P w = .ok (.int k m) w
  | [], [], n, m, h, _ => by simp [max2] at h; subst h; simp
  | v :: vs, u :: us, n, m, h, hv => by
    cases v with
    | c c0 =>
      cases c0 with
      | int k' y =>
        simp only [max2] at h
        split at h
        · rename_i hk
          subst hk
          have e1 := VR_int hv.1
          subst e1
          simp only [List.foldlM_cons, Sem.run_bind, Builtin.max2, Sem.run_pure, Result.andThen_ok]
          exact run_maxes vs us _ m h hv.2
        · cases h
      | _ => simp [max2] at h
    | _ => simp [max2] at h
  | [], _ :: _, _, _, _, h => h.elim
  | _ :: _, [], _, _, _, h => h.elim

theorem run_mins {k : IntKind} : ∀ (vs : List V) (us : List Value) (n m : Int), min2 k n vs = some m → All2 (VR γ w (Av x γ w) H) vs us → (us.foldlM Builtin.min2 (.int k n)).run P w = .ok (.int k m) w
  | [], [], n, m, h, _ => by simp [min2] at h; subst h; simp
  | v :: vs, u :: us, n, m, h, hv => by
    cases v with
    | c c0 =>
      cases c0 with
      | int k' y =>
        simp only [min2] at h
        split at h
        · rename_i hk
          subst hk
          have e1 := VR_int hv.1
          subst e1
          simp only [List.foldlM_cons, Sem.run_bind, Builtin.min2, Sem.run_pure, Result.andThen_ok]
          exact run_mins vs us _ m h hv.2
        · cases h
      | _ => simp [min2] at h
    | _ => simp [min2] at h
  | [], _ :: _, _, _, _, h => h.elim
  | _ :: _, [], _, _, _, h => h.elim

theorem exec_builtin {c : Call} {b : Builtin} (ho : o.op = .call c) (hc : c.callee = .builtin b) {u : Value} {w' : World}
    (h : (builtin b c.argTypes o.type (c.args.map fun | .const _ => true | _ => false) (c.args.map a.eval)).run P w = .ok (.value u) w') : (execOp a.eval o).run P w = .ok (.value u) w' := by
  simp only [execOp, ho, resolve, hc, Sem.run_bind, Sem.run_pure, Result.andThen_ok, invoke]
  exact h

theorem P_max {c : Call} (ho : o.op = .call c) (hc : c.callee = .builtin .max) (h : evalP E o ρv H ρ K = some r) (hi : Inv x γ H w) (hv : Ops ρv H x γ w a) : Good P o H K r x γ w a := by
  simp only [evalP, ho, hc] at h
  split at h
  · rename_i k n vs h1
    have h2 := opVs_VR hv h1
    split at h
    · rename_i m hm
      refine good_same h hi (exec_builtin ho hc ?_) (rfl : VR γ w (Av x γ w) H (.c (.int k m)) (.int k m))
      cases hargs : c.args.toList with
      | nil => rw [hargs] at h2; exact h2.elim
      | cons y ys =>
        rw [hargs] at h2
        have e1 := VR_int h2.1
        have hl : (c.args.map a.eval).toList = .int k n :: ys.map a.eval := by simp [hargs, e1]
        simp only [builtin, Builtin.max_, hl, Sem.run_bind, run_maxes vs _ n m hm h2.2, Result.andThen_ok, Sem.run_pure]
    · cases h
  · cases h

theorem P_min {c : Call} (ho : o.op = .call c) (hc : c.callee = .builtin .min) (h : evalP E o ρv H ρ K = some r) (hi : Inv x γ H w) (hv : Ops ρv H x γ w a) : Good P o H K r x γ w a := by
  simp only [evalP, ho, hc] at h
  split at h
  · rename_i k n vs h1
    have h2 := opVs_VR hv h1
    split at h
    · rename_i m hm
      refine good_same h hi (exec_builtin ho hc ?_) (rfl : VR γ w (Av x γ w) H (.c (.int k m)) (.int k m))
      cases hargs : c.args.toList with
      | nil => rw [hargs] at h2; exact h2.elim
      | cons y ys =>
        rw [hargs] at h2
        have e1 := VR_int h2.1
        have hl : (c.args.map a.eval).toList = .int k n :: ys.map a.eval := by simp [hargs, e1]
        simp only [builtin, Builtin.min_, hl, Sem.run_bind, run_mins vs _ n m hm h2.2, Result.andThen_ok, Sem.run_pure]
    · cases h
  · cases h

end
end Go.Vi
