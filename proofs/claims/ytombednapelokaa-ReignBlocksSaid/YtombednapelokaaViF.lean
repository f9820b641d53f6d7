/-
  Vi: what an operation that changes nothing looks at: its operands and what they name, and no more.
-/
import Derived.Test.YtombednapelokaaViE6
set_option linter.unusedVariables false
set_option linter.unusedSimpArgs false
namespace Go.Vi
open Op

def PhiPar (phi : Phi) : Prop :=
  ∀ g vs (ρ : Type) (K : Ret → Option ρ) r, phi g vs ρ K = some r → ∃ ret, K ret = some r ∧ ∀ (ρ' : Type) (K' : Ret → Option ρ'), phi g vs ρ' K' = K' ret

def Agree (l : List Operand) (ρv ρv' : Val) (H H' : Heap) : Prop :=
  (∀ y ∈ l, ρv' y = ρv y) ∧ ∀ y ∈ l, ∀ u, ρv y = some u → ∀ k, refs k u = true → H' k = H k

def K0 : V → List (Nat × O) → Option (V × List (Nat × O)) := fun v obs => some (v, obs)

def isKey (o : Oper) (k : Nat) : Prop := ∃ j, k = dstKey o.dst + 10000 * j

structure Foot (E : Env) (o : Oper) (ρv : Val) (H : Heap) (v : V) (obs : List (Nat × O)) : Prop where
  dfd : ∀ t, Operand.tmp t ∈ o.op.operands.toList → ρv (.tmp t) ≠ some .undef
  prov : ∀ k, refs k v = true → (∃ y ∈ o.op.operands.toList, ∃ u, ρv y = some u ∧ refs k u = true) ∨ ∃ p ∈ obs, p.1 = k
  keys : ∀ p ∈ obs, isKey o p.1
  cong : ∀ ρv' H', Agree o.op.operands.toList ρv ρv' H H' → evalP E o ρv' H' _ K0 = some (v, obs)

section
variable {E : Env} {o : Oper} {ρv ρv' : Val} {H H' : Heap} {ρ : Type} {K : V → List (Nat × O) → Option ρ} {r : ρ}

theorem Foot.self {v : V} {obs : List (Nat × O)} (h : Foot E o ρv H v obs) : evalP E o ρv H _ K0 = some (v, obs) :=
  h.cong ρv H ⟨fun _ _ => rfl, fun _ _ _ _ _ _ => rfl⟩

def Footed (E : Env) (o : Oper) (ρv : Val) (H : Heap) {ρ : Type} (K : V → List (Nat × O) → Option ρ) (r : ρ) : Prop :=
  ∃ v obs, K v obs = some r ∧ Foot E o ρv H v obs

theorem key0 {k : Nat} (h : k = dstKey o.dst) : isKey o k := ⟨0, by omega⟩

/-- A value that names nothing. -/
theorem foot0 {v : V} (hK : K v [] = some r) (hv : ∀ k, refs k v = false) (hd : ∀ t, Operand.tmp t ∈ o.op.operands.toList → ρv (.tmp t) ≠ some .undef)
    (hc : ∀ ρv' H', Agree o.op.operands.toList ρv ρv' H H' → evalP E o ρv' H' _ K0 = some (v, [])) : Footed E o ρv H K r :=
  ⟨v, [], hK, hd, fun k hk => (by rw [hv] at hk; cases hk), by simp, hc⟩

/-- A value that names what an operand names. -/
theorem foot1 {v : V} {y : Operand} {u : V} (hK : K v [] = some r) (hy : y ∈ o.op.operands.toList) (hu : ρv y = some u) (hv : ∀ k, refs k v = true → refs k u = true) (hd : ∀ t, Operand.tmp t ∈ o.op.operands.toList → ρv (.tmp t) ≠ some .undef)
    (hc : ∀ ρv' H', Agree o.op.operands.toList ρv ρv' H H' → evalP E o ρv' H' _ K0 = some (v, [])) : Footed E o ρv H K r :=
  ⟨v, [], hK, hd, fun k hk => .inl ⟨y, hy, u, hu, hv k hk⟩, by simp, hc⟩

/-- A new thing. -/
theorem footn {v : V} {ob : O} (hK : K v [(dstKey o.dst, ob)] = some r) (hv : ∀ k, refs k v = true → k = dstKey o.dst) (hd : ∀ t, Operand.tmp t ∈ o.op.operands.toList → ρv (.tmp t) ≠ some .undef)
    (hc : ∀ ρv' H', Agree o.op.operands.toList ρv ρv' H H' → evalP E o ρv' H' _ K0 = some (v, [(dstKey o.dst, ob)])) : Footed E o ρv H K r :=
  ⟨v, [(dstKey o.dst, ob)], hK, hd, fun k hk => .inr ⟨_, List.mem_singleton.2 rfl, (hv k hk).symm⟩, fun p hp => (by
    rw [List.mem_singleton.1 hp]
    exact key0 rfl), hc⟩

theorem refs_own {k j : Nat} {w : Option (Nat × Nat)} {t : Bool} (h : refs k (.own j w t) = true) : k = j := (Nat.eq_of_beq_eq_true h).symm
theorem refs_ptr {k j off : Nat} (h : refs k (.ptr j off) = true) : k = j := (Nat.eq_of_beq_eq_true h).symm
theorem refs_map {k j : Nat} (h : refs k (.map j) = true) : k = j := (Nat.eq_of_beq_eq_true h).symm
theorem own_refs (k : Nat) (w : Option (Nat × Nat)) (t : Bool) : refs k (.own k w t) = true := Nat.beq_refl k
theorem ptr_refs (k off : Nat) : refs k (.ptr k off) = true := Nat.beq_refl k
theorem map_refs (k : Nat) : refs k (.map k) = true := Nat.beq_refl k
theorem eptr_refs (k : Nat) (w : Option (Nat × Nat)) (i : Int) (off : Nat) : refs k (.eptr k w i off) = true := Nat.beq_refl k
theorem aptr_refs (k off n : Nat) (e : Sh) (i : Int) : refs k (.aptr k off n e i) = true := Nat.beq_refl k

theorem refs_mkV {k : Nat} {s : Sh} {cs : List C} {v : V} (h : mkV s cs = some v) : refs k v = false := by
  unfold mkV at h
  cases hs : s.agg with
  | true => rw [hs] at h; cases h; rfl
  | false =>
    rw [hs] at h
    simp only [cond_false] at h
    split at h
    · cases h; rfl
    · cases h

theorem F_move {y : Operand} (ho : o.op = .move y ∨ o.op = .assign y) (h : evalP E o ρv H ρ K = some r) : Footed E o ρv H K r := by
  have hops : o.op.operands.toList = [y] := by rcases ho with ho | ho <;> simp [ho, Op.operands]
  cases hn : isNil y with
  | true =>
    have hy := isNil_eq hn
    have hd : ∀ t, Operand.tmp t ∈ o.op.operands.toList → ρv (.tmp t) ≠ some .undef := by rw [hops, hy]; simp
    rcases ho with ho | ho
    all_goals
      simp only [evalP, ho, hn, cond_true] at h
      split at h
      · rename_i e he
        refine footn h (fun k hk => refs_own hk) hd ?_
        intro ρv' H' hA
        simp only [evalP, ho, hn, cond_true, he]
        rfl
      · cases h
  | false =>
    rcases ho with ho | ho
    all_goals
      simp only [evalP, ho, hn, cond_false] at h
      split at h
      · rename_i v hv
        obtain ⟨hu, h⟩ := cond_none h rfl
        refine foot1 h (by rw [hops]; simp) hv (fun k hk => hk) ?_ ?_
        · rw [hops]
          intro t ht e
          rw [← List.mem_singleton.1 ht] at hv
          rw [hv] at e
          cases e
          cases hu
        · intro ρv' H' hA
          rw [hops] at hA
          simp only [evalP, ho, hn, cond_false, hA.1 y (by simp), hv, hu]
          rfl
      · cases h

/-- The operands that are looked at are there. -/
theorem dfd1 {y : Operand} {v : V} (hops : o.op.operands.toList = [y]) (hv : ρv y = some v) (hu : v.isUndef = false) : ∀ t, Operand.tmp t ∈ o.op.operands.toList → ρv (.tmp t) ≠ some .undef := by
  rw [hops]
  intro t ht e
  rw [← List.mem_singleton.1 ht, e] at hv
  cases hv
  cases hu

theorem dfdl {l : List Operand} (hops : o.op.operands.toList = l) (hl : ∀ y ∈ l, ρv y ≠ some .undef) : ∀ t, Operand.tmp t ∈ o.op.operands.toList → ρv (.tmp t) ≠ some .undef := by
  rw [hops]
  exact fun t ht => hl _ ht

theorem F_pick {c y z : Operand} (ho : o.op = .pick c y z) (h : evalP E o ρv H ρ K = some r) : Footed E o ρv H K r := by
  have hops : o.op.operands.toList = [c, y, z] := by simp [ho, Op.operands]
  simp only [evalP, ho] at h
  split at h
  · rename_i p q s h1 h2 h3
    refine foot0 h (fun k => rfl) (dfdl hops (by simp [h1, h2, h3])) ?_
    intro ρv' H' hA
    rw [hops] at hA
    simp only [evalP, ho, hA.1 c (by simp), hA.1 y (by simp), hA.1 z (by simp), h1, h2, h3]
    rfl
  · cases h

theorem F_alloc {t : TypeId} (ho : o.op = .alloc t) (h : evalP E o ρv H ρ K = some r) : Footed E o ρv H K r := by
  have hops : o.op.operands.toList = [] := by simp [ho, Op.operands]
  simp only [evalP, ho] at h
  split at h
  · rename_i s hs
    refine footn h (fun k hk => refs_ptr hk) (dfdl hops (by simp)) ?_
    intro ρv' H' hA
    simp only [evalP, ho, hs]
    rfl
  · cases h

theorem F_makeMap {t : TypeId} (ho : o.op = .makeMap t none) (h : evalP E o ρv H ρ K = some r) : Footed E o ρv H K r := by
  have hops : o.op.operands.toList = [] := by simp [ho, Op.operands]
  simp only [evalP, ho] at h
  split at h
  · rename_i kk e hs
    refine footn h (fun k hk => refs_map hk) (dfdl hops (by simp)) ?_
    intro ρv' H' hA
    simp only [evalP, ho, hs]
    rfl
  · cases h

theorem bindC_some {y : Operand} {cs : List C} (h : (ρv y).bind cellsOf = some cs) : ∃ u, ρv y = some u ∧ cellsOf u = some cs ∧ ρv y ≠ some .undef := by
  obtain ⟨u, h1, h2⟩ := Option.bind_eq_some_iff.1 h
  refine ⟨u, h1, h2, ?_⟩
  rw [h1]
  intro e
  cases e
  cases h2

theorem F_box {t : TypeId} {y : Operand} (ho : o.op = .box t y) (h : evalP E o ρv H ρ K = some r) : Footed E o ρv H K r := by
  have hops : o.op.operands.toList = [y] := by simp [ho, Op.operands]
  simp only [evalP, ho] at h
  split at h
  · rename_i s cs h1 h2
    obtain ⟨hd, h⟩ := cond_some h rfl
    obtain ⟨u, h3, h4, h5⟩ := bindC_some h2
    refine footn h (fun k hk => refs_ptr hk) (dfdl hops (by simpa using h5)) ?_
    intro ρv' H' hA
    rw [hops] at hA
    simp only [evalP, ho, hA.1 y (by simp), h1, h2, hd, cond_true]
    rfl
  · cases h

theorem partsFill_def {fs : List Sh} : ∀ {ps : List (Nat × Operand)} {cs cs' : List C}, partsFill fs ρv cs ps = some cs' → ∀ y ∈ ps.map (·.2), ρv y ≠ some .undef
  | [], _, _, _, y, hy => by simp at hy
  | (j, x) :: r, cs, cs', h, y, hy => by
    simp only [partsFill] at h
    split at h
    · rename_i vs s h1 h2
      obtain ⟨hd, h⟩ := cond_some h rfl
      simp only [List.map_cons, List.mem_cons] at hy
      rcases hy with rfl | hy
      · obtain ⟨_, _, _, h0⟩ := bindC_some h1
        exact h0
      · exact partsFill_def h y hy
    · cases h

theorem partsFill_cong {fs : List Sh} : ∀ (ps : List (Nat × Operand)) (cs : List C), (∀ y ∈ ps.map (·.2), ρv' y = ρv y) → partsFill fs ρv' cs ps = partsFill fs ρv cs ps
  | [], _, _ => rfl
  | (j, x) :: r, cs, h => by
    have h1 : ρv' x = ρv x := h x (by simp)
    have h2 : ∀ cs, partsFill fs ρv' cs r = partsFill fs ρv cs r := fun cs => partsFill_cong r cs fun y hy => h y (by simp only [List.map_cons, List.mem_cons]; exact .inr hy)
    simp only [partsFill, h1, h2]

theorem F_build {t : TypeId} {ps : Array (Nat × Operand)} (ho : o.op = .build t ps) (h : evalP E o ρv H ρ K = some r) : Footed E o ρv H K r := by
  have hops : o.op.operands.toList = ps.toList.map (·.2) := by simp [ho, Op.operands]
  simp only [evalP, ho] at h
  split at h
  · rename_i s hs
    split at h
    · rename_i fs hf
      obtain ⟨ha, h⟩ := cond_some h rfl
      split at h
      · rename_i cs hp
        refine foot0 h (fun k => rfl) (dfdl hops (partsFill_def hp)) ?_
        intro ρv' H' hA
        rw [hops] at hA
        simp only [evalP, ho, hs, hf, ha, cond_true, partsFill_cong _ _ hA.1, hp]
        rfl
      · cases h
    · cases h
  · cases h

theorem agree_elems {l : List Operand} (hA : Agree l ρv ρv' H H') {y : Operand} (hy : y ∈ l) {u : V} (hu : ρv y = some u) : elems H' u = elems H u := by
  cases u with
  | own k win t => simp only [elems, hA.2 y hy _ hu k (own_refs k win t)]
  | c x => cases x <;> rfl
  | _ => rfl

theorem agree_elemsAs {l : List Operand} (hA : Agree l ρv ρv' H H') {y : Operand} (hy : y ∈ l) {u : V} (hu : ρv y = some u) (e : Sh) : elemsAs e H' u = elemsAs e H u := by
  simp only [elemsAs, agree_elems hA hy hu]

theorem partEl_cong {l : List Operand} (hA : Agree l ρv ρv' H H') {y : Operand} (hy : y ∈ l) (e : Sh) : partEl e ρv' H' y = partEl e ρv H y := by
  unfold partEl
  rw [hA.1 y hy]
  cases hu : ρv y with
  | none => rfl
  | some u =>
    simp only
    split
    · rfl
    · cases e with
      | sl e' => exact agree_elemsAs hA hy hu e'
      | _ => rfl

theorem partEl_def {e : Sh} {y : Operand} {x : e.den} (h : partEl e ρv H y = some x) : ρv y ≠ some .undef := by
  intro hu
  simp only [partEl, hu, cellsOf] at h
  cases e <;> simp [elemsAs, elems] at h

theorem listFill_cong {l : List Operand} (hA : Agree l ρv ρv' H H') (e : Sh) : ∀ (ps : List (Nat × Operand)) (xs : List e.den), (∀ y ∈ ps.map (·.2), y ∈ l) → listFill e ρv' H' xs ps = listFill e ρv H xs ps
  | [], _, _ => rfl
  | (j, x) :: r, xs, h => by
    have h1 := partEl_cong hA (h x (by simp)) e
    have h2 : ∀ xs, listFill e ρv' H' xs r = listFill e ρv H xs r := fun xs => listFill_cong hA e r xs fun y hy => h y (by simp only [List.map_cons, List.mem_cons]; exact .inr hy)
    simp only [listFill, h1, h2]

theorem listFill_def {e : Sh} : ∀ {ps : List (Nat × Operand)} {xs xs' : List e.den}, listFill e ρv H xs ps = some xs' → ∀ y ∈ ps.map (·.2), ρv y ≠ some .undef
  | [], _, _, _, y, hy => by simp at hy
  | (j, x) :: r, xs, xs', h, y, hy => by
    simp only [listFill] at h
    split at h
    · rename_i z h1
      obtain ⟨hd, h⟩ := cond_some h rfl
      simp only [List.map_cons, List.mem_cons] at hy
      rcases hy with rfl | hy
      · exact partEl_def h1
      · exact listFill_def h y hy
    · cases h

theorem F_buildSlice {t : TypeId} {n : Nat} {ps : Array (Nat × Operand)} (ho : o.op = .buildSlice t n ps) (h : evalP E o ρv H ρ K = some r) : Footed E o ρv H K r := by
  have hops : o.op.operands.toList = ps.toList.map (·.2) := by simp [ho, Op.operands]
  simp only [evalP, ho] at h
  split at h
  · rename_i e hs
    cases hlit : memN t E.T.lits with
    | true =>
      rw [hlit] at h
      simp only [cond_true] at h
      obtain ⟨ha, h⟩ := cond_some h rfl
      split at h
      · rename_i xs hp
        refine ⟨_, _, h, ?_, fun k hk => (by cases hk), fun p hp => (by simp at hp), ?_⟩
        · exact dfdl hops (listFill_def hp)
        · intro ρv' H' hA
          have hc := listFill_cong hA e ps.toList (List.replicate n (zero e)) (by rw [hops]; exact fun y hy => hy)
          have hk : partKeys ρv' ps.toList = partKeys ρv ps.toList := by
            have : ∀ (qs : List (Nat × Operand)), (∀ q ∈ qs, q.2 ∈ o.op.operands.toList) → partKeys ρv' qs = partKeys ρv qs := by
              intro qs
              induction qs with
              | nil => intro _; rfl
              | cons q qs ih =>
                intro hq
                simp only [partKeys, opKey]
                rw [hA.1 q.2 (hq q (by simp)), ih fun p hp => hq p (by simp [hp])]
            exact this _ fun q hq => by rw [hops]; exact List.mem_map.2 ⟨q, hq, rfl⟩
          simp only [evalP, ho, hs, hlit, hk, ha, cond_true, hc, hp]
          rfl
      · cases h
    | false =>
    rw [hlit] at h
    simp only [cond_false] at h
    obtain ⟨ha, h⟩ := cond_some h rfl
    split at h
    · rename_i xs hp
      refine footn h (fun k hk => refs_own hk) (dfdl hops (listFill_def hp)) ?_
      intro ρv' H' hA
      have hc := listFill_cong hA e ps.toList (List.replicate n (zero e)) (by rw [hops]; exact fun y hy => hy)
      simp only [evalP, ho, hs, hlit, cond_false, ha, cond_true, hc, hp]
      rfl
    · cases h
  · cases h

theorem F_load {t : TypeId} {y : Operand} (ho : o.op = .load t y) (h : evalP E o ρv H ρ K = some r) : Footed E o ρv H K r := by
  have hops : o.op.operands.toList = [y] := by simp [ho, Op.operands]
  have hm : y ∈ o.op.operands.toList := by rw [hops]; simp
  simp only [evalP, ho] at h
  split at h
  · rename_i s k off h1 h2
    split at h
    · rename_i cs hH
      obtain ⟨hd, h⟩ := cond_some h rfl
      split at h
      · rename_i v hv
        refine foot0 h (fun k => refs_mkV hv) (dfd1 hops h2 rfl) ?_
        intro ρv' H' hA
        simp only [evalP, ho, hA.1 y hm, h1, h2, hA.2 y hm _ h2 k (ptr_refs k off), hH, hd, cond_true, hv]
        rfl
      · cases h
    · cases h
  · rename_i s cs h1 h2
    obtain ⟨hd, h⟩ := cond_some h rfl
    split at h
    · rename_i v hv
      refine foot0 h (fun k => refs_mkV hv) (dfd1 hops h2 rfl) ?_
      intro ρv' H' hA
      simp only [evalP, ho, hA.1 y hm, h1, h2, hd, cond_true, hv]
      rfl
    · cases h
  · rename_i s k win i off h1 h2
    split at h
    · rename_i e xs n hH
      obtain ⟨hd, h⟩ := cond_some h rfl
      obtain ⟨z, hz, h⟩ := Option.bind_eq_some_iff.1 h
      split at h
      · rename_i v hv
        refine foot0 h (fun k => refs_mkV hv) (dfd1 hops h2 rfl) ?_
        intro ρv' H' hA
        simp only [evalP, ho, hA.1 y hm, h1, h2, hA.2 y hm _ h2 k (eptr_refs k win i off), hH, hd, cond_true, hz, Option.bind_some, hv]
        rfl
      · cases h
    · cases h
  · rename_i s k off n e i h1 h2
    split at h
    · rename_i kk cs hH
      obtain ⟨hd, h⟩ := cond_some h rfl
      split at h
      · rename_i ns hn
        obtain ⟨z, hz, h⟩ := Option.bind_eq_some_iff.1 h
        refine foot0 h (fun k => rfl) (dfd1 hops h2 rfl) ?_
        intro ρv' H' hA
        simp only [evalP, ho, hA.1 y hm, h1, h2, hA.2 y hm _ h2 k (aptr_refs k off n _ i), hH, hd, cond_true, hn, hz, Option.bind_some]
        rfl
      · cases h
    · cases h
  · cases h

theorem intBin_some {op : BinOp} {k : IntKind} {x y : Int} {K1 : Int → Option ρ} (h : intBin op k x y ρ K1 = some r) : ∃ n, K1 n = some r ∧ ∀ (ρ' : Type) (K' : Int → Option ρ'), intBin op k x y ρ' K' = K' n := by
  cases op
  case quo =>
    simp only [intBin] at h
    obtain ⟨h0, h⟩ := cond_none h rfl
    exact ⟨_, h, fun ρ' K' => by simp only [intBin, h0, cond_false]⟩
  case rem =>
    simp only [intBin] at h
    obtain ⟨h0, h⟩ := cond_none h rfl
    exact ⟨_, h, fun ρ' K' => by simp only [intBin, h0, cond_false]⟩
  case shl =>
    simp only [intBin] at h
    obtain ⟨h0, h⟩ := cond_none h rfl
    exact ⟨_, h, fun ρ' K' => by simp only [intBin, h0, cond_false]⟩
  case shr =>
    simp only [intBin] at h
    obtain ⟨h0, h⟩ := cond_none h rfl
    exact ⟨_, h, fun ρ' K' => by simp only [intBin, h0, cond_false]⟩
  all_goals first | exact ⟨_, h, fun ρ' K' => rfl⟩ | cases h

theorem isNil_undef {y : Operand} (hn : isNil y = true) : ∀ t, y ≠ .tmp t := by
  intro t e
  subst e
  cases hn

theorem F_binOp {op : BinOp} {t t' : TypeId} {y z : Operand} (ho : o.op = .binOp op t y z t') (h : evalP E o ρv H ρ K = some r) : Footed E o ρv H K r := by
  have hops : o.op.operands.toList = [y, z] := by simp [ho, Op.operands]
  have hm : y ∈ o.op.operands.toList := by rw [hops]; simp
  have hm2 : z ∈ o.op.operands.toList := by rw [hops]; simp
  simp only [evalP, ho, binop] at h
  have cong : ∀ {v : V}, (∀ ρv' H', Agree o.op.operands.toList ρv ρv' H H' → binop E.T op t y z ρv' H' _ (fun v => K0 v []) = some (v, [])) → ∀ ρv' H', Agree o.op.operands.toList ρv ρv' H H' → evalP E o ρv' H' _ K0 = some (v, []) := by
    intro v hc ρv' H' hA
    simp only [evalP, ho]
    exact hc ρv' H' hA
  split at h
  · rename_i k a h1
    split at h
    · rename_i k' b h2
      have hd := dfdl (ρv := ρv) hops (by simp [h1, h2])
      cases hs : isShift op with
      | true =>
        rw [hs] at h
        simp only [cond_true] at h
        obtain ⟨n, h, hn⟩ := intBin_some h
        refine foot0 h (fun k => rfl) hd (cong ?_)
        intro ρv' H' hA
        simp only [binop, hA.1 y hm, hA.1 z hm2, h1, h2, hs, cond_true, hn]
        rfl
      | false =>
        rw [hs] at h
        simp only [cond_false] at h
        split at h
        · rename_i hk
          split at h
          · rename_i c hc
            refine foot0 h (fun k => rfl) hd (cong ?_)
            intro ρv' H' hA
            simp only [binop, hA.1 y hm, hA.1 z hm2, h1, h2, hs, cond_false, if_pos hk, hc]
            rfl
          · rename_i hc
            obtain ⟨n, h, hn⟩ := intBin_some h
            refine foot0 h (fun k => rfl) hd (cong ?_)
            intro ρv' H' hA
            simp only [binop, hA.1 y hm, hA.1 z hm2, h1, h2, hs, cond_false, if_pos hk, hc, hn]
            rfl
        · cases h
    · cases h
  · rename_i a h1
    split at h
    · rename_i b h2
      have hd := dfdl (ρv := ρv) hops (by simp [h1, h2])
      split at h
      · rename_i hs
        split at h
        all_goals first | (cases h; done) | skip
        all_goals
          refine foot0 h (fun k => rfl) hd (cong ?_)
          intro ρv' H' hA
          simp only [binop, hA.1 y hm, hA.1 z hm2, h1, h2, hs]
          rfl
      · cases h
    · cases h
  · rename_i cs h1
    split at h
    · rename_i cs' h2
      have hd := dfdl (ρv := ρv) hops (by simp [h1, h2])
      split at h
      · rename_i b hb
        split at h
        all_goals first | (cases h; done) | skip
        all_goals
          refine foot0 h (fun k => rfl) hd (cong ?_)
          intro ρv' H' hA
          simp only [binop, hA.1 y hm, hA.1 z hm2, h1, h2, hb]
          rfl
      · cases h
    · cases h
  · rename_i k tt h1
    obtain ⟨hn, h⟩ := cond_some h rfl
    have hd : ∀ t, Operand.tmp t ∈ o.op.operands.toList → ρv (.tmp t) ≠ some .undef := by
      rw [hops]
      intro t ht
      simp only [List.mem_cons, List.not_mem_nil, or_false] at ht
      rcases ht with rfl | rfl
      · simp [h1]
      · exact absurd rfl (isNil_undef hn t)
    split at h
    · rename_i e xs hs hH
      split at h
      all_goals first | (cases h; done) | skip
      all_goals
        refine foot0 h (fun k => rfl) hd (cong ?_)
        intro ρv' H' hA
        simp only [binop, hA.1 y hm, h1, hn, cond_true, hA.2 y hm _ h1 k (own_refs k _ _), hs, hH]
        rfl
    · cases h
  · rename_i e xs tt h1
    obtain ⟨hn, h⟩ := cond_some h rfl
    have hn' := hn
    rw [Bool.and_eq_true] at hn'
    have hd : ∀ t, Operand.tmp t ∈ o.op.operands.toList → ρv (.tmp t) ≠ some .undef := by
      rw [hops]
      intro t ht
      simp only [List.mem_cons, List.not_mem_nil, or_false] at ht
      rcases ht with rfl | rfl
      · simp [h1]
      · exact absurd rfl (isNil_undef hn'.1 t)
    split at h
    · rename_i e' hs
      split at h
      all_goals first | (cases h; done) | skip
      all_goals
        refine foot0 h (fun k => rfl) hd (cong ?_)
        intro ρv' H' hA
        simp only [binop, hA.1 y hm, h1, hn, cond_true, hs]
        rfl
    · cases h
  · cases h

theorem F_unOp {op : UnOp} {t : TypeId} {y : Operand} (ho : o.op = .unOp op t y) (h : evalP E o ρv H ρ K = some r) : Footed E o ρv H K r := by
  have hops : o.op.operands.toList = [y] := by simp [ho, Op.operands]
  have hm : y ∈ o.op.operands.toList := by rw [hops]; simp
  simp only [evalP, ho] at h
  split at h
  · rename_i k n h1
    refine foot0 h (fun k => rfl) (dfd1 hops h1 rfl) ?_
    intro ρv' H' hA
    simp only [evalP, ho, hA.1 y hm, h1]
    rfl
  · rename_i b h1
    refine foot0 h (fun k => rfl) (dfd1 hops h1 rfl) ?_
    intro ρv' H' hA
    simp only [evalP, ho, hA.1 y hm, h1]
    rfl
  · cases h

theorem F_convert {s t : TypeId} {y : Operand} (ho : o.op = .convert s t y) (h : evalP E o ρv H ρ K = some r) : Footed E o ρv H K r := by
  have hops : o.op.operands.toList = [y] := by simp [ho, Op.operands]
  have hm : y ∈ o.op.operands.toList := by rw [hops]; simp
  simp only [evalP, ho] at h
  split at h
  · rename_i k' n k s' h1 h2 h3
    refine foot0 h (fun k => rfl) (dfd1 hops h1 rfl) ?_
    intro ρv' H' hA
    simp only [evalP, ho, hA.1 y hm, h1, h2, h3]
    rfl
  · cases h

theorem refsAny_mem {k : Nat} : ∀ {vs : List V} {v : V}, v ∈ vs → refs1 k v = true → refsAny k vs = true
  | [], _, h, _ => by simp at h
  | x :: r, v, h, hr => by
    simp only [refsAny, Bool.or_eq_true]
    rcases List.mem_cons.1 h with rfl | h
    · exact .inl hr
    · exact .inr (refsAny_mem h hr)


theorem F_extract {y : Operand} {j : Nat} (ho : o.op = .extract y j) (h : evalP E o ρv H ρ K = some r) : Footed E o ρv H K r := by
  have hops : o.op.operands.toList = [y] := by simp [ho, Op.operands]
  have hm : y ∈ o.op.operands.toList := by rw [hops]; simp
  simp only [evalP, ho] at h
  split at h
  · rename_i vs h1
    split at h
    · rename_i v h2
      obtain ⟨hf, h⟩ := cond_some h rfl
      refine foot1 h hm h1 (fun k hk => ?_) (dfd1 hops h1 rfl) ?_
      · refine refsAny_mem (v := v) (List.mem_of_getElem? h2) ?_
        cases v <;> first | exact hk | cases hf
      · intro ρv' H' hA
        simp only [evalP, ho, hA.1 y hm, h1, h2, hf, cond_true]
        rfl
    · cases h
  · cases h

theorem F_fieldAddr {s : TypeId} {y : Operand} {f : Nat} (ho : o.op = .fieldAddr s y f) (h : evalP E o ρv H ρ K = some r) : Footed E o ρv H K r := by
  have hops : o.op.operands.toList = [y] := by simp [ho, Op.operands]
  have hm : y ∈ o.op.operands.toList := by rw [hops]; simp
  simp only [evalP, ho] at h
  split at h
  · rename_i d k off h1 h2
    refine foot1 h hm h2 (fun k hk => hk) (dfd1 hops h2 rfl) ?_
    intro ρv' H' hA
    simp only [evalP, ho, hA.1 y hm, h1, h2]
    rfl
  · rename_i d k win i off h1 h2
    refine foot1 h hm h2 (fun k hk => hk) (dfd1 hops h2 rfl) ?_
    intro ρv' H' hA
    simp only [evalP, ho, hA.1 y hm, h1, h2]
    rfl
  · rename_i d cs h1 h2
    obtain ⟨hd, h⟩ := cond_some h rfl
    refine foot0 h (fun k => rfl) (dfd1 hops h2 rfl) ?_
    intro ρv' H' hA
    simp only [evalP, ho, hA.1 y hm, h1, h2, hd, cond_true]
    rfl
  · cases h

theorem F_field {s : TypeId} {y : Operand} {f : Nat} (ho : o.op = .field s y f) (h : evalP E o ρv H ρ K = some r) : Footed E o ρv H K r := by
  have hops : o.op.operands.toList = [y] := by simp [ho, Op.operands]
  have hm : y ∈ o.op.operands.toList := by rw [hops]; simp
  simp only [evalP, ho] at h
  split at h
  · rename_i fs cs h1 h2
    split at h
    · rename_i e h3
      obtain ⟨hd, h⟩ := cond_some h rfl
      split at h
      · rename_i v hv
        refine foot0 h (fun k => refs_mkV hv) (dfd1 hops h2 rfl) ?_
        intro ρv' H' hA
        simp only [evalP, ho, hA.1 y hm, h1, h2, h3, hd, cond_true, hv]
        rfl
      · cases h
    · cases h
  · cases h

theorem F_indexAddr {t : TypeId} {y z : Operand} (ho : o.op = .indexAddr t y z) (h : evalP E o ρv H ρ K = some r) : Footed E o ρv H K r := by
  have hops : o.op.operands.toList = [y, z] := by simp [ho, Op.operands]
  have hm : y ∈ o.op.operands.toList := by rw [hops]; simp
  have hm2 : z ∈ o.op.operands.toList := by rw [hops]; simp
  simp only [evalP, ho] at h
  split at h
  · rename_i k win tt kk n h1 h2
    split at h
    · rename_i e xs n' e' hH hs
      obtain ⟨hd, h⟩ := cond_some h rfl
      refine foot1 h hm h1 (fun k hk => hk) (dfdl hops (by simp [h1, h2])) ?_
      intro ρv' H' hA
      simp only [evalP, ho, hA.1 y hm, hA.1 z hm2, h1, h2, hA.2 y hm _ h1 k (own_refs k _ _), hH, hs, hd, cond_true]
      rfl
    · cases h
  · rename_i e xs tt kk n h1 h2
    split at h
    · rename_i e' hs
      obtain ⟨hd, h⟩ := cond_some h rfl
      obtain ⟨x, hx, h⟩ := Option.bind_eq_some_iff.1 h
      refine foot0 h (fun k => rfl) (dfdl hops (by simp [h1, h2])) ?_
      intro ρv' H' hA
      simp only [evalP, ho, hA.1 y hm, hA.1 z hm2, h1, h2, hs, hd, cond_true, hx, Option.bind_some]
      rfl
    · cases h
  · rename_i k off kk n h1 h2
    split at h
    · rename_i len e hs
      obtain ⟨hd, h⟩ := cond_some h rfl
      refine foot1 h hm h1 (fun k hk => hk) (dfdl hops (by simp [h1, h2])) ?_
      intro ρv' H' hA
      simp only [evalP, ho, hA.1 y hm, hA.1 z hm2, h1, h2, hs, hd, cond_true]
      rfl
    · cases h
  · cases h

theorem F_index {t : TypeId} {y z : Operand} (ho : o.op = .index t y z) (h : evalP E o ρv H ρ K = some r) : Footed E o ρv H K r := by
  have hops : o.op.operands.toList = [y, z] := by simp [ho, Op.operands]
  have hm : y ∈ o.op.operands.toList := by rw [hops]; simp
  have hm2 : z ∈ o.op.operands.toList := by rw [hops]; simp
  simp only [evalP, ho] at h
  split at h
  · rename_i len kk cs k n h1 h2 h3
    obtain ⟨hd, h⟩ := cond_some h rfl
    split at h
    · rename_i ns hn
      obtain ⟨x, hx, h⟩ := Option.bind_eq_some_iff.1 h
      refine foot0 h (fun k => rfl) (dfdl hops (by simp [h2, h3])) ?_
      intro ρv' H' hA
      simp only [evalP, ho, hA.1 y hm, hA.1 z hm2, h1, h2, h3, hd, cond_true, hn, hx, Option.bind_some]
      rfl
    · cases h
  · cases h

theorem optI_cong {l : List Operand} (hA : Agree l ρv ρv' H H') {x : Option Operand} (hx : ∀ y, x = some y → y ∈ l) : optI ρv' x = optI ρv x := by
  cases x with
  | none => rfl
  | some y => simp only [optI, hA.1 y (hx y rfl)]

theorem optI_def {x : Option Operand} {n : Option Int} (h : optI ρv x = some n) : ∀ y, x = some y → ρv y ≠ some .undef := by
  intro y hy hu
  subst hy
  simp [optI, hu] at h

theorem F_slice {t : TypeId} {y : Operand} {lo hi mx : Option Operand} (ho : o.op = .slice t y lo hi mx) (h : evalP E o ρv H ρ K = some r) : Footed E o ρv H K r := by
  have hops : o.op.operands.toList = y :: (lo.toList ++ hi.toList ++ mx.toList) := by simp [ho, Op.operands]
  have hm : y ∈ o.op.operands.toList := by rw [hops]; simp
  have hlo : ∀ z, lo = some z → z ∈ o.op.operands.toList := by rw [hops]; intro z hz; simp [hz]
  have hhi : ∀ z, hi = some z → z ∈ o.op.operands.toList := by rw [hops]; intro z hz; simp [hz]
  have hmx : ∀ z, mx = some z → z ∈ o.op.operands.toList := by rw [hops]; intro z hz; simp [hz]
  simp only [evalP, ho] at h
  split at h
  · rename_i lo' hi' mx' e' g1 g2 g3 hs
    have hd0 : ρv y ≠ some .undef → ∀ t, Operand.tmp t ∈ o.op.operands.toList → ρv (.tmp t) ≠ some .undef := by
      intro hy t ht
      rw [hops] at ht
      simp only [List.mem_cons, List.mem_append, Option.mem_toList] at ht
      rcases ht with rfl | (ht | ht) | ht
      · exact hy
      · exact optI_def g1 _ ht
      · exact optI_def g2 _ ht
      · exact optI_def g3 _ ht
    split at h
    · rename_i k win tight h1
      split at h
      · rename_i e xs n hH
        obtain ⟨hd, h⟩ := cond_some h rfl
        refine foot1 h hm h1 (fun k hk => hk) (hd0 (by simp [h1])) ?_
        intro ρv' H' hA
        simp only [evalP, ho, hA.1 y hm, optI_cong hA hlo, optI_cong hA hhi, optI_cong hA hmx, g1, g2, g3, hs, h1, hA.2 y hm _ h1 k (own_refs k _ _), hH, hd, cond_true]
        rfl
      · cases h
    · rename_i e xs tight h1
      obtain ⟨hd, h⟩ := cond_some h rfl
      refine foot0 h (fun k => rfl) (hd0 (by simp [h1])) ?_
      intro ρv' H' hA
      simp only [evalP, ho, hA.1 y hm, optI_cong hA hlo, optI_cong hA hhi, optI_cong hA hmx, g1, g2, g3, hs, h1, hd, cond_true]
      rfl
    · cases h
  · cases h

theorem F_makeSlice {t : TypeId} {y z : Operand} (ho : o.op = .makeSlice t y z) (h : evalP E o ρv H ρ K = some r) : Footed E o ρv H K r := by
  have hops : o.op.operands.toList = [y, z] := by simp [ho, Op.operands]
  have hm : y ∈ o.op.operands.toList := by rw [hops]; simp
  have hm2 : z ∈ o.op.operands.toList := by rw [hops]; simp
  simp only [evalP, ho] at h
  split at h
  · rename_i e n m hs h1 h2
    obtain ⟨hd, h⟩ := cond_some h rfl
    refine footn h (fun k hk => refs_own hk) (dfdl hops (by simp [h1, h2])) ?_
    intro ρv' H' hA
    simp only [evalP, ho, hA.1 y hm, hA.1 z hm2, hs, h1, h2, hd, cond_true]
    rfl
  · cases h

theorem opVs_cong {l : List Operand} (hA : Agree l ρv ρv' H H') : ∀ (ys : List Operand), (∀ y ∈ ys, y ∈ l) → opVs ρv' ys = opVs ρv ys
  | [], _ => rfl
  | y :: ys, h => by simp only [opVs, hA.1 y (h y (by simp)), opVs_cong hA ys fun z hz => h z (by simp [hz])]

theorem opVs_mem : ∀ {ys : List Operand} {vs : List V}, opVs ρv ys = some vs → (∀ y ∈ ys, ∃ v ∈ vs, ρv y = some v) ∧ ∀ v ∈ vs, ∃ y ∈ ys, ρv y = some v
  | [], vs, h => by cases h; simp
  | y :: ys, vs, h => by
    simp only [opVs] at h
    split at h
    · rename_i v vs' h1 h2
      cases h
      obtain ⟨i1, i2⟩ := opVs_mem h2
      refine ⟨fun z hz => ?_, fun u hu => ?_⟩
      · rcases List.mem_cons.1 hz with rfl | hz
        · exact ⟨v, by simp, h1⟩
        · obtain ⟨u, hu, hz⟩ := i1 z hz
          exact ⟨u, by simp [hu], hz⟩
      · rcases List.mem_cons.1 hu with rfl | hu
        · exact ⟨y, by simp, h1⟩
        · obtain ⟨z, hz, hu⟩ := i2 u hu
          exact ⟨z, by simp [hz], hu⟩
    · cases h

theorem refsAny_ex {k : Nat} : ∀ {vs : List V}, refsAny k vs = true → ∃ v ∈ vs, refs1 k v = true
  | [], h => by cases h
  | v :: vs, h => by
    simp only [refsAny, Bool.or_eq_true] at h
    rcases h with h | h
    · exact ⟨v, by simp, h⟩
    · obtain ⟨u, hu, h⟩ := refsAny_ex h
      exact ⟨u, by simp [hu], h⟩

theorem F_makeFunc {fn : Fn} {first caps : Array Operand} (ho : o.op = .makeFunc fn first caps) (h : evalP E o ρv H ρ K = some r) : Footed E o ρv H K r := by
  have hops : o.op.operands.toList = first.toList ++ caps.toList := by simp [ho, Op.operands]
  simp only [evalP, ho] at h
  split at h
  · rename_i f vs hf hv
    obtain ⟨hfl, h⟩ := cond_some h rfl
    rw [hf] at hops
    simp only [List.nil_append] at hops
    obtain ⟨i1, i2⟩ := opVs_mem hv
    refine ⟨_, _, h, ?_, ?_, by simp, ?_⟩
    · refine dfdl hops fun y hy hu => ?_
      obtain ⟨v, hv', he⟩ := i1 y hy
      rw [hu] at he
      cases he
      have := List.all_eq_true.1 hfl _ hv'
      cases this
    · intro k hk
      obtain ⟨v, hv', hr⟩ := refsAny_ex hk
      obtain ⟨y, hy, he⟩ := i2 v hv'
      refine .inl ⟨y, by rw [hops]; exact hy, v, he, ?_⟩
      have := List.all_eq_true.1 hfl _ hv'
      cases v <;> first | exact hr | cases this
    · intro ρv' H' hA
      rw [hops] at hA
      simp only [evalP, ho, hf, opVs_cong hA _ (fun y hy => hy), hv, hfl, cond_true]
      rfl
  · cases h

theorem F_lookup {t : TypeId} {y z : Operand} {ok : Bool} (ho : o.op = .lookup t y z ok) (h : evalP E o ρv H ρ K = some r) : Footed E o ρv H K r := by
  have hops : o.op.operands.toList = [y, z] := by simp [ho, Op.operands]
  have hm : y ∈ o.op.operands.toList := by rw [hops]; simp
  have hm2 : z ∈ o.op.operands.toList := by rw [hops]; simp
  simp only [evalP, ho] at h
  split at h
  · rename_i k kk n kk2 e2 h1 h2 h3
    split at h
    · rename_i kk' e m hH
      obtain ⟨hd, h⟩ := cond_some h rfl
      split at h
      · rename_i v hv
        refine foot0 h (fun k => ?_) (dfdl hops (by simp [h1, h2])) ?_
        · cases ok
          · exact refs_mkV hv
          · have := refs_mkV (k := k) hv
            simp only [cond_true, refs, refsAny, refs1, Bool.or_false]
            cases v <;> first | exact this | rfl
        · intro ρv' H' hA
          simp only [evalP, ho, hA.1 y hm, hA.1 z hm2, h1, h2, h3, hA.2 y hm _ h1 k (map_refs k), hH, hd, cond_true, hv]
          rfl
      · cases h
    · cases h
  · cases h

theorem call_ops {c : Call} {b : Builtin} (ho : o.op = .call c) (hc : c.callee = .builtin b) : o.op.operands.toList = c.args.toList := by
  simp [ho, Op.operands, Call.operands, hc]

theorem elems_def {u : V} {x : Σ e : Sh, List e.den} (h : elems H u = some x) : u.isUndef = false := by
  cases u <;> first | rfl | simp [elems] at h

theorem F_len {c : Call} (ho : o.op = .call c) (hc : c.callee = .builtin .len) (h : evalP E o ρv H ρ K = some r) : Footed E o ρv H K r := by
  have hops := call_ops ho hc
  simp only [evalP, ho, hc] at h
  split at h
  · rename_i x t ts hx ht
    rw [hx] at hops
    have hm : x ∈ o.op.operands.toList := by rw [hops]; simp
    split at h
    · rename_i s h1
      split at h
      · rename_i hs
        refine foot0 h (fun k => rfl) (dfd1 hops h1 rfl) ?_
        intro ρv' H' hA
        simp only [evalP, ho, hc, hx, ht, hA.1 x hm, h1, hs]
        rfl
      · cases h
    · rename_i k h1
      split at h
      · rename_i kk e m p hH hs
        refine foot0 h (fun k => rfl) (dfd1 hops h1 rfl) ?_
        intro ρv' H' hA
        simp only [evalP, ho, hc, hx, ht, hA.1 x hm, h1, hA.2 x hm _ h1 k (map_refs k), hH, hs]
        rfl
      · cases h
    · rename_i v n1 n2 h1
      split at h
      · rename_i e xs e' hH hs
        refine foot0 h (fun k => rfl) (dfd1 hops h1 (elems_def hH)) ?_
        intro ρv' H' hA
        have hE := agree_elems hA hm h1
        simp only [evalP, ho, hc, hx, ht, hA.1 x hm, h1]
        rw [hE, hH, hs]
        rfl
      · cases h
    · cases h
  · cases h

theorem F_cap {c : Call} (ho : o.op = .call c) (hc : c.callee = .builtin .cap) (h : evalP E o ρv H ρ K = some r) : Footed E o ρv H K r := by
  have hops := call_ops ho hc
  simp only [evalP, ho, hc] at h
  split at h
  · rename_i x t ts hx ht
    rw [hx] at hops
    have hm : x ∈ o.op.operands.toList := by rw [hops]; simp
    split at h
    · rename_i e xs e' h1 hs
      refine foot0 h (fun k => rfl) (dfd1 hops h1 rfl) ?_
      intro ρv' H' hA
      simp only [evalP, ho, hc, hx, ht, hA.1 x hm, h1, hs]
      rfl
    · cases h
  · cases h

theorem max2_def {k : IntKind} : ∀ {vs : List V} {x m : Int}, max2 k x vs = some m → ∀ v ∈ vs, v.isUndef = false
  | [], _, _, _, v, hv => by simp at hv
  | u :: vs, x, m, h, v, hv => by
    cases u with
    | c y =>
      cases y with
      | int k' y =>
        simp only [max2] at h
        split at h
        · rcases List.mem_cons.1 hv with rfl | hv
          · rfl
          · exact max2_def h v hv
        · cases h
      | _ => simp [max2] at h
    | _ => simp [max2] at h
theorem min2_def {k : IntKind} : ∀ {vs : List V} {x m : Int}, min2 k x vs = some m → ∀ v ∈ vs, v.isUndef = false
  | [], _, _, _, v, hv => by simp at hv
  | u :: vs, x, m, h, v, hv => by
    cases u with
    | c y =>
      cases y with
      | int k' y =>
        simp only [min2] at h
        split at h
        · rcases List.mem_cons.1 hv with rfl | hv
          · rfl
          · exact min2_def h v hv
        · cases h
      | _ => simp [min2] at h
    | _ => simp [min2] at h

theorem F_max {c : Call} (ho : o.op = .call c) (hc : c.callee = .builtin .max) (h : evalP E o ρv H ρ K = some r) : Footed E o ρv H K r := by
  have hops := call_ops ho hc
  simp only [evalP, ho, hc] at h
  split at h
  · rename_i k n vs h1
    split at h
    · rename_i m h2
      obtain ⟨i1, i2⟩ := opVs_mem h1
      refine foot0 h (fun k => rfl) (dfdl hops fun y hy hu => ?_) ?_
      · obtain ⟨v, hv, he⟩ := i1 y hy
        rw [hu] at he
        cases he
        rcases List.mem_cons.1 hv with hv | hv
        · cases hv
        · have := max2_def h2 _ hv
          cases this
      · intro ρv' H' hA
        rw [hops] at hA
        simp only [evalP, ho, hc, opVs_cong hA _ (fun y hy => hy), h1, h2]
        rfl
    · cases h
  · cases h

theorem F_min {c : Call} (ho : o.op = .call c) (hc : c.callee = .builtin .min) (h : evalP E o ρv H ρ K = some r) : Footed E o ρv H K r := by
  have hops := call_ops ho hc
  simp only [evalP, ho, hc] at h
  split at h
  · rename_i k n vs h1
    split at h
    · rename_i m h2
      obtain ⟨i1, i2⟩ := opVs_mem h1
      refine foot0 h (fun k => rfl) (dfdl hops fun y hy hu => ?_) ?_
      · obtain ⟨v, hv, he⟩ := i1 y hy
        rw [hu] at he
        cases he
        rcases List.mem_cons.1 hv with hv | hv
        · cases hv
        · have := min2_def h2 _ hv
          cases this
      · intro ρv' H' hA
        rw [hops] at hA
        simp only [evalP, ho, hc, opVs_cong hA _ (fun y hy => hy), h1, h2]
        rfl
    · cases h
  · cases h

theorem elemsAs_def {e : Sh} {u : V} {xs : List e.den} (h : elemsAs e H u = some xs) : u.isUndef = false := by
  cases u <;> first | rfl | simp [elemsAs, elems] at h

theorem F_append {c : Call} (ho : o.op = .call c) (hc : c.callee = .builtin .append) (h : evalP E o ρv H ρ K = some r) : Footed E o ρv H K r := by
  have hops := call_ops ho hc
  simp only [evalP, ho, hc] at h
  split at h
  · rename_i x y t tx hx ht
    rw [hx] at hops
    have hm : x ∈ o.op.operands.toList := by rw [hops]; simp
    have hm2 : y ∈ o.op.operands.toList := by rw [hops]; simp
    split at h
    · rename_i e e1 e2 ys2 hs1 hs2 hy
      obtain ⟨uy, hy1, hy2⟩ := Option.bind_eq_some_iff.1 hy
      have hyd := elems_def hy2
      have hdd : ∀ {v : V}, ρv x = some v → v.isUndef = false → ∀ t, Operand.tmp t ∈ o.op.operands.toList → ρv (.tmp t) ≠ some .undef := by
        intro v hv hvu
        refine dfdl hops ?_
        simp only [List.mem_cons, List.not_mem_nil, or_false, forall_eq_or_imp, forall_eq, hv, hy1]
        exact ⟨fun e => (by cases e; cases hvu), fun e => (by cases e; cases hyd)⟩
      have hyA : ∀ ρv' H', Agree o.op.operands.toList ρv ρv' H H' → ((ρv' y).bind fun w => elems H' w) = some ⟨e2, ys2⟩ := by
        intro ρv' H' hA
        rw [hA.1 y hm2, hy1, Option.bind_some, agree_elems hA hm2 hy1]
        exact hy2
      split at h
      · rename_i ys v hcs h1
        split at h
        · rename_i k win
          split at h
          · rename_i xs hxs
            obtain ⟨hd, h⟩ := cond_some h rfl
            refine footn h (fun k hk => refs_own hk) (hdd h1 rfl) ?_
            intro ρv' H' hA
            have h4 := agree_elemsAs hA hm h1 e
            rw [hxs] at h4
            simp only [evalP, ho, hc, hx, ht, hs1, hs2, hyA ρv' H' hA, hA.1 x hm, h1, hcs]
            simp only [h4, hd, cond_true]
            rfl
          · cases h
        · rename_i e' xs'
          split at h
          · rename_i xs hxs
            obtain ⟨hd, h⟩ := cond_some h rfl
            refine footn h (fun k hk => refs_own hk) (hdd h1 rfl) ?_
            intro ρv' H' hA
            simp only [evalP, ho, hc, hx, ht, hs1, hs2, hyA ρv' H' hA, hA.1 x hm, h1, hcs]
            simp only [hxs, hd, cond_true]
            rfl
          · cases h
        · cases h
      · cases h
    · cases h
  · cases h

theorem gnd1_cong {u : V} (h : ∀ k, refs1 k u = true → H' k = H k) : gnd1 H' u = gnd1 H u := by
  cases u with
  | own k win t => simp only [gnd1, h k (Nat.beq_refl k)]
  | ptr k off => simp only [gnd1, h k (Nat.beq_refl k)]
  | _ => rfl

theorem gnds_cong : ∀ (vs : List V), (∀ k, refsAny k vs = true → H' k = H k) → gnds H' vs = gnds H vs
  | [], _ => rfl
  | v :: vs, h => by
    have h1 : gnd1 H' v = gnd1 H v := gnd1_cong fun k hk => h k (by simp [refsAny, hk])
    have h2 : gnds H' vs = gnds H vs := gnds_cong vs fun k hk => h k (by simp [refsAny, hk])
    simp only [gnds, h1, h2]

theorem gnd_cong {u : V} (h : ∀ k, refs k u = true → H' k = H k) : gnd H' u = gnd H u := by
  cases u with
  | fn f caps => simp only [gnd, gnds_cong caps h]
  | tup vs => rfl
  | undef => rfl
  | c y => rfl
  | agg cs => rfl
  | ptr j off => exact gnd1_cong (u := .ptr j off) fun k hk => h k hk
  | own j w t => exact gnd1_cong (u := .own j w t) fun k hk => h k hk
  | _ => rfl

theorem argV_cong {l : List Operand} {T : Tab} {t : TypeId} {y : Operand} (hA : Agree l ρv ρv' H H') (hy : y ∈ l) : argV T ρv' H' t y = argV T ρv H t y := by
  unfold argV
  rw [hA.1 y hy]
  cases hu : ρv y with
  | none => rfl
  | some u => simp only [Option.bind_some, gnd_cong fun k hk => hA.2 y hy u hu k hk]

theorem argsV_cong {l : List Operand} {T : Tab} (hA : Agree l ρv ρv' H H') : ∀ (ts : List TypeId) (ys : List Operand), (∀ y ∈ ys, y ∈ l) → argsV T ρv' H' ts ys = argsV T ρv H ts ys
  | [], [], _ => rfl
  | t :: ts, y :: ys, h => by
    simp only [argsV, argV_cong hA (h y (by simp)), argsV_cong hA ts ys fun z hz => h z (by simp [hz])]
  | [], _ :: _, _ => rfl
  | _ :: _, [], _ => rfl

theorem argsV_def {T : Tab} : ∀ {ts : List TypeId} {ys : List Operand} {vs : List V}, argsV T ρv H ts ys = some vs → ∀ t, Operand.tmp t ∈ ys → ρv (.tmp t) ≠ some .undef
  | [], [], _, _, t, ht => by simp at ht
  | t' :: ts, y :: ys, vs, h, t, ht => by
    simp only [argsV] at h
    split at h
    · rename_i v vs' h1 h2
      rcases List.mem_cons.1 ht with rfl | ht
      · intro hu
        simp [argV, isNil, hu, gnd, gnd1] at h1
      · exact argsV_def h2 t ht
    · cases h
  | [], _ :: _, _, h, _, _ => by simp [argsV] at h
  | _ :: _, [], _, h, _, _ => by simp [argsV] at h

theorem retOs_keys : ∀ {key : Nat} {rs : List Ret1}, ∀ p ∈ retOs key rs, ∃ j, p.1 = key + 10000 * j
  | _, [], p, h => by simp [retOs] at h
  | key, r :: rs, p, h => by
    simp only [retOs, List.mem_append] at h
    rcases h with h | h
    · cases r <;> simp [retO] at h
      exact ⟨1, by rw [h]⟩
    · obtain ⟨j, hj⟩ := retOs_keys p h
      exact ⟨j + 1, by omega⟩

theorem retAll_keys {key : Nat} {ret : Ret} : ∀ p ∈ (retAll key ret).2, ∃ j, p.1 = key + 10000 * j := by
  intro p h
  match ret with
  | [r] =>
    simp only [retAll] at h
    cases r <;> simp [retO] at h
    exact ⟨0, by rw [h]; rfl⟩
  | [] => exact retOs_keys p h
  | r :: r' :: rs => exact retOs_keys p h

theorem retV_refs {key k : Nat} {r : Ret1} (h : refs1 k (retV key r) = true) : ∃ p ∈ retO key r, p.1 = k := by
  cases r with
  | fresh e xs n => exact ⟨_, List.mem_singleton.2 rfl, Nat.eq_of_beq_eq_true h⟩
  | val c => cases h
  | agg cs => cases h

theorem retVs_refs {k : Nat} : ∀ {key : Nat} {rs : List Ret1}, refsAny k (retVs key rs) = true → ∃ p ∈ retOs key rs, p.1 = k
  | _, [], h => by cases h
  | key, r :: rs, h => by
    simp only [retVs, refsAny, Bool.or_eq_true] at h
    simp only [retOs, List.mem_append]
    rcases h with h | h
    · obtain ⟨p, hp, he⟩ := retV_refs h
      exact ⟨p, .inl hp, he⟩
    · obtain ⟨p, hp, he⟩ := retVs_refs h
      exact ⟨p, .inr hp, he⟩

theorem retAll_refs {key k : Nat} {ret : Ret} (h : refs k (retAll key ret).1 = true) : ∃ p ∈ (retAll key ret).2, p.1 = k := by
  match ret with
  | [r] =>
    refine retV_refs (r := r) ?_
    simp only [retAll] at h
    cases r <;> exact h
  | [] => exact retVs_refs h
  | r :: r' :: rs => exact retVs_refs h

theorem F_call {c : Call} {g : FuncId} (hphi : PhiPar E.phi) (ho : o.op = .call c) (hc : c.callee = .value (.func g)) (h : evalP E o ρv H ρ K = some r) : Footed E o ρv H K r := by
  have hops : o.op.operands.toList = .func g :: c.args.toList := by simp [ho, Op.operands, Call.operands, hc]
  have hm : ∀ y ∈ c.args.toList, y ∈ o.op.operands.toList := by rw [hops]; intro y hy; simp only [List.mem_cons]; exact .inr hy
  simp only [evalP, ho, hc] at h
  cases hid : memN g E.T.idf with
  | true =>
    rw [hid] at h
    simp only [cond_true] at h
    split at h
    · rename_i y hy
      split at h
      · rename_i v hv
        obtain ⟨hu, h⟩ := cond_none h rfl
        refine foot1 h (hm y (by rw [hy]; simp)) hv (fun k hk => hk) ?_ ?_
        · rw [hops, hy]
          intro t ht e
          rcases List.mem_cons.1 ht with ht | ht
          · cases ht
          · rw [← List.mem_singleton.1 ht] at hv
            rw [hv] at e
            cases e
            cases hu
        · intro ρv' H' hA
          have hv' : ρv' y = some v := by rw [hA.1 y (hm y (by rw [hy]; simp)), hv]
          simp only [evalP, ho, hc, hid, cond_true, hy, hv', hu, cond_false]
          rfl
      · cases h
    · cases h
  | false =>
  rw [hid] at h
  simp only [cond_false] at h
  split at h
  · rename_i vs hvs
    obtain ⟨ret, h, hpar⟩ := hphi _ _ _ _ _ h
    obtain ⟨hb, h⟩ := cond_none h rfl
    refine ⟨_, _, h, ?_, fun k hk => .inr (retAll_refs hk), retAll_keys, ?_⟩
    · rw [hops]
      intro t ht
      rcases List.mem_cons.1 ht with ht | ht
      · cases ht
      · exact argsV_def hvs t ht
    · intro ρv' H' hA
      have hk : (c.args.toList.any fun x => !(opKey ρv' x).isEmpty) = c.args.toList.any fun x => !(opKey ρv x).isEmpty := by
        rw [Bool.eq_iff_iff]
        simp only [List.any_eq_true]
        constructor
        · rintro ⟨x, hx, h2⟩
          exact ⟨x, hx, by rwa [opKey, hA.1 x (hm x hx)] at h2⟩
        · rintro ⟨x, hx, h2⟩
          exact ⟨x, hx, by rwa [opKey, hA.1 x (hm x hx)]⟩
      simp only [evalP, ho, hc, hid, argsV_cong hA _ _ hm, hvs, hpar, hk, hb, cond_false]
      rfl
  · cases h

/-- Each operation that changes nothing looks at its operands alone. -/
theorem evalP_foot (hphi : PhiPar E.phi) (h : evalP E o ρv H ρ K = some r) : Footed E o ρv H K r := by
  cases ho : o.op with
  | move y => exact F_move (.inl ho) h
  | assign y => exact F_move (.inr ho) h
  | pick c y z => exact F_pick ho h
  | alloc t => exact F_alloc ho h
  | box t y => exact F_box ho h
  | build t ps => exact F_build ho h
  | buildSlice t n ps => exact F_buildSlice ho h
  | load t y => exact F_load ho h
  | binOp op t y z t' => exact F_binOp ho h
  | unOp op t y => exact F_unOp ho h
  | convert s t y => exact F_convert ho h
  | extract y j => exact F_extract ho h
  | fieldAddr s y f => exact F_fieldAddr ho h
  | field s y f => exact F_field ho h
  | indexAddr t y z => exact F_indexAddr ho h
  | index t y z => exact F_index ho h
  | slice t y lo hi' mx => exact F_slice ho h
  | makeSlice t l c => exact F_makeSlice ho h
  | makeFunc fn first caps => exact F_makeFunc ho h
  | makeMap t rs =>
    cases rs with
    | none => exact F_makeMap ho h
    | some y => simp only [evalP, ho] at h; cases h
  | lookup t y z ok => exact F_lookup ho h
  | call c =>
    cases hc : c.callee with
    | builtin b =>
      cases b with
      | len => exact F_len ho hc h
      | cap => exact F_cap ho hc h
      | max => exact F_max ho hc h
      | min => exact F_min ho hc h
      | append => exact F_append ho hc h
      | _ => simp only [evalP, ho, hc] at h; cases h
    | value f =>
      cases f with
      | func g => exact F_call hphi ho hc h
      | _ => simp only [evalP, ho, hc] at h; cases h
    | invoke rv m => simp only [evalP, ho, hc] at h; cases h
  | _ => simp only [evalP, ho] at h; cases h

end
end Go.Vi
