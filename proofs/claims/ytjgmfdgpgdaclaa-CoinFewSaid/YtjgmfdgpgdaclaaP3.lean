/- Texts of this claim, joined: ViF to ViM. -/
import Derived.Orders
import Derived.Scope
import Derived.Tactics
import Derived.Test.YtjgmfdgpgdaclaaP2
/-
  Vi: what an operation that changes nothing looks at: its operands and what they name, and no more.
-/
set_option linter.unusedVariables false
set_option linter.unusedSimpArgs false
namespace Go.Vi
open Op

def PhiPar (phi : Phi) : Prop :=
  ∀ g vs (ρ : Type) (K : Ret → Option ρ) r, phi g vs ρ K = some r → ∃ ret, K ret = some r ∧ ∀ (ρ' : Type) (K' : Ret → Option ρ'), phi g vs ρ' K' = K' ret

def Agree (l : List Operand) (ρv ρv' : Val) (H H' : Heap) : Prop :=
  (∀ y ∈ l, ρv' y = ρv y) ∧ ∀ y ∈ l, ∀ u, ρv y = some u → ∀ k, refs k u = true → H' k = H k

def K0 : V → List (Nat × O) → Option (V × List (Nat × O)) := fun v obs => some (v, obs)

def isKey (o : Oper) (k : Nat) : Prop := ∃ j, k = dstKey o.dst + 10000 * j

structure Foot (E : Env) (o : Oper) (ρv : Val) (H : Heap) (v : V) (obs : List (Nat × O)) : Prop where
  dfd : ∀ t, Operand.tmp t ∈ o.op.operands.toList → ρv (.tmp t) ≠ some .undef
  prov : ∀ k, refs k v = true → (∃ y ∈ o.op.operands.toList, ∃ u, ρv y = some u ∧ refs k u = true) ∨ ∃ p ∈ obs, p.1 = k
  keys : ∀ p ∈ obs, isKey o p.1
  cong : ∀ ρv' H', Agree o.op.operands.toList ρv ρv' H H' → evalP E o ρv' H' _ K0 = some (v, obs)

section
variable {E : Env} {o : Oper} {ρv ρv' : Val} {H H' : Heap} {ρ : Type} {K : V → List (Nat × O) → Option ρ} {r : ρ}

theorem Foot.self {v : V} {obs : List (Nat × O)} (h : Foot E o ρv H v obs) : evalP E o ρv H _ K0 = some (v, obs) :=
  h.cong ρv H ⟨fun _ _ => rfl, fun _ _ _ _ _ _ => rfl⟩

def Footed (E : Env) (o : Oper) (ρv : Val) (H : Heap) {ρ : Type} (K : V → List (Nat × O) → Option ρ) (r : ρ) : Prop :=
  ∃ v obs, K v obs = some r ∧ Foot E o ρv H v obs

theorem key0 {k : Nat} (h : k = dstKey o.dst) : isKey o k := ⟨0, by omega⟩

/-- A value that names nothing. -/
theorem foot0 {v : V} (hK : K v [] = some r) (hv : ∀ k, refs k v = false) (hd : ∀ t, Operand.tmp t ∈ o.op.operands.toList → ρv (.tmp t) ≠ some .undef)
    (hc : ∀ ρv' H', Agree o.op.operands.toList ρv ρv' H H' → evalP E o ρv' H' _ K0 = some (v, [])) : Footed E o ρv H K r :=
  ⟨v, [], hK, hd, fun k hk => (by rw [hv] at hk; cases hk), by simp, hc⟩

/-- A value that names what an operand names. -/
theorem foot1 {v : V} {y : Operand} {u : V} (hK : K v [] = some r) (hy : y ∈ o.op.operands.toList) (hu : ρv y = some u) (hv : ∀ k, refs k v = true → refs k u = true) (hd : ∀ t, Operand.tmp t ∈ o.op.operands.toList → ρv (.tmp t) ≠ some .undef)
    (hc : ∀ ρv' H', Agree o.op.operands.toList ρv ρv' H H' → evalP E o ρv' H' _ K0 = some (v, [])) : Footed E o ρv H K r :=
  ⟨v, [], hK, hd, fun k hk => .inl ⟨y, hy, u, hu, hv k hk⟩, by simp, hc⟩

/-- A new thing. -/
theorem footn {v : V} {ob : O} (hK : K v [(dstKey o.dst, ob)] = some r) (hv : ∀ k, refs k v = true → k = dstKey o.dst) (hd : ∀ t, Operand.tmp t ∈ o.op.operands.toList → ρv (.tmp t) ≠ some .undef)
    (hc : ∀ ρv' H', Agree o.op.operands.toList ρv ρv' H H' → evalP E o ρv' H' _ K0 = some (v, [(dstKey o.dst, ob)])) : Footed E o ρv H K r :=
  ⟨v, [(dstKey o.dst, ob)], hK, hd, fun k hk => .inr ⟨_, List.mem_singleton.2 rfl, (hv k hk).symm⟩, fun p hp => (by
    rw [List.mem_singleton.1 hp]
    exact key0 rfl), hc⟩

theorem refs_own {k j : Nat} {w : Option (Nat × Nat)} {t : Bool} (h : refs k (.own j w t) = true) : k = j := (Nat.eq_of_beq_eq_true h).symm
theorem refs_ptr {k j off : Nat} (h : refs k (.ptr j off) = true) : k = j := (Nat.eq_of_beq_eq_true h).symm
theorem refs_map {k j : Nat} (h : refs k (.map j) = true) : k = j := (Nat.eq_of_beq_eq_true h).symm
theorem own_refs (k : Nat) (w : Option (Nat × Nat)) (t : Bool) : refs k (.own k w t) = true := Nat.beq_refl k
theorem ptr_refs (k off : Nat) : refs k (.ptr k off) = true := Nat.beq_refl k
theorem map_refs (k : Nat) : refs k (.map k) = true := Nat.beq_refl k
theorem eptr_refs (k : Nat) (w : Option (Nat × Nat)) (i : Int) (off : Nat) : refs k (.eptr k w i off) = true := Nat.beq_refl k
theorem aptr_refs (k off n : Nat) (e : Sh) (i : Int) : refs k (.aptr k off n e i) = true := Nat.beq_refl k

theorem refs_mkV {k : Nat} {s : Sh} {cs : List C} {v : V} (h : mkV s cs = some v) : refs k v = false := by
  unfold mkV at h
  cases hs : s.agg with
  | true => rw [hs] at h; cases h; rfl
  | false =>
    rw [hs] at h
    simp only [cond_false] at h
    split at h
    · cases h; rfl
    · cases h

theorem F_move {y : Operand} (ho : o.op = .move y ∨ o.op = .assign y) (h : evalP E o ρv H ρ K = some r) : Footed E o ρv H K r := by
  have hops : o.op.operands.toList = [y] := by rcases ho with ho | ho <;> simp [ho, Op.operands]
  cases hn : isNil y with
  | true =>
    have hy := isNil_eq hn
    have hd : ∀ t, Operand.tmp t ∈ o.op.operands.toList → ρv (.tmp t) ≠ some .undef := by rw [hops, hy]; simp
    rcases ho with ho | ho
    all_goals
      simp only [evalP, ho, hn, cond_true] at h
      split at h
      · rename_i e he
        refine footn h (fun k hk => refs_own hk) hd ?_
        intro ρv' H' hA
        simp only [evalP, ho, hn, cond_true, he]
        rfl
      · cases h
  | false =>
    rcases ho with ho | ho
    all_goals
      simp only [evalP, ho, hn, cond_false] at h
      split at h
      · rename_i v hv
        obtain ⟨hu, h⟩ := cond_none h rfl
        refine foot1 h (by rw [hops]; simp) hv (fun k hk => hk) ?_ ?_
        · rw [hops]
          intro t ht e
          rw [← List.mem_singleton.1 ht] at hv
          rw [hv] at e
          cases e
          cases hu
        · intro ρv' H' hA
          rw [hops] at hA
          simp only [evalP, ho, hn, cond_false, hA.1 y (by simp), hv, hu]
          rfl
      · cases h

/-- The operands that are looked at are there. -/
theorem dfd1 {y : Operand} {v : V} (hops : o.op.operands.toList = [y]) (hv : ρv y = some v) (hu : v.isUndef = false) : ∀ t, Operand.tmp t ∈ o.op.operands.toList → ρv (.tmp t) ≠ some .undef := by
  rw [hops]
  intro t ht e
  rw [← List.mem_singleton.1 ht, e] at hv
  cases hv
  cases hu

theorem dfdl {l : List Operand} (hops : o.op.operands.toList = l) (hl : ∀ y ∈ l, ρv y ≠ some .undef) : ∀ t, Operand.tmp t ∈ o.op.operands.toList → ρv (.tmp t) ≠ some .undef := by
  rw [hops]
  exact fun t ht => hl _ ht

theorem F_pick {c y z : Operand} (ho : o.op = .pick c y z) (h : evalP E o ρv H ρ K = some r) : Footed E o ρv H K r := by
  have hops : o.op.operands.toList = [c, y, z] := by simp [ho, Op.operands]
  simp only [evalP, ho] at h
  split at h
  · rename_i p q s h1 h2 h3
    refine foot0 h (fun k => rfl) (dfdl hops (by simp [h1, h2, h3])) ?_
    intro ρv' H' hA
    rw [hops] at hA
    simp only [evalP, ho, hA.1 c (by simp), hA.1 y (by simp), hA.1 z (by simp), h1, h2, h3]
    rfl
  · cases h

theorem F_alloc {t : TypeId} (ho : o.op = .alloc t) (h : evalP E o ρv H ρ K = some r) : Footed E o ρv H K r := by
  have hops : o.op.operands.toList = [] := by simp [ho, Op.operands]
  simp only [evalP, ho] at h
  split at h
  · rename_i s hs
    refine footn h (fun k hk => refs_ptr hk) (dfdl hops (by simp)) ?_
    intro ρv' H' hA
    simp only [evalP, ho, hs]
    rfl
  · cases h

theorem F_makeMap {t : TypeId} (ho : o.op = .makeMap t none) (h : evalP E o ρv H ρ K = some r) : Footed E o ρv H K r := by
  have hops : o.op.operands.toList = [] := by simp [ho, Op.operands]
  simp only [evalP, ho] at h
  split at h
  · rename_i kk e hs
    refine footn h (fun k hk => refs_map hk) (dfdl hops (by simp)) ?_
    intro ρv' H' hA
    simp only [evalP, ho, hs]
    rfl
  · cases h

theorem bindC_some {y : Operand} {cs : List C} (h : (ρv y).bind cellsOf = some cs) : ∃ u, ρv y = some u ∧ cellsOf u = some cs ∧ ρv y ≠ some .undef := by
  obtain ⟨u, h1, h2⟩ := Option.bind_eq_some_iff.1 h
  refine ⟨u, h1, h2, ?_⟩
  rw [h1]
  intro e
  cases e
  cases h2

theorem F_box {t : TypeId} {y : Operand} (ho : o.op = .box t y) (h : evalP E o ρv H ρ K = some r) : Footed E o ρv H K r := by
  have hops : o.op.operands.toList = [y] := by simp [ho, Op.operands]
  simp only [evalP, ho] at h
  split at h
  · rename_i s cs h1 h2
    obtain ⟨hd, h⟩ := cond_some h rfl
    obtain ⟨u, h3, h4, h5⟩ := bindC_some h2
    refine footn h (fun k hk => refs_ptr hk) (dfdl hops (by simpa using h5)) ?_
    intro ρv' H' hA
    rw [hops] at hA
    simp only [evalP, ho, hA.1 y (by simp), h1, h2, hd, cond_true]
    rfl
  · cases h

theorem partsFill_def {fs : List Sh} : ∀ {ps : List (Nat × Operand)} {cs cs' : List C}, partsFill fs ρv cs ps = some cs' → ∀ y ∈ ps.map (·.2), ρv y ≠ some .undef
  | [], _, _, _, y, hy => by simp at hy
  | (j, x) :: r, cs, cs', h, y, hy => by
    simp only [partsFill] at h
    split at h
    · rename_i vs s h1 h2
      obtain ⟨hd, h⟩ := cond_some h rfl
      simp only [List.map_cons, List.mem_cons] at hy
      rcases hy with rfl | hy
      · obtain ⟨_, _, _, h0⟩ := bindC_some h1
        exact h0
      · exact partsFill_def h y hy
    · cases h

theorem partsFill_cong {fs : List Sh} : ∀ (ps : List (Nat × Operand)) (cs : List C), (∀ y ∈ ps.map (·.2), ρv' y = ρv y) → partsFill fs ρv' cs ps = partsFill fs ρv cs ps
  | [], _, _ => rfl
  | (j, x) :: r, cs, h => by
    have h1 : ρv' x = ρv x := h x (by simp)
    have h2 : ∀ cs, partsFill fs ρv' cs r = partsFill fs ρv cs r := fun cs => partsFill_cong r cs fun y hy => h y (by simp only [List.map_cons, List.mem_cons]; exact .inr hy)
    simp only [partsFill, h1, h2]

theorem F_build {t : TypeId} {ps : Array (Nat × Operand)} (ho : o.op = .build t ps) (h : evalP E o ρv H ρ K = some r) : Footed E o ρv H K r := by
  have hops : o.op.operands.toList = ps.toList.map (·.2) := by simp [ho, Op.operands]
  simp only [evalP, ho] at h
  split at h
  · rename_i s hs
    split at h
    · rename_i fs hf
      obtain ⟨ha, h⟩ := cond_some h rfl
      split at h
      · rename_i cs hp
        refine foot0 h (fun k => rfl) (dfdl hops (partsFill_def hp)) ?_
        intro ρv' H' hA
        rw [hops] at hA
        simp only [evalP, ho, hs, hf, ha, cond_true, partsFill_cong _ _ hA.1, hp]
        rfl
      · cases h
    · cases h
  · cases h

theorem agree_elems {l : List Operand} (hA : Agree l ρv ρv' H H') {y : Operand} (hy : y ∈ l) {u : V} (hu : ρv y = some u) : elems H' u = elems H u := by
  cases u with
  | own k win t => simp only [elems, hA.2 y hy _ hu k (own_refs k win t)]
  | c x => cases x <;> rfl
  | _ => rfl

theorem agree_elemsAs {l : List Operand} (hA : Agree l ρv ρv' H H') {y : Operand} (hy : y ∈ l) {u : V} (hu : ρv y = some u) (e : Sh) : elemsAs e H' u = elemsAs e H u := by
  simp only [elemsAs, agree_elems hA hy hu]

theorem partEl_cong {l : List Operand} (hA : Agree l ρv ρv' H H') {y : Operand} (hy : y ∈ l) (e : Sh) : partEl e ρv' H' y = partEl e ρv H y := by
  unfold partEl
  rw [hA.1 y hy]
  cases hu : ρv y with
  | none => rfl
  | some u =>
    simp only
    split
    · rfl
    · cases e with
      | sl e' => exact agree_elemsAs hA hy hu e'
      | _ => rfl

theorem partEl_def {e : Sh} {y : Operand} {x : e.den} (h : partEl e ρv H y = some x) : ρv y ≠ some .undef := by
  intro hu
  simp only [partEl, hu, cellsOf] at h
  cases e <;> simp [elemsAs, elems] at h

theorem listFill_cong {l : List Operand} (hA : Agree l ρv ρv' H H') (e : Sh) : ∀ (ps : List (Nat × Operand)) (xs : List e.den), (∀ y ∈ ps.map (·.2), y ∈ l) → listFill e ρv' H' xs ps = listFill e ρv H xs ps
  | [], _, _ => rfl
  | (j, x) :: r, xs, h => by
    have h1 := partEl_cong hA (h x (by simp)) e
    have h2 : ∀ xs, listFill e ρv' H' xs r = listFill e ρv H xs r := fun xs => listFill_cong hA e r xs fun y hy => h y (by simp only [List.map_cons, List.mem_cons]; exact .inr hy)
    simp only [listFill, h1, h2]

theorem listFill_def {e : Sh} : ∀ {ps : List (Nat × Operand)} {xs xs' : List e.den}, listFill e ρv H xs ps = some xs' → ∀ y ∈ ps.map (·.2), ρv y ≠ some .undef
  | [], _, _, _, y, hy => by simp at hy
  | (j, x) :: r, xs, xs', h, y, hy => by
    simp only [listFill] at h
    split at h
    · rename_i z h1
      obtain ⟨hd, h⟩ := cond_some h rfl
      simp only [List.map_cons, List.mem_cons] at hy
      rcases hy with rfl | hy
      · exact partEl_def h1
      · exact listFill_def h y hy
    · cases h

theorem F_buildSlice {t : TypeId} {n : Nat} {ps : Array (Nat × Operand)} (ho : o.op = .buildSlice t n ps) (h : evalP E o ρv H ρ K = some r) : Footed E o ρv H K r := by
  have hops : o.op.operands.toList = ps.toList.map (·.2) := by simp [ho, Op.operands]
  simp only [evalP, ho] at h
  split at h
  · rename_i e hs
    cases hlit : memN t E.T.lits with
    | true =>
      rw [hlit] at h
      simp only [cond_true] at h
      obtain ⟨ha, h⟩ := cond_some h rfl
      split at h
      · rename_i xs hp
        refine ⟨_, _, h, ?_, fun k hk => (by cases hk), fun p hp => (by simp at hp), ?_⟩
        · exact dfdl hops (listFill_def hp)
        · intro ρv' H' hA
          have hc := listFill_cong hA e ps.toList (List.replicate n (zero e)) (by rw [hops]; exact fun y hy => hy)
          have hk : partKeys ρv' ps.toList = partKeys ρv ps.toList := by
            have : ∀ (qs : List (Nat × Operand)), (∀ q ∈ qs, q.2 ∈ o.op.operands.toList) → partKeys ρv' qs = partKeys ρv qs := by
              intro qs
              induction qs with
              | nil => intro _; rfl
              | cons q qs ih =>
                intro hq
                simp only [partKeys, opKey]
                rw [hA.1 q.2 (hq q (by simp)), ih fun p hp => hq p (by simp [hp])]
            exact this _ fun q hq => by rw [hops]; exact List.mem_map.2 ⟨q, hq, rfl⟩
          simp only [evalP, ho, hs, hlit, hk, ha, cond_true, hc, hp]
          rfl
      · cases h
    | false =>
    rw [hlit] at h
    simp only [cond_false] at h
    obtain ⟨ha, h⟩ := cond_some h rfl
    split at h
    · rename_i xs hp
      refine footn h (fun k hk => refs_own hk) (dfdl hops (listFill_def hp)) ?_
      intro ρv' H' hA
      have hc := listFill_cong hA e ps.toList (List.replicate n (zero e)) (by rw [hops]; exact fun y hy => hy)
      simp only [evalP, ho, hs, hlit, cond_false, ha, cond_true, hc, hp]
      rfl
    · cases h
  · cases h

theorem F_load {t : TypeId} {y : Operand} (ho : o.op = .load t y) (h : evalP E o ρv H ρ K = some r) : Footed E o ρv H K r := by
  have hops : o.op.operands.toList = [y] := by simp [ho, Op.operands]
  have hm : y ∈ o.op.operands.toList := by rw [hops]; simp
  simp only [evalP, ho] at h
  split at h
  · rename_i s k off h1 h2
    split at h
    · rename_i cs hH
      obtain ⟨hd, h⟩ := cond_some h rfl
      split at h
      · rename_i v hv
        refine foot0 h (fun k => refs_mkV hv) (dfd1 hops h2 rfl) ?_
        intro ρv' H' hA
        simp only [evalP, ho, hA.1 y hm, h1, h2, hA.2 y hm _ h2 k (ptr_refs k off), hH, hd, cond_true, hv]
        rfl
      · cases h
    · cases h
  · rename_i s cs h1 h2
    obtain ⟨hd, h⟩ := cond_some h rfl
    split at h
    · rename_i v hv
      refine foot0 h (fun k => refs_mkV hv) (dfd1 hops h2 rfl) ?_
      intro ρv' H' hA
      simp only [evalP, ho, hA.1 y hm, h1, h2, hd, cond_true, hv]
      rfl
    · cases h
  · rename_i s k win i off h1 h2
    split at h
    · rename_i e xs n hH
      obtain ⟨hd, h⟩ := cond_some h rfl
      obtain ⟨z, hz, h⟩ := Option.bind_eq_some_iff.1 h
      split at h
      · rename_i v hv
        refine foot0 h (fun k => refs_mkV hv) (dfd1 hops h2 rfl) ?_
        intro ρv' H' hA
        simp only [evalP, ho, hA.1 y hm, h1, h2, hA.2 y hm _ h2 k (eptr_refs k win i off), hH, hd, cond_true, hz, Option.bind_some, hv]
        rfl
      · cases h
    · cases h
  · rename_i s k off n e i h1 h2
    split at h
    · rename_i kk cs hH
      obtain ⟨hd, h⟩ := cond_some h rfl
      split at h
      · rename_i ns hn
        obtain ⟨z, hz, h⟩ := Option.bind_eq_some_iff.1 h
        refine foot0 h (fun k => rfl) (dfd1 hops h2 rfl) ?_
        intro ρv' H' hA
        simp only [evalP, ho, hA.1 y hm, h1, h2, hA.2 y hm _ h2 k (aptr_refs k off n _ i), hH, hd, cond_true, hn, hz, Option.bind_some]
        rfl
      · cases h
    · cases h
  · cases h

theorem intBin_some {op : BinOp} {k : IntKind} {x y : Int} {K1 : Int → Option ρ} (h : intBin op k x y ρ K1 = some r) : ∃ n, K1 n = some r ∧ ∀ (ρ' : Type) (K' : Int → Option ρ'), intBin op k x y ρ' K' = K' n := by
  cases op
  case quo =>
    simp only [intBin] at h
    obtain ⟨h0, h⟩ := cond_none h rfl
    exact ⟨_, h, fun ρ' K' => by simp only [intBin, h0, cond_false]⟩
  case rem =>
    simp only [intBin] at h
    obtain ⟨h0, h⟩ := cond_none h rfl
    exact ⟨_, h, fun ρ' K' => by simp only [intBin, h0, cond_false]⟩
  case shl =>
    simp only [intBin] at h
    obtain ⟨h0, h⟩ := cond_none h rfl
    exact ⟨_, h, fun ρ' K' => by simp only [intBin, h0, cond_false]⟩
  case shr =>
    simp only [intBin] at h
    obtain ⟨h0, h⟩ := cond_none h rfl
    exact ⟨_, h, fun ρ' K' => by simp only [intBin, h0, cond_false]⟩
  all_goals first | exact ⟨_, h, fun ρ' K' => rfl⟩ | cases h

theorem isNil_undef {y : Operand} (hn : isNil y = true) : ∀ t, y ≠ .tmp t := by
  intro t e
  subst e
  cases hn

theorem F_binOp {op : BinOp} {t t' : TypeId} {y z : Operand} (ho : o.op = .binOp op t y z t') (h : evalP E o ρv H ρ K = some r) : Footed E o ρv H K r := by
  have hops : o.op.operands.toList = [y, z] := by simp [ho, Op.operands]
  have hm : y ∈ o.op.operands.toList := by rw [hops]; simp
  have hm2 : z ∈ o.op.operands.toList := by rw [hops]; simp
  simp only [evalP, ho, binop] at h
  have cong : ∀ {v : V}, (∀ ρv' H', Agree o.op.operands.toList ρv ρv' H H' → binop E.T op t y z ρv' H' _ (fun v => K0 v []) = some (v, [])) → ∀ ρv' H', Agree o.op.operands.toList ρv ρv' H H' → evalP E o ρv' H' _ K0 = some (v, []) := by
    intro v hc ρv' H' hA
    simp only [evalP, ho]
    exact hc ρv' H' hA
  split at h
  · rename_i k a h1
    split at h
    · rename_i k' b h2
      have hd := dfdl (ρv := ρv) hops (by simp [h1, h2])
      cases hs : isShift op with
      | true =>
        rw [hs] at h
        simp only [cond_true] at h
        obtain ⟨n, h, hn⟩ := intBin_some h
        refine foot0 h (fun k => rfl) hd (cong ?_)
        intro ρv' H' hA
        simp only [binop, hA.1 y hm, hA.1 z hm2, h1, h2, hs, cond_true, hn]
        rfl
      | false =>
        rw [hs] at h
        simp only [cond_false] at h
        split at h
        · rename_i hk
          split at h
          · rename_i c hc
            refine foot0 h (fun k => rfl) hd (cong ?_)
            intro ρv' H' hA
            simp only [binop, hA.1 y hm, hA.1 z hm2, h1, h2, hs, cond_false, if_pos hk, hc]
            rfl
          · rename_i hc
            obtain ⟨n, h, hn⟩ := intBin_some h
            refine foot0 h (fun k => rfl) hd (cong ?_)
            intro ρv' H' hA
            simp only [binop, hA.1 y hm, hA.1 z hm2, h1, h2, hs, cond_false, if_pos hk, hc, hn]
            rfl
        · cases h
    · cases h
  · rename_i a h1
    split at h
    · rename_i b h2
      have hd := dfdl (ρv := ρv) hops (by simp [h1, h2])
      split at h
      · rename_i hs
        split at h
        all_goals first | (cases h; done) | skip
        all_goals
          refine foot0 h (fun k => rfl) hd (cong ?_)
          intro ρv' H' hA
          simp only [binop, hA.1 y hm, hA.1 z hm2, h1, h2, hs]
          rfl
      · cases h
    · cases h
  · rename_i cs h1
    split at h
    · rename_i cs' h2
      have hd := dfdl (ρv := ρv) hops (by simp [h1, h2])
      split at h
      · rename_i b hb
        split at h
        all_goals first | (cases h; done) | skip
        all_goals
          refine foot0 h (fun k => rfl) hd (cong ?_)
          intro ρv' H' hA
          simp only [binop, hA.1 y hm, hA.1 z hm2, h1, h2, hb]
          rfl
      · cases h
    · cases h
  · rename_i k tt h1
    obtain ⟨hn, h⟩ := cond_some h rfl
    have hd : ∀ t, Operand.tmp t ∈ o.op.operands.toList → ρv (.tmp t) ≠ some .undef := by
      rw [hops]
      intro t ht
      simp only [List.mem_cons, List.not_mem_nil, or_false] at ht
      rcases ht with rfl | rfl
      · simp [h1]
      · exact absurd rfl (isNil_undef hn t)
    split at h
    · rename_i e xs hs hH
      split at h
      all_goals first | (cases h; done) | skip
      all_goals
        refine foot0 h (fun k => rfl) hd (cong ?_)
        intro ρv' H' hA
        simp only [binop, hA.1 y hm, h1, hn, cond_true, hA.2 y hm _ h1 k (own_refs k _ _), hs, hH]
        rfl
    · cases h
  · rename_i e xs tt h1
    obtain ⟨hn, h⟩ := cond_some h rfl
    have hn' := hn
    rw [Bool.and_eq_true] at hn'
    have hd : ∀ t, Operand.tmp t ∈ o.op.operands.toList → ρv (.tmp t) ≠ some .undef := by
      rw [hops]
      intro t ht
      simp only [List.mem_cons, List.not_mem_nil, or_false] at ht
      rcases ht with rfl | rfl
      · simp [h1]
      · exact absurd rfl (isNil_undef hn'.1 t)
    split at h
    · rename_i e' hs
      split at h
      all_goals first | (cases h; done) | skip
      all_goals
        refine foot0 h (fun k => rfl) hd (cong ?_)
        intro ρv' H' hA
        simp only [binop, hA.1 y hm, h1, hn, cond_true, hs]
        rfl
    · cases h
  · cases h

theorem F_unOp {op : UnOp} {t : TypeId} {y : Operand} (ho : o.op = .unOp op t y) (h : evalP E o ρv H ρ K = some r) : Footed E o ρv H K r := by
  have hops : o.op.operands.toList = [y] := by simp [ho, Op.operands]
  have hm : y ∈ o.op.operands.toList := by rw [hops]; simp
  simp only [evalP, ho] at h
  split at h
  · rename_i k n h1
    refine foot0 h (fun k => rfl) (dfd1 hops h1 rfl) ?_
    intro ρv' H' hA
    simp only [evalP, ho, hA.1 y hm, h1]
    rfl
  · rename_i b h1
    refine foot0 h (fun k => rfl) (dfd1 hops h1 rfl) ?_
    intro ρv' H' hA
    simp only [evalP, ho, hA.1 y hm, h1]
    rfl
  · cases h

theorem F_convert {s t : TypeId} {y : Operand} (ho : o.op = .convert s t y) (h : evalP E o ρv H ρ K = some r) : Footed E o ρv H K r := by
  have hops : o.op.operands.toList = [y] := by simp [ho, Op.operands]
  have hm : y ∈ o.op.operands.toList := by rw [hops]; simp
  simp only [evalP, ho] at h
  split at h
  · rename_i k' n k s' h1 h2 h3
    refine foot0 h (fun k => rfl) (dfd1 hops h1 rfl) ?_
    intro ρv' H' hA
    simp only [evalP, ho, hA.1 y hm, h1, h2, h3]
    rfl
  · cases h

theorem refsAny_mem {k : Nat} : ∀ {vs : List V} {v : V}, v ∈ vs → refs1 k v = true → refsAny k vs = true
  | [], _, h, _ => by simp at h
  | x :: r, v, h, hr => by
    simp only [refsAny, Bool.or_eq_true]
    rcases List.mem_cons.1 h with rfl | h
    · exact .inl hr
    · exact .inr (refsAny_mem h hr)


theorem F_extract {y : Operand} {j : Nat} (ho : o.op = .extract y j) (h : evalP E o ρv H ρ K = some r) : Footed E o ρv H K r := by
  have hops : o.op.operands.toList = [y] := by simp [ho, Op.operands]
  have hm : y ∈ o.op.operands.toList := by rw [hops]; simp
  simp only [evalP, ho] at h
  split at h
  · rename_i vs h1
    split at h
    · rename_i v h2
      obtain ⟨hf, h⟩ := cond_some h rfl
      refine foot1 h hm h1 (fun k hk => ?_) (dfd1 hops h1 rfl) ?_
      · refine refsAny_mem (v := v) (List.mem_of_getElem? h2) ?_
        cases v <;> first | exact hk | cases hf
      · intro ρv' H' hA
        simp only [evalP, ho, hA.1 y hm, h1, h2, hf, cond_true]
        rfl
    · cases h
  · cases h

theorem F_fieldAddr {s : TypeId} {y : Operand} {f : Nat} (ho : o.op = .fieldAddr s y f) (h : evalP E o ρv H ρ K = some r) : Footed E o ρv H K r := by
  have hops : o.op.operands.toList = [y] := by simp [ho, Op.operands]
  have hm : y ∈ o.op.operands.toList := by rw [hops]; simp
  simp only [evalP, ho] at h
  split at h
  · rename_i d k off h1 h2
    refine foot1 h hm h2 (fun k hk => hk) (dfd1 hops h2 rfl) ?_
    intro ρv' H' hA
    simp only [evalP, ho, hA.1 y hm, h1, h2]
    rfl
  · rename_i d k win i off h1 h2
    refine foot1 h hm h2 (fun k hk => hk) (dfd1 hops h2 rfl) ?_
    intro ρv' H' hA
    simp only [evalP, ho, hA.1 y hm, h1, h2]
    rfl
  · rename_i d cs h1 h2
    obtain ⟨hd, h⟩ := cond_some h rfl
    refine foot0 h (fun k => rfl) (dfd1 hops h2 rfl) ?_
    intro ρv' H' hA
    simp only [evalP, ho, hA.1 y hm, h1, h2, hd, cond_true]
    rfl
  · cases h

theorem F_field {s : TypeId} {y : Operand} {f : Nat} (ho : o.op = .field s y f) (h : evalP E o ρv H ρ K = some r) : Footed E o ρv H K r := by
  have hops : o.op.operands.toList = [y] := by simp [ho, Op.operands]
  have hm : y ∈ o.op.operands.toList := by rw [hops]; simp
  simp only [evalP, ho] at h
  split at h
  · rename_i fs cs h1 h2
    split at h
    · rename_i e h3
      obtain ⟨hd, h⟩ := cond_some h rfl
      split at h
      · rename_i v hv
        refine foot0 h (fun k => refs_mkV hv) (dfd1 hops h2 rfl) ?_
        intro ρv' H' hA
        simp only [evalP, ho, hA.1 y hm, h1, h2, h3, hd, cond_true, hv]
        rfl
      · cases h
    · cases h
  · cases h

theorem F_indexAddr {t : TypeId} {y z : Operand} (ho : o.op = .indexAddr t y z) (h : evalP E o ρv H ρ K = some r) : Footed E o ρv H K r := by
  have hops : o.op.operands.toList = [y, z] := by simp [ho, Op.operands]
  have hm : y ∈ o.op.operands.toList := by rw [hops]; simp
  have hm2 : z ∈ o.op.operands.toList := by rw [hops]; simp
  simp only [evalP, ho] at h
  split at h
  · rename_i k win tt kk n h1 h2
    split at h
    · rename_i e xs n' e' hH hs
      obtain ⟨hd, h⟩ := cond_some h rfl
      refine foot1 h hm h1 (fun k hk => hk) (dfdl hops (by simp [h1, h2])) ?_
      intro ρv' H' hA
      simp only [evalP, ho, hA.1 y hm, hA.1 z hm2, h1, h2, hA.2 y hm _ h1 k (own_refs k _ _), hH, hs, hd, cond_true]
      rfl
    · cases h
  · rename_i e xs tt kk n h1 h2
    split at h
    · rename_i e' hs
      obtain ⟨hd, h⟩ := cond_some h rfl
      obtain ⟨x, hx, h⟩ := Option.bind_eq_some_iff.1 h
      refine foot0 h (fun k => rfl) (dfdl hops (by simp [h1, h2])) ?_
      intro ρv' H' hA
      simp only [evalP, ho, hA.1 y hm, hA.1 z hm2, h1, h2, hs, hd, cond_true, hx, Option.bind_some]
      rfl
    · cases h
  · rename_i k off kk n h1 h2
    split at h
    · rename_i len e hs
      obtain ⟨hd, h⟩ := cond_some h rfl
      refine foot1 h hm h1 (fun k hk => hk) (dfdl hops (by simp [h1, h2])) ?_
      intro ρv' H' hA
      simp only [evalP, ho, hA.1 y hm, hA.1 z hm2, h1, h2, hs, hd, cond_true]
      rfl
    · cases h
  · cases h

theorem F_index {t : TypeId} {y z : Operand} (ho : o.op = .index t y z) (h : evalP E o ρv H ρ K = some r) : Footed E o ρv H K r := by
  have hops : o.op.operands.toList = [y, z] := by simp [ho, Op.operands]
  have hm : y ∈ o.op.operands.toList := by rw [hops]; simp
  have hm2 : z ∈ o.op.operands.toList := by rw [hops]; simp
  simp only [evalP, ho] at h
  split at h
  · rename_i len kk cs k n h1 h2 h3
    obtain ⟨hd, h⟩ := cond_some h rfl
    split at h
    · rename_i ns hn
      obtain ⟨x, hx, h⟩ := Option.bind_eq_some_iff.1 h
      refine foot0 h (fun k => rfl) (dfdl hops (by simp [h2, h3])) ?_
      intro ρv' H' hA
      simp only [evalP, ho, hA.1 y hm, hA.1 z hm2, h1, h2, h3, hd, cond_true, hn, hx, Option.bind_some]
      rfl
    · cases h
  · cases h

theorem optI_cong {l : List Operand} (hA : Agree l ρv ρv' H H') {x : Option Operand} (hx : ∀ y, x = some y → y ∈ l) : optI ρv' x = optI ρv x := by
  cases x with
  | none => rfl
  | some y => simp only [optI, hA.1 y (hx y rfl)]

theorem optI_def {x : Option Operand} {n : Option Int} (h : optI ρv x = some n) : ∀ y, x = some y → ρv y ≠ some .undef := by
  intro y hy hu
  subst hy
  simp [optI, hu] at h

theorem F_slice {t : TypeId} {y : Operand} {lo hi mx : Option Operand} (ho : o.op = .slice t y lo hi mx) (h : evalP E o ρv H ρ K = some r) : Footed E o ρv H K r := by
  have hops : o.op.operands.toList = y :: (lo.toList ++ hi.toList ++ mx.toList) := by simp [ho, Op.operands]
  have hm : y ∈ o.op.operands.toList := by rw [hops]; simp
  have hlo : ∀ z, lo = some z → z ∈ o.op.operands.toList := by rw [hops]; intro z hz; simp [hz]
  have hhi : ∀ z, hi = some z → z ∈ o.op.operands.toList := by rw [hops]; intro z hz; simp [hz]
  have hmx : ∀ z, mx = some z → z ∈ o.op.operands.toList := by rw [hops]; intro z hz; simp [hz]
  simp only [evalP, ho] at h
  split at h
  · rename_i lo' hi' mx' e' g1 g2 g3 hs
    have hd0 : ρv y ≠ some .undef → ∀ t, Operand.tmp t ∈ o.op.operands.toList → ρv (.tmp t) ≠ some .undef := by
      intro hy t ht
      rw [hops] at ht
      simp only [List.mem_cons, List.mem_append, Option.mem_toList] at ht
      rcases ht with rfl | (ht | ht) | ht
      · exact hy
      · exact optI_def g1 _ ht
      · exact optI_def g2 _ ht
      · exact optI_def g3 _ ht
    split at h
    · rename_i k win tight h1
      split at h
      · rename_i e xs n hH
        obtain ⟨hd, h⟩ := cond_some h rfl
        refine foot1 h hm h1 (fun k hk => hk) (hd0 (by simp [h1])) ?_
        intro ρv' H' hA
        simp only [evalP, ho, hA.1 y hm, optI_cong hA hlo, optI_cong hA hhi, optI_cong hA hmx, g1, g2, g3, hs, h1, hA.2 y hm _ h1 k (own_refs k _ _), hH, hd, cond_true]
        rfl
      · cases h
    · rename_i e xs tight h1
      obtain ⟨hd, h⟩ := cond_some h rfl
      refine foot0 h (fun k => rfl) (hd0 (by simp [h1])) ?_
      intro ρv' H' hA
      simp only [evalP, ho, hA.1 y hm, optI_cong hA hlo, optI_cong hA hhi, optI_cong hA hmx, g1, g2, g3, hs, h1, hd, cond_true]
      rfl
    · cases h
  · cases h

theorem F_makeSlice {t : TypeId} {y z : Operand} (ho : o.op = .makeSlice t y z) (h : evalP E o ρv H ρ K = some r) : Footed E o ρv H K r := by
  have hops : o.op.operands.toList = [y, z] := by simp [ho, Op.operands]
  have hm : y ∈ o.op.operands.toList := by rw [hops]; simp
  have hm2 : z ∈ o.op.operands.toList := by rw [hops]; simp
  simp only [evalP, ho] at h
  split at h
  · rename_i e n m hs h1 h2
    obtain ⟨hd, h⟩ := cond_some h rfl
    refine footn h (fun k hk => refs_own hk) (dfdl hops (by simp [h1, h2])) ?_
    intro ρv' H' hA
    simp only [evalP, ho, hA.1 y hm, hA.1 z hm2, hs, h1, h2, hd, cond_true]
    rfl
  · cases h

theorem opVs_cong {l : List Operand} (hA : Agree l ρv ρv' H H') : ∀ (ys : List Operand), (∀ y ∈ ys, y ∈ l) → opVs ρv' ys = opVs ρv ys
  | [], _ => rfl
  | y :: ys, h => by simp only [opVs, hA.1 y (h y (by simp)), opVs_cong hA ys fun z hz => h z (by simp [hz])]

theorem opVs_mem : ∀ {ys : List Operand} {vs : List V}, opVs ρv ys = some vs → (∀ y ∈ ys, ∃ v ∈ vs, ρv y = some v) ∧ ∀ v ∈ vs, ∃ y ∈ ys, ρv y = some v
  | [], vs, h => by cases h; simp
  | y :: ys, vs, h => by
    simp only [opVs] at h
    split at h
    · rename_i v vs' h1 h2
      cases h
      obtain ⟨i1, i2⟩ := opVs_mem h2
      refine ⟨fun z hz => ?_, fun u hu => ?_⟩
      · rcases List.mem_cons.1 hz with rfl | hz
        · exact ⟨v, by simp, h1⟩
        · obtain ⟨u, hu, hz⟩ := i1 z hz
          exact ⟨u, by simp [hu], hz⟩
      · rcases List.mem_cons.1 hu with rfl | hu
        · exact ⟨y, by simp, h1⟩
        · obtain ⟨z, hz, hu⟩ := i2 u hu
          exact ⟨z, by simp [hz], hu⟩
    · cases h

theorem refsAny_ex {k : Nat} : ∀ {vs : List V}, refsAny k vs = true → ∃ v ∈ vs, refs1 k v = true
  | [], h => by cases h
  | v :: vs, h => by
    simp only [refsAny, Bool.or_eq_true] at h
    rcases h with h | h
    · exact ⟨v, by simp, h⟩
    · obtain ⟨u, hu, h⟩ := refsAny_ex h
      exact ⟨u, by simp [hu], h⟩

theorem F_makeFunc {fn : Fn} {first caps : Array Operand} (ho : o.op = .makeFunc fn first caps) (h : evalP E o ρv H ρ K = some r) : Footed E o ρv H K r := by
  have hops : o.op.operands.toList = first.toList ++ caps.toList := by simp [ho, Op.operands]
  simp only [evalP, ho] at h
  split at h
  · rename_i f vs hf hv
    obtain ⟨hfl, h⟩ := cond_some h rfl
    rw [hf] at hops
    simp only [List.nil_append] at hops
    obtain ⟨i1, i2⟩ := opVs_mem hv
    refine ⟨_, _, h, ?_, ?_, by simp, ?_⟩
    · refine dfdl hops fun y hy hu => ?_
      obtain ⟨v, hv', he⟩ := i1 y hy
      rw [hu] at he
      cases he
      have := List.all_eq_true.1 hfl _ hv'
      cases this
    · intro k hk
      obtain ⟨v, hv', hr⟩ := refsAny_ex hk
      obtain ⟨y, hy, he⟩ := i2 v hv'
      refine .inl ⟨y, by rw [hops]; exact hy, v, he, ?_⟩
      have := List.all_eq_true.1 hfl _ hv'
      cases v <;> first | exact hr | cases this
    · intro ρv' H' hA
      rw [hops] at hA
      simp only [evalP, ho, hf, opVs_cong hA _ (fun y hy => hy), hv, hfl, cond_true]
      rfl
  · cases h

theorem F_lookup {t : TypeId} {y z : Operand} {ok : Bool} (ho : o.op = .lookup t y z ok) (h : evalP E o ρv H ρ K = some r) : Footed E o ρv H K r := by
  have hops : o.op.operands.toList = [y, z] := by simp [ho, Op.operands]
  have hm : y ∈ o.op.operands.toList := by rw [hops]; simp
  have hm2 : z ∈ o.op.operands.toList := by rw [hops]; simp
  simp only [evalP, ho] at h
  split at h
  · rename_i k kk n kk2 e2 h1 h2 h3
    split at h
    · rename_i kk' e m hH
      obtain ⟨hd, h⟩ := cond_some h rfl
      split at h
      · rename_i v hv
        refine foot0 h (fun k => ?_) (dfdl hops (by simp [h1, h2])) ?_
        · cases ok
          · exact refs_mkV hv
          · have := refs_mkV (k := k) hv
            simp only [cond_true, refs, refsAny, refs1, Bool.or_false]
            cases v <;> first | exact this | rfl
        · intro ρv' H' hA
          simp only [evalP, ho, hA.1 y hm, hA.1 z hm2, h1, h2, h3, hA.2 y hm _ h1 k (map_refs k), hH, hd, cond_true, hv]
          rfl
      · cases h
    · cases h
  · cases h

theorem call_ops {c : Call} {b : Builtin} (ho : o.op = .call c) (hc : c.callee = .builtin b) : o.op.operands.toList = c.args.toList := by
  simp [ho, Op.operands, Call.operands, hc]

theorem elems_def {u : V} {x : Σ e : Sh, List e.den} (h : elems H u = some x) : u.isUndef = false := by
  cases u <;> first | rfl | simp [elems] at h

theorem F_len {c : Call} (ho : o.op = .call c) (hc : c.callee = .builtin .len) (h : evalP E o ρv H ρ K = some r) : Footed E o ρv H K r := by
  have hops := call_ops ho hc
  simp only [evalP, ho, hc] at h
  split at h
  · rename_i x t ts hx ht
    rw [hx] at hops
    have hm : x ∈ o.op.operands.toList := by rw [hops]; simp
    split at h
    · rename_i s h1
      split at h
      · rename_i hs
        refine foot0 h (fun k => rfl) (dfd1 hops h1 rfl) ?_
        intro ρv' H' hA
        simp only [evalP, ho, hc, hx, ht, hA.1 x hm, h1, hs]
        rfl
      · cases h
    · rename_i k h1
      split at h
      · rename_i kk e m p hH hs
        refine foot0 h (fun k => rfl) (dfd1 hops h1 rfl) ?_
        intro ρv' H' hA
        simp only [evalP, ho, hc, hx, ht, hA.1 x hm, h1, hA.2 x hm _ h1 k (map_refs k), hH, hs]
        rfl
      · cases h
    · rename_i v n1 n2 h1
      split at h
      · rename_i e xs e' hH hs
        refine foot0 h (fun k => rfl) (dfd1 hops h1 (elems_def hH)) ?_
        intro ρv' H' hA
        have hE := agree_elems hA hm h1
        simp only [evalP, ho, hc, hx, ht, hA.1 x hm, h1]
        rw [hE, hH, hs]
        rfl
      · cases h
    · cases h
  · cases h

theorem F_cap {c : Call} (ho : o.op = .call c) (hc : c.callee = .builtin .cap) (h : evalP E o ρv H ρ K = some r) : Footed E o ρv H K r := by
  have hops := call_ops ho hc
  simp only [evalP, ho, hc] at h
  split at h
  · rename_i x t ts hx ht
    rw [hx] at hops
    have hm : x ∈ o.op.operands.toList := by rw [hops]; simp
    split at h
    · rename_i e xs e' h1 hs
      refine foot0 h (fun k => rfl) (dfd1 hops h1 rfl) ?_
      intro ρv' H' hA
      simp only [evalP, ho, hc, hx, ht, hA.1 x hm, h1, hs]
      rfl
    · cases h
  · cases h

theorem max2_def {k : IntKind} : ∀ {vs : List V} {x m : Int}, max2 k x vs = some m → ∀ v ∈ vs, v.isUndef = false
  | [], _, _, _, v, hv => by simp at hv
  | u :: vs, x, m, h, v, hv => by
    cases u with
    | c y =>
      cases y with
      | int k' y =>
        simp only [max2] at h
        split at h
        · rcases List.mem_cons.1 hv with rfl | hv
          · rfl
          · exact max2_def h v hv
        · cases h
      | _ => simp [max2] at h
    | _ => simp [max2] at h
theorem min2_def {k : IntKind} : ∀ {vs : List V} {x m : Int}, min2 k x vs = some m → ∀ v ∈ vs, v.isUndef = false
  | [], _, _, _, v, hv => by simp at hv
  | u :: vs, x, m, h, v, hv => by
    cases u with
    | c y =>
      cases y with
      | int k' y =>
        simp only [min2] at h
        split at h
        · rcases List.mem_cons.1 hv with rfl | hv
          · rfl
          · exact min2_def h v hv
        · cases h
      | _ => simp [min2] at h
    | _ => simp [min2] at h

theorem F_max {c : Call} (ho : o.op = .call c) (hc : c.callee = .builtin .max) (h : evalP E o ρv H ρ K = some r) : Footed E o ρv H K r := by
  have hops := call_ops ho hc
  simp only [evalP, ho, hc] at h
  split at h
  · rename_i k n vs h1
    split at h
    · rename_i m h2
      obtain ⟨i1, i2⟩ := opVs_mem h1
      refine foot0 h (fun k => rfl) (dfdl hops fun y hy hu => ?_) ?_
      · obtain ⟨v, hv, he⟩ := i1 y hy
        rw [hu] at he
        cases he
        rcases List.mem_cons.1 hv with hv | hv
        · cases hv
        · have := max2_def h2 _ hv
          cases this
      · intro ρv' H' hA
        rw [hops] at hA
        simp only [evalP, ho, hc, opVs_cong hA _ (fun y hy => hy), h1, h2]
        rfl
    · cases h
  · cases h

theorem F_min {c : Call} (ho : o.op = .call c) (hc : c.callee = .builtin .min) (h : evalP E o ρv H ρ K = some r) : Footed E o ρv H K r := by
  have hops := call_ops ho hc
  simp only [evalP, ho, hc] at h
  split at h
  · rename_i k n vs h1
    split at h
    · rename_i m h2
      obtain ⟨i1, i2⟩ := opVs_mem h1
      refine foot0 h (fun k => rfl) (dfdl hops fun y hy hu => ?_) ?_
      · obtain ⟨v, hv, he⟩ := i1 y hy
        rw [hu] at he
        cases he
        rcases List.mem_cons.1 hv with hv | hv
        · cases hv
        · have := min2_def h2 _ hv
          cases this
      · intro ρv' H' hA
        rw [hops] at hA
        simp only [evalP, ho, hc, opVs_cong hA _ (fun y hy => hy), h1, h2]
        rfl
    · cases h
  · cases h

theorem elemsAs_def {e : Sh} {u : V} {xs : List e.den} (h : elemsAs e H u = some xs) : u.isUndef = false := by
  cases u <;> first | rfl | simp [elemsAs, elems] at h

theorem F_append {c : Call} (ho : o.op = .call c) (hc : c.callee = .builtin .append) (h : evalP E o ρv H ρ K = some r) : Footed E o ρv H K r := by
  have hops := call_ops ho hc
  simp only [evalP, ho, hc] at h
  split at h
  · rename_i x y t tx hx ht
    rw [hx] at hops
    have hm : x ∈ o.op.operands.toList := by rw [hops]; simp
    have hm2 : y ∈ o.op.operands.toList := by rw [hops]; simp
    split at h
    · rename_i e e1 e2 ys2 hs1 hs2 hy
      obtain ⟨uy, hy1, hy2⟩ := Option.bind_eq_some_iff.1 hy
      have hyd := elems_def hy2
      have hdd : ∀ {v : V}, ρv x = some v → v.isUndef = false → ∀ t, Operand.tmp t ∈ o.op.operands.toList → ρv (.tmp t) ≠ some .undef := by
        intro v hv hvu
        refine dfdl hops ?_
        simp only [List.mem_cons, List.not_mem_nil, or_false, forall_eq_or_imp, forall_eq, hv, hy1]
        exact ⟨fun e => (by cases e; cases hvu), fun e => (by cases e; cases hyd)⟩
      have hyA : ∀ ρv' H', Agree o.op.operands.toList ρv ρv' H H' → ((ρv' y).bind fun w => elems H' w) = some ⟨e2, ys2⟩ := by
        intro ρv' H' hA
        rw [hA.1 y hm2, hy1, Option.bind_some, agree_elems hA hm2 hy1]
        exact hy2
      split at h
      · rename_i ys v hcs h1
        split at h
        · rename_i k win
          split at h
          · rename_i xs hxs
            obtain ⟨hd, h⟩ := cond_some h rfl
            refine footn h (fun k hk => refs_own hk) (hdd h1 rfl) ?_
            intro ρv' H' hA
            have h4 := agree_elemsAs hA hm h1 e
            rw [hxs] at h4
            simp only [evalP, ho, hc, hx, ht, hs1, hs2, hyA ρv' H' hA, hA.1 x hm, h1, hcs]
            simp only [h4, hd, cond_true]
            rfl
          · cases h
        · rename_i e' xs'
          split at h
          · rename_i xs hxs
            obtain ⟨hd, h⟩ := cond_some h rfl
            refine footn h (fun k hk => refs_own hk) (hdd h1 rfl) ?_
            intro ρv' H' hA
            simp only [evalP, ho, hc, hx, ht, hs1, hs2, hyA ρv' H' hA, hA.1 x hm, h1, hcs]
            simp only [hxs, hd, cond_true]
            rfl
          · cases h
        · cases h
      · cases h
    · cases h
  · cases h

theorem gnd1_cong {u : V} (h : ∀ k, refs1 k u = true → H' k = H k) : gnd1 H' u = gnd1 H u := by
  cases u with
  | own k win t => simp only [gnd1, h k (Nat.beq_refl k)]
  | ptr k off => simp only [gnd1, h k (Nat.beq_refl k)]
  | _ => rfl

theorem gnds_cong : ∀ (vs : List V), (∀ k, refsAny k vs = true → H' k = H k) → gnds H' vs = gnds H vs
  | [], _ => rfl
  | v :: vs, h => by
    have h1 : gnd1 H' v = gnd1 H v := gnd1_cong fun k hk => h k (by simp [refsAny, hk])
    have h2 : gnds H' vs = gnds H vs := gnds_cong vs fun k hk => h k (by simp [refsAny, hk])
    simp only [gnds, h1, h2]

theorem gnd_cong {u : V} (h : ∀ k, refs k u = true → H' k = H k) : gnd H' u = gnd H u := by
  cases u with
  | fn f caps => simp only [gnd, gnds_cong caps h]
  | tup vs => rfl
  | undef => rfl
  | c y => rfl
  | agg cs => rfl
  | ptr j off => exact gnd1_cong (u := .ptr j off) fun k hk => h k hk
  | own j w t => exact gnd1_cong (u := .own j w t) fun k hk => h k hk
  | _ => rfl

theorem argV_cong {l : List Operand} {T : Tab} {t : TypeId} {y : Operand} (hA : Agree l ρv ρv' H H') (hy : y ∈ l) : argV T ρv' H' t y = argV T ρv H t y := by
  unfold argV
  rw [hA.1 y hy]
  cases hu : ρv y with
  | none => rfl
  | some u => simp only [Option.bind_some, gnd_cong fun k hk => hA.2 y hy u hu k hk]

theorem argsV_cong {l : List Operand} {T : Tab} (hA : Agree l ρv ρv' H H') : ∀ (ts : List TypeId) (ys : List Operand), (∀ y ∈ ys, y ∈ l) → argsV T ρv' H' ts ys = argsV T ρv H ts ys
  | [], [], _ => rfl
  | t :: ts, y :: ys, h => by
    simp only [argsV, argV_cong hA (h y (by simp)), argsV_cong hA ts ys fun z hz => h z (by simp [hz])]
  | [], _ :: _, _ => rfl
  | _ :: _, [], _ => rfl

theorem argsV_def {T : Tab} : ∀ {ts : List TypeId} {ys : List Operand} {vs : List V}, argsV T ρv H ts ys = some vs → ∀ t, Operand.tmp t ∈ ys → ρv (.tmp t) ≠ some .undef
  | [], [], _, _, t, ht => by simp at ht
  | t' :: ts, y :: ys, vs, h, t, ht => by
    simp only [argsV] at h
    split at h
    · rename_i v vs' h1 h2
      rcases List.mem_cons.1 ht with rfl | ht
      · intro hu
        simp [argV, isNil, hu, gnd, gnd1] at h1
      · exact argsV_def h2 t ht
    · cases h
  | [], _ :: _, _, h, _, _ => by simp [argsV] at h
  | _ :: _, [], _, h, _, _ => by simp [argsV] at h

theorem retOs_keys : ∀ {key : Nat} {rs : List Ret1}, ∀ p ∈ retOs key rs, ∃ j, p.1 = key + 10000 * j
  | _, [], p, h => by simp [retOs] at h
  | key, r :: rs, p, h => by
    simp only [retOs, List.mem_append] at h
    rcases h with h | h
    · cases r <;> simp [retO] at h
      exact ⟨1, by rw [h]⟩
    · obtain ⟨j, hj⟩ := retOs_keys p h
      exact ⟨j + 1, by omega⟩

theorem retAll_keys {key : Nat} {ret : Ret} : ∀ p ∈ (retAll key ret).2, ∃ j, p.1 = key + 10000 * j := by
  intro p h
  match ret with
  | [r] =>
    simp only [retAll] at h
    cases r <;> simp [retO] at h
    exact ⟨0, by rw [h]; rfl⟩
  | [] => exact retOs_keys p h
  | r :: r' :: rs => exact retOs_keys p h

theorem retV_refs {key k : Nat} {r : Ret1} (h : refs1 k (retV key r) = true) : ∃ p ∈ retO key r, p.1 = k := by
  cases r with
  | fresh e xs n => exact ⟨_, List.mem_singleton.2 rfl, Nat.eq_of_beq_eq_true h⟩
  | val c => cases h
  | agg cs => cases h

theorem retVs_refs {k : Nat} : ∀ {key : Nat} {rs : List Ret1}, refsAny k (retVs key rs) = true → ∃ p ∈ retOs key rs, p.1 = k
  | _, [], h => by cases h
  | key, r :: rs, h => by
    simp only [retVs, refsAny, Bool.or_eq_true] at h
    simp only [retOs, List.mem_append]
    rcases h with h | h
    · obtain ⟨p, hp, he⟩ := retV_refs h
      exact ⟨p, .inl hp, he⟩
    · obtain ⟨p, hp, he⟩ := retVs_refs h
      exact ⟨p, .inr hp, he⟩

theorem retAll_refs {key k : Nat} {ret : Ret} (h : refs k (retAll key ret).1 = true) : ∃ p ∈ (retAll key ret).2, p.1 = k := by
  match ret with
  | [r] =>
    refine retV_refs (r := r) ?_
    simp only [retAll] at h
    cases r <;> exact h
  | [] => exact retVs_refs h
  | r :: r' :: rs => exact retVs_refs h

theorem F_call {c : Call} {g : FuncId} (hphi : PhiPar E.phi) (ho : o.op = .call c) (hc : c.callee = .value (.func g)) (h : evalP E o ρv H ρ K = some r) : Footed E o ρv H K r := by
  have hops : o.op.operands.toList = .func g :: c.args.toList := by simp [ho, Op.operands, Call.operands, hc]
  have hm : ∀ y ∈ c.args.toList, y ∈ o.op.operands.toList := by rw [hops]; intro y hy; simp only [List.mem_cons]; exact .inr hy
  simp only [evalP, ho, hc] at h
  cases hid : memN g E.T.idf with
  | true =>
    rw [hid] at h
    simp only [cond_true] at h
    split at h
    · rename_i y hy
      split at h
      · rename_i v hv
        obtain ⟨hu, h⟩ := cond_none h rfl
        refine foot1 h (hm y (by rw [hy]; simp)) hv (fun k hk => hk) ?_ ?_
        · rw [hops, hy]
          intro t ht e
          rcases List.mem_cons.1 ht with ht | ht
          · cases ht
          · rw [← List.mem_singleton.1 ht] at hv
            rw [hv] at e
            cases e
            cases hu
        · intro ρv' H' hA
          have hv' : ρv' y = some v := by rw [hA.1 y (hm y (by rw [hy]; simp)), hv]
          simp only [evalP, ho, hc, hid, cond_true, hy, hv', hu, cond_false]
          rfl
      · cases h
    · cases h
  | false =>
  rw [hid] at h
  simp only [cond_false] at h
  split at h
  · rename_i vs hvs
    obtain ⟨ret, h, hpar⟩ := hphi _ _ _ _ _ h
    obtain ⟨hb, h⟩ := cond_none h rfl
    refine ⟨_, _, h, ?_, fun k hk => .inr (retAll_refs hk), retAll_keys, ?_⟩
    · rw [hops]
      intro t ht
      rcases List.mem_cons.1 ht with ht | ht
      · cases ht
      · exact argsV_def hvs t ht
    · intro ρv' H' hA
      have hk : (c.args.toList.any fun x => !(opKey ρv' x).isEmpty) = c.args.toList.any fun x => !(opKey ρv x).isEmpty := by
        rw [Bool.eq_iff_iff]
        simp only [List.any_eq_true]
        constructor
        · rintro ⟨x, hx, h2⟩
          exact ⟨x, hx, by rwa [opKey, hA.1 x (hm x hx)] at h2⟩
        · rintro ⟨x, hx, h2⟩
          exact ⟨x, hx, by rwa [opKey, hA.1 x (hm x hx)]⟩
      simp only [evalP, ho, hc, hid, argsV_cong hA _ _ hm, hvs, hpar, hk, hb, cond_false]
      rfl
  · cases h

/-- Each operation that changes nothing looks at its operands alone. -/
theorem evalP_foot (hphi : PhiPar E.phi) (h : evalP E o ρv H ρ K = some r) : Footed E o ρv H K r := by
  cases ho : o.op with
  | move y => exact F_move (.inl ho) h
  | assign y => exact F_move (.inr ho) h
  | pick c y z => exact F_pick ho h
  | alloc t => exact F_alloc ho h
  | box t y => exact F_box ho h
  | build t ps => exact F_build ho h
  | buildSlice t n ps => exact F_buildSlice ho h
  | load t y => exact F_load ho h
  | binOp op t y z t' => exact F_binOp ho h
  | unOp op t y => exact F_unOp ho h
  | convert s t y => exact F_convert ho h
  | extract y j => exact F_extract ho h
  | fieldAddr s y f => exact F_fieldAddr ho h
  | field s y f => exact F_field ho h
  | indexAddr t y z => exact F_indexAddr ho h
  | index t y z => exact F_index ho h
  | slice t y lo hi' mx => exact F_slice ho h
  | makeSlice t l c => exact F_makeSlice ho h
  | makeFunc fn first caps => exact F_makeFunc ho h
  | makeMap t rs =>
    cases rs with
    | none => exact F_makeMap ho h
    | some y => simp only [evalP, ho] at h; cases h
  | lookup t y z ok => exact F_lookup ho h
  | call c =>
    cases hc : c.callee with
    | builtin b =>
      cases b with
      | len => exact F_len ho hc h
      | cap => exact F_cap ho hc h
      | max => exact F_max ho hc h
      | min => exact F_min ho hc h
      | append => exact F_append ho hc h
      | _ => simp only [evalP, ho, hc] at h; cases h
    | value f =>
      cases f with
      | func g => exact F_call hphi ho hc h
      | _ => simp only [evalP, ho, hc] at h; cases h
    | invoke rv m => simp only [evalP, ho, hc] at h; cases h
  | _ => simp only [evalP, ho] at h; cases h

end
end Go.Vi
/-
  Vi: what an operation that changes the call's own leaves in the slots.
-/
set_option linter.unusedVariables false
set_option linter.unusedSimpArgs false
namespace Go.Vi
open Op

def KS : St → Option St := fun s => some s

/-- The slots name what was named, or what the operation's own slot stands for. -/
def Prov (o : Oper) (st st' : St) : Prop :=
  st'.tm.length = st.tm.length ∧ ∀ (t : Nat) (v : V), st'.tm[t]? = some v → ∀ k, refs k v = true → (∃ (t : Nat) (u : V), st.tm[t]? = some u ∧ refs k u = true) ∨ (o.dst ≠ none ∧ isKey o k)

structure EFoot (E : Env) (o : Oper) (st st' : St) : Prop where
  self : evalE E o st St KS = some st'
  prov : Prov o st st'

def PhioPar (E : Env) : Prop :=
  ∀ g flags vs (ρ : Type) (K : Ret → List Out → Option ρ) r, E.iop g = some flags → E.phio g vs ρ K = some r → ∃ ret outs, K ret outs = some r ∧ ∀ (ρ' : Type) (K' : Ret → List Out → Option ρ'), E.phio g vs ρ' K' = K' ret outs
def EnvPar (E : Env) : Prop := PhiPar E.phi ∧ PhioPar E

section
variable {E : Env} {o : Oper} {ρ : Type} {K : St → Option ρ} {r : ρ} {st st' : St} {H : Heap} {ρv : Val}

def EFooted (E : Env) (o : Oper) (st : St) {ρ : Type} (K : St → Option ρ) (r : ρ) : Prop := ∃ st', K st' = some r ∧ EFoot E o st st'

theorem put_len (st : St) (d : Option Tmp) (v : V) : (put st d v).tm.length = st.tm.length := by cases d <;> simp [put]

theorem put_get {st : St} {d : Option Tmp} {v u : V} {t : Nat} (h : (put st d v).tm[t]? = some u) : (d = some t ∧ u = v) ∨ st.tm[t]? = some u := by
  cases d with
  | none => exact .inr h
  | some d =>
    simp only [put, List.getElem?_set] at h
    split at h
    · rename_i hdt
      split at h
      · cases h; exact .inl ⟨by rw [hdt], rfl⟩
      · cases h
    · exact .inr h

theorem drop_len (st : St) (ks : List Nat) : (drop st ks).tm.length = st.tm.length := by
  cases ks with
  | nil => rfl
  | cons k ks => simp only [drop, cleanTm_length]

theorem drop_get {st : St} {ks : List Nat} {t : Nat} {v : V} (h : (drop st ks).tm[t]? = some v) : v = .undef ∨ st.tm[t]? = some v := by
  cases ks with
  | nil => exact .inr h
  | cons k ks =>
    simp only [drop, cleanTm_get, Option.map_eq_some_iff] at h
    obtain ⟨y, hy, hv⟩ := h
    cases hr : anyRefs (k :: ks) y with
    | true => rw [hr] at hv; exact .inl hv.symm
    | false => rw [hr] at hv; simp only [cond_false] at hv; subst hv; exact .inr hy

theorem hset_tm (st : St) (k : Nat) (ob : O) : (hset st k ob).tm = st.tm := rfl

/-- Only the operation's own slot turns, and its value names nothing but its own key. -/
theorem prov_put {st1 : St} {v : V} {s : St} (h1 : st1.tm.length = st.tm.length) (h2 : ∀ (t : Nat) (u : V), st1.tm[t]? = some u → u = .undef ∨ st.tm[t]? = some u)
    (hs : s.tm = (put st1 o.dst v).tm) (hv : ∀ k, refs k v = true → isKey o k) : Prov o st s := by
  refine ⟨by rw [hs, put_len, h1], fun t u hu k hk => ?_⟩
  rw [hs] at hu
  rcases put_get hu with ⟨hd, rfl⟩ | hu
  · exact .inr ⟨by rw [hd]; simp, hv k hk⟩
  · rcases h2 t u hu with rfl | hu
    · cases hk
    · exact .inl ⟨t, u, hu, hk⟩

theorem prov_same {v : V} {s : St} (hs : s.tm = (put st o.dst v).tm) (hv : ∀ k, refs k v = true → isKey o k) : Prov o st s :=
  prov_put rfl (fun t u h => .inr h) hs hv

theorem isKey_own {k : Nat} (h : refs k (.own (dstKey o.dst) none false) = true) : isKey o k := key0 (refs_own h)

theorem EF_store {t : TypeId} {y z : Operand} (ho : o.op = .store t y z) (h : evalE E o st ρ K = some r) : EFooted E o st K r := by
  simp only [evalE, ho] at h
  split at h
  · rename_i s k off vs h1 h2 h3
    split at h
    · rename_i cs hH
      obtain ⟨hd, h⟩ := cond_some h rfl
      exact ⟨_, h, by simp only [evalE, ho, h1, h2, h3, hH, hd, cond_true, KS], prov_same rfl (fun k hk => by cases hk)⟩
    · cases h
  · rename_i s k win i off vs h1 h2 h3
    split at h
    · rename_i e xs n hH
      obtain ⟨hd, h⟩ := cond_some h rfl
      obtain ⟨x, hx, h⟩ := Option.bind_eq_some_iff.1 h
      split at h
      · rename_i y' hy
        exact ⟨_, h, by simp only [evalE, ho, h1, h2, h3, hH, hd, cond_true, hx, Option.bind_some, hy, KS], prov_same rfl (fun k hk => by cases hk)⟩
      · cases h
    · cases h
  · cases h

theorem EF_mapUpdate {t : TypeId} {y z u : Operand} (ho : o.op = .mapUpdate t y z u) (h : evalE E o st ρ K = some r) : EFooted E o st K r := by
  simp only [evalE, ho] at h
  split at h
  · rename_i k kk n cs h1 h2 h3
    split at h
    · rename_i kk' e m kk2 e2 hH hm
      obtain ⟨hd, h⟩ := cond_some h rfl
      split at h
      · rename_i z' hz
        exact ⟨_, h, by simp only [evalE, ho, h1, h2, h3, hH, hm, hd, cond_true, hz, KS], prov_same rfl (fun k hk => by cases hk)⟩
      · cases h
    · cases h
  · cases h

theorem EF_buildSlice {t : TypeId} {n : Nat} {ps : Array (Nat × Operand)} (ho : o.op = .buildSlice t n ps) (h : evalE E o st ρ K = some r) : EFooted E o st K r := by
  simp only [evalE, ho] at h
  split at h
  · rename_i e hs
    split at h
    · rename_i xs hx
      obtain ⟨hd, h⟩ := cond_some h rfl
      exact ⟨_, h, by simp only [evalE, ho, hs, hx, hd, cond_true, KS], prov_put (drop_len _ _) (fun t u hu => drop_get hu) rfl (fun k hk => isKey_own hk)⟩
    · cases h
  · cases h

theorem EF_cut {t : TypeId} {y : Operand} {lo hi mx : Option Operand} (ho : o.op = .slice t y lo hi mx) (h : evalCut E o st t y lo hi mx ρ K = some r) : EFooted E o st K r := by
  simp only [evalCut] at h
  split at h
  · rename_i n e k off lo' hi' h1 h2 h3 h4 h5
    split at h
    · rename_i cs hH
      split at h
      · rename_i xs hx
        obtain ⟨hd, h⟩ := cond_some h rfl
        exact ⟨_, h, by simp only [evalE, ho, evalCut, h1, h2, h3, h4, h5, hH, hx, hd, cond_true, KS], prov_put (drop_len _ _) (fun t u hu => drop_get hu) rfl (fun k hk => by cases hk)⟩
      · cases h
    · cases h
  · cases h

theorem EF_append {c : Call} (ho : o.op = .call c) (hc : c.callee = .builtin .append) (h : evalE E o st ρ K = some r) : EFooted E o st K r := by
  simp only [evalE, ho, hc] at h
  split at h
  · rename_i x y t tx hx ht
    split at h
    · rename_i e e1 e2 ys2 h1 h2 h3
      split at h
      · rename_i ys k win h4 h5
        split at h
        · rename_i e' xs' n hH
          split at h
          · rename_i xs hxs
            obtain ⟨hd, h⟩ := cond_some h rfl
            exact ⟨_, h, by simp only [evalE, ho, hc, hx, ht, h1, h2, h3, h4, h5, hH, hxs, hd, cond_true, KS], prov_put (drop_len _ _) (fun t u hu => drop_get hu) rfl (fun k hk => isKey_own hk)⟩
          · cases h
        · cases h
      · cases h
    · cases h
  · cases h

theorem EF_copy {c : Call} (ho : o.op = .call c) (hc : c.callee = .builtin .copy) (h : evalE E o st ρ K = some r) : EFooted E o st K r := by
  simp only [evalE, ho, hc] at h
  split at h
  · rename_i x y t ts hx ht
    split at h
    · rename_i e0 k win tt e2 ys2 h1 h2 h3
      split at h
      · rename_i e xs n hH
        split at h
        · rename_i ys hys
          obtain ⟨hd, h⟩ := cond_some h rfl
          exact ⟨_, h, by simp only [evalE, ho, hc, hx, ht, h1, h2, h3, hH, hys, hd, cond_true, KS], prov_same rfl (fun k hk => by cases hk)⟩
        · cases h
      · cases h
    · cases h
  · cases h

theorem EF_delete {c : Call} (ho : o.op = .call c) (hc : c.callee = .builtin .delete) (h : evalE E o st ρ K = some r) : EFooted E o st K r := by
  simp only [evalE, ho, hc] at h
  split at h
  · rename_i x y t ts hx ht
    split at h
    · rename_i k kk n h1 h2
      split at h
      · rename_i kk' e es kk2 e2 hH hm
        obtain ⟨hd, h⟩ := cond_some h rfl
        exact ⟨_, h, by simp only [evalE, ho, hc, hx, ht, h1, h2, hH, hm, hd, cond_true, KS], prov_same rfl (fun k hk => by cases hk)⟩
      · cases h
    · cases h
  · cases h

theorem EF_del {c : Call} {f : Operand} (hf : isDelF E.T f = true) (ho : o.op = .call c) (hc : c.callee = .value f) (h : evalDel o c st ρ K = some r) : EFooted E o st K r := by
  simp only [evalDel] at h
  split at h
  · rename_i x y z hx
    split at h
    · rename_i k i j h1 h2 h3
      split at h
      · rename_i xs n hH
        obtain ⟨hd, h⟩ := cond_some h rfl
        exact ⟨_, h, by simp only [evalE, ho, hc, hf, cond_true, evalDel, hx, h1, h2, h3, hH, hd, KS], prov_put (drop_len _ _) (fun t u hu => drop_get hu) rfl (fun k hk => isKey_own hk)⟩
      · cases h
    · cases h
  · cases h

theorem EF_callv {c : Call} {f : Operand} (hphi : EnvPar E) (ho : o.op = .call c) (hc : c.callee = .value f) (h : evalE E o st ρ K = some r) : EFooted E o st K r := by
  simp only [evalE, ho, hc] at h
  cases hdl : isDelF E.T f with
  | true =>
    rw [hdl] at h
    exact EF_del hdl ho hc h
  | false =>
  rw [hdl, cond_false] at h
  split at h
  · rename_i v hv
    split at h
    · rename_i g caps hg
      split at h
      · rename_i vs hvs
        split at h
        rotate_left
        · rename_i flags hfl
          split at h
          · rename_i ks oth hio
            obtain ⟨ret, outs, h, hpar⟩ := hphi.2 _ _ _ _ _ _ hfl h
            obtain ⟨hd, h⟩ := cond_some h rfl
            obtain ⟨hp', hput, h, hCC⟩ := outsPutC_some h
            obtain ⟨hdd, h⟩ := cond_some h rfl
            have hl : ∀ (t : Nat) (u : V), (bif ret.any Ret1.hasSl || outs.any Out.hasSl then drop st oth else st).tm[t]? = some u → u = .undef ∨ st.tm[t]? = some u := by
              intro t u hu
              cases hb : ret.any Ret1.hasSl || outs.any Out.hasSl with
              | true => rw [hb] at hu; exact drop_get hu
              | false => rw [hb] at hu; exact .inr hu
            have hn : (bif ret.any Ret1.hasSl || outs.any Out.hasSl then drop st oth else st).tm.length = st.tm.length := by
              cases ret.any Ret1.hasSl || outs.any Out.hasSl
              · rfl
              · exact drop_len _ _
            refine ⟨_, h, by simp only [evalE, ho, hc, hdl, cond_false, hv, hg, hvs, hfl, hio, hpar, hd, hCC, hdd, cond_true, KS], prov_put hn hl rfl fun k hk => ?_⟩
            obtain ⟨p, hp, he⟩ := retAll_refs hk
            obtain ⟨j, hj⟩ := retAll_keys p hp
            exact ⟨j, he ▸ hj⟩
          · cases h
        rename_i hfl
        obtain ⟨ret, h, hpar⟩ := hphi.1 _ _ _ _ _ h
        obtain ⟨hd, h⟩ := cond_some h rfl
        have hl : ∀ (t : Nat) (u : V), (bif ret.any Ret1.hasSl then drop st (v.ownKey ++ c.args.toList.flatMap (opKey (opV st))) else st).tm[t]? = some u → u = .undef ∨ st.tm[t]? = some u := by
          intro t u hu
          cases hb : ret.any Ret1.hasSl with
          | true => rw [hb] at hu; exact drop_get hu
          | false => rw [hb] at hu; exact .inr hu
        have hn : (bif ret.any Ret1.hasSl then drop st (v.ownKey ++ c.args.toList.flatMap (opKey (opV st))) else st).tm.length = st.tm.length := by
          cases ret.any Ret1.hasSl
          · rfl
          · exact drop_len _ _
        refine ⟨_, h, by simp only [evalE, ho, hc, hdl, cond_false, hv, hg, hvs, hfl, hpar, hd, cond_true, KS], prov_put hn hl rfl fun k hk => ?_⟩
        obtain ⟨p, hp, he⟩ := retAll_refs hk
        obtain ⟨j, hj⟩ := retAll_keys p hp
        exact ⟨j, he ▸ hj⟩
      · cases h
    · cases h
  · cases h

theorem evalE_foot (hphi : EnvPar E) (h : evalE E o st ρ K = some r) : EFooted E o st K r := by
  cases ho : o.op with
  | store t p y => exact EF_store ho h
  | mapUpdate t p q y => exact EF_mapUpdate ho h
  | buildSlice t n ps => exact EF_buildSlice ho h
  | slice t y lo hi mx => exact EF_cut ho (by simpa only [evalE, ho] using h)
  | call c =>
    cases hc : c.callee with
    | builtin b =>
      cases b with
      | append => exact EF_append ho hc h
      | copy => exact EF_copy ho hc h
      | delete => exact EF_delete ho hc h
      | _ => simp only [evalE, ho, hc] at h; cases h
    | value f => exact EF_callv hphi ho hc h
    | invoke rv m => simp only [evalE, ho, hc] at h; cases h
  | _ => simp only [evalE, ho] at h; cases h

/-! ### Stores and copies next to moves -/

theorem opV_congr {st st2 : St} {y : Operand} (h : ∀ t, y = .tmp t → st2.tm[t]? = st.tm[t]?) : opV st2 y = opV st y := by
  cases y with
  | tmp t => exact h t rfl
  | _ => rfl

/-- What a store or a copy does hangs on its operands and on what there is. -/
theorem evalE_loc (hl : isLoc o = true) (h : evalE E o st St KS = some st') : ∃ u k ob, st' = hset (put st o.dst u) k ob ∧ (∀ j, refs j u = false) ∧
    ∀ st2, st2.hp = st.hp → (∀ y ∈ o.op.operands.toList, opV st2 y = opV st y) → evalE E o st2 St KS = some (hset (put st2 o.dst u) k ob) := by
  unfold isLoc at hl
  split at hl
  · rename_i t y z ho
    simp only [evalE, ho] at h
    have hy : y ∈ o.op.operands.toList := by simp [ho, Op.operands]
    have hz : z ∈ o.op.operands.toList := by simp [ho, Op.operands]
    split at h
    · rename_i s k off vs h1 h2 h3
      split at h
      · rename_i cs hH
        obtain ⟨hd, h⟩ := cond_some h rfl
        cases h
        refine ⟨_, _, _, rfl, fun _ => rfl, fun st2 hp hop => ?_⟩
        simp only [evalE, ho, hop y hy, hop z hz, hp, h1, h2, h3, hH, hd, cond_true, KS]
      · cases h
    · rename_i s k win i off vs h1 h2 h3
      split at h
      · rename_i e xs n hH
        obtain ⟨hd, h⟩ := cond_some h rfl
        obtain ⟨x, hx, h⟩ := Option.bind_eq_some_iff.1 h
        split at h
        · rename_i y' hy'
          cases h
          refine ⟨_, _, _, rfl, fun _ => rfl, fun st2 hp hop => ?_⟩
          simp only [evalE, ho, hop y hy, hop z hz, hp, h1, h2, h3, hH, hd, cond_true, hx, Option.bind_some, hy', KS]
        · cases h
      · cases h
    · cases h
  · rename_i c ho
    split at hl
    · rename_i hc
      have hops := call_ops ho hc
      simp only [evalE, ho, hc] at h
      split at h
      · rename_i x y t ts hx ht
        rw [hx] at hops
        have hmx : x ∈ o.op.operands.toList := by rw [hops]; simp
        have hmy : y ∈ o.op.operands.toList := by rw [hops]; simp
        split at h
        · rename_i e0 k win tt e2 ys2 h1 h2 h3
          split at h
          · rename_i e xs n hH
            split at h
            · rename_i ys hys
              obtain ⟨hd, h⟩ := cond_some h rfl
              cases h
              refine ⟨_, _, _, rfl, fun _ => rfl, fun st2 hp hop => ?_⟩
              simp only [evalE, ho, hc, hx, ht, hop x hmx, hop y hmy, hp, h1, h2, h3, hH, hys, hd, cond_true, KS]
            · cases h
          · cases h
        · cases h
      · cases h
    · cases hl
  · cases hl

end
end Go.Vi
/-
  Vi: regions, operation by operation, in whatever order their edges allow.
-/
set_option linter.unusedVariables false
set_option linter.unusedSimpArgs false
namespace Go.Vi
open Op

/-- Does an operation's guard want it? -/
def wantV (all : List Oper) (o : Oper) (st : St) : Option Bool :=
  match o.guard with
  | none => some true
  | some (j, want) =>
    match (all[j]?).bind (·.dst) with
    | none => none
    | some t =>
      match st.tm[t]? with
      | none => some false
      | some (.c (.bool b)) => some (b == want)
      | some (.tup []) => some false
      | _ => none

/-- What a step brings that hangs on its operands alone. -/
inductive LStep (E : Env) (all : List Oper) (o : Oper) (st : St) : V → List (Nat × O) → Prop where
  | pure {v : V} {obs : List (Nat × O)} : wantV all o st = some true → isEff E all o = false → Foot E o (opV st) st.hp v obs → (∀ p ∈ obs, p.1 < pinLo) → LStep E all o st v obs
  | skip : wantV all o st = some false → LStep E all o st (.tup []) []
  | pick {c a b : Operand} {p : Bool} {v : V} : wantV all o st = some true → o.op = .pick c a b → opV st c = some (.c (.bool p)) → opV st (bif p then a else b) = some v → v.isUndef = false → LStep E all o st v []

def nxt (st : St) (o : Oper) (v : V) (obs : List (Nat × O)) : St := { tm := (put st o.dst v).tm, hp := updAll st.hp obs }

inductive FStep (E : Env) (all : List Oper) (o : Oper) (st : St) : St → Prop where
  | loc {v : V} {obs : List (Nat × O)} : LStep E all o st v obs → FStep E all o st (nxt st o v obs)
  | eff {st' : St} : wantV all o st = some true → isEff E all o = true → EFoot E o st st' → FStep E all o st st'

def FRun (E : Env) (all : List Oper) : List Oper → St → St → Prop
  | [], st, st' => st = st'
  | o :: os, st, st' => ∃ s, FStep E all o st s ∧ FRun E all os s st'

/-- No slot names what these operations are going to make. -/
def Fresh (st : St) (os : List Oper) : Prop := ∀ q ∈ os, isMove q = false → ∀ d, q.dst = some d → ∀ (j t : Nat) (u : V), st.tm[t]? = some u → refs (d + 10000 * j) u = false

/-- Each slot is written once. -/
structure Ssa (E : Env) (all os : List Oper) : Prop where
  nd : (dstsOf os).Nodup
  lt : ∀ d ∈ dstsOf os, d < 10000
  has : ∀ o ∈ os, isEff E all o = false → o.dst ≠ none

section
variable {P : Program} {E : Env} {all : List Oper} {o p q : Oper} {x : Cx} {γ : Gam} {w : World} {a : Act} {st st' s1 s2 : St} {v vp vq : V} {obs obsp obsq : List (Nat × O)}

theorem opV_tmp {y : Operand} {u : V} {k : Nat} (h : opV st y = some u) (hr : refs k u = true) : ∃ t, y = .tmp t ∧ st.tm[t]? = some u := by
  cases y with
  | tmp t => exact ⟨t, rfl, h⟩
  | const c =>
    exfalso
    simp only [opV] at h
    have key : ∀ c : Value, ∀ x : C, constC c = some x → refs k (.c x) = true → False := fun c x _ hx => by cases hx
    cases c with
    | agg cs =>
      simp only [constV, Option.map_eq_some_iff] at h
      obtain ⟨_, _, rfl⟩ := h
      cases hr
    | _ =>
      simp only [constV, Option.map_eq_some_iff] at h
      obtain ⟨_, _, rfl⟩ := h
      cases hr
  | global g => cases h
  | func f => cases h; cases hr

theorem mem_reads {t : Nat} (h : Operand.tmp t ∈ o.op.operands.toList) : t ∈ readsOf all o := by
  unfold readsOf
  refine List.mem_append.2 (.inl (List.mem_filterMap.2 ⟨.tmp t, h, rfl⟩))

theorem mem_guard {j : Nat} {want : Bool} {t : Nat} (h : o.guard = some (j, want)) (ht : (all[j]?).bind (·.dst) = some t) : t ∈ readsOf all o := by
  unfold readsOf
  refine List.mem_append.2 (.inr ?_)
  rw [h]
  simp [ht]

/-- The slots that an operation reads read the same. -/
def SameR (all : List Oper) (o : Oper) (st st2 : St) : Prop := ∀ t ∈ readsOf all o, st2.tm[t]? = st.tm[t]?
/-- And what they name. -/
def SameH (all : List Oper) (o : Oper) (st st2 : St) : Prop := ∀ t ∈ readsOf all o, ∀ (u : V), st.tm[t]? = some u → ∀ k, refs k u = true → st2.hp k = st.hp k

theorem wantV_congr (h : SameR all o st s1) : wantV all o s1 = wantV all o st := by
  unfold wantV
  cases hg : o.guard with
  | none => rfl
  | some g =>
    obtain ⟨j, want⟩ := g
    cases ht : (all[j]?).bind (·.dst) with
    | none => simp only [ht]
    | some t => simp only [ht, h t (mem_guard hg ht)]

theorem opV_same {y : Operand} (h : SameR all o st s1) (hy : y ∈ o.op.operands.toList) : opV s1 y = opV st y :=
  opV_congr fun t ht => h t (mem_reads (ht ▸ hy))

theorem LStep.congr (hphi : EnvPar E) (h : LStep E all o st v obs) (hR : SameR all o st s1) (hH : SameH all o st s1) : LStep E all o s1 v obs := by
  cases h with
  | pure hw he hf hl =>
    refine .pure (by rw [wantV_congr hR]; exact hw) he ?_ hl
    have := hf.cong (opV s1) s1.hp ⟨fun y hy => opV_same hR hy, fun y hy u hu k hk => by
      obtain ⟨t, rfl, ht⟩ := opV_tmp hu hk
      exact hH t (mem_reads hy) u ht k hk⟩
    obtain ⟨v', obs', hk, hf'⟩ := evalP_foot hphi.1 this
    cases hk
    exact hf'
  | skip hw => exact .skip (by rw [wantV_congr hR]; exact hw)
  | pick hw ho hc hv hu =>
    rename_i c a b p
    have hops : o.op.operands.toList = [c, a, b] := by simp [ho, Op.operands]
    refine .pick (c := c) (a := a) (b := b) (p := p) (by rw [wantV_congr hR]; exact hw) ho ?_ ?_ hu
    · rw [opV_same hR (by rw [hops]; simp)]; exact hc
    · rw [opV_same hR (by rw [hops]; cases p <;> simp)]; exact hv

/-- A move makes nothing. -/
theorem move_obs {ρv : Val} {H : Heap} (hm : isMove o = true) (hs : evalP E o ρv H _ K0 = some (v, obs)) : obs = [] := by
  unfold isMove at hm
  have key : ∀ y, isNil y = false → (o.op = .move y ∨ o.op = .assign y) → obs = [] := by
    intro y hn ho
    have hs' : (match ρv y with | some v => bif v.isUndef then none else K0 v [] | none => none) = some (v, obs) := by
      rcases ho with ho | ho
      all_goals
        simp only [evalP, ho, hn, cond_false] at hs
        exact hs
    split at hs'
    · obtain ⟨_, hk⟩ := cond_none hs' rfl
      cases hk
      rfl
    · cases hs'
  split at hm
  · rename_i y ho; exact key y (by simpa using hm) (.inl ho)
  · rename_i y ho; exact key y (by simpa using hm) (.inr ho)
  · cases hm

theorem LStep.maker (h : LStep E all o st v obs) (hn : obs ≠ []) : isMove o = false := by
  cases hm : isMove o with
  | false => rfl
  | true =>
    cases h with
    | pure hw he hf => exact absurd (move_obs hm hf.self) hn
    | skip hw => exact absurd rfl hn
    | pick => exact absurd rfl hn

theorem ne_nil_of_mem {α : Type} {a : α} {l : List α} (h : a ∈ l) : l ≠ [] := fun e => by rw [e] at h; cases h

theorem LStep.prov (h : LStep E all o st v obs) : ∀ k, refs k v = true → (∃ t ∈ readsOf all o, ∃ u : V, st.tm[t]? = some u ∧ refs k u = true) ∨ (isMove o = false ∧ isKey o k) := by
  intro k hk
  cases h with
  | pure hw he hf hl =>
    rcases hf.prov k hk with ⟨y, hy, u, hu, hr⟩ | ⟨p, hp, he⟩
    · obtain ⟨t, rfl, ht⟩ := opV_tmp hu hr
      exact .inl ⟨t, mem_reads hy, u, ht, hr⟩
    · exact .inr ⟨(LStep.pure hw ‹isEff E all o = false› hf hl).maker (ne_nil_of_mem hp), he ▸ hf.keys p hp⟩
  | skip hw => cases hk
  | pick hw ho hc hv hu =>
    rename_i c a b p
    obtain ⟨t, hy, ht⟩ := opV_tmp hv hk
    refine .inl ⟨t, mem_reads ?_, v, ht, hk⟩
    rw [← hy]
    simp only [ho, Op.operands]
    cases p <;> simp

theorem LStep.lo (h : LStep E all o st v obs) : ∀ p ∈ obs, p.1 < pinLo := by
  cases h with
  | pure hw he hf hl => exact hl
  | skip hw => simp
  | pick => simp

theorem LStep.keys (h : LStep E all o st v obs) : ∀ p ∈ obs, isKey o p.1 := by
  cases h with
  | pure hw he hf => exact hf.keys
  | skip hw => simp
  | pick => simp

theorem LStep.has (hs : o ∈ all → True) (h : LStep E all o st v obs) (hn : obs ≠ []) : isEff E all o = false := by
  cases h with
  | pure hw he hf => exact he
  | skip hw => exact absurd rfl hn
  | pick => exact absurd rfl hn

theorem updAll_get (H : Heap) : ∀ (obs : List (Nat × O)) (j : Nat), updAll H obs j = match updAll emp obs j with | some ob => some ob | none => H j
  | [], j => rfl
  | (k, ob) :: r, j => by
    simp only [updAll, upd]
    cases Nat.beq j k
    · exact updAll_get H r j
    · rfl

theorem updAll_no (H : Heap) : ∀ (obs : List (Nat × O)) (j : Nat), (∀ p ∈ obs, p.1 ≠ j) → updAll H obs j = H j
  | [], j, _ => rfl
  | (k, ob) :: r, j, h => by
    have h1 : j ≠ k := fun e => h (k, ob) (by simp) e.symm
    simp only [updAll, upd, beq_false h1, cond_false]
    exact updAll_no H r j fun p hp => h p (by simp [hp])

theorem updAll_comm (H : Heap) (a b : List (Nat × O)) (h : ∀ p ∈ a, ∀ q ∈ b, p.1 ≠ q.1) : updAll (updAll H a) b = updAll (updAll H b) a := by
  funext j
  rw [updAll_get (updAll H a), updAll_get (updAll H b), updAll_get H a, updAll_get H b]
  cases ha : updAll emp a j with
  | none => rfl
  | some x =>
    cases hb : updAll emp b j with
    | none => rfl
    | some y =>
      exfalso
      have e1 : ¬ ∀ p ∈ a, p.1 ≠ j := fun hn => by rw [updAll_no emp a j hn] at ha; cases ha
      have e2 : ¬ ∀ p ∈ b, p.1 ≠ j := fun hn => by rw [updAll_no emp b j hn] at hb; cases hb
      simp only [Classical.not_forall, ne_eq, Classical.not_not] at e1 e2
      obtain ⟨p, hp, e1⟩ := e1
      obtain ⟨q, hq, e2⟩ := e2
      exact h p hp q hq (e1.trans e2.symm)

theorem put_tm_comm (st : St) (d e : Option Tmp) (u v : V) (h : ∀ t, d = some t → e ≠ some t) : (put (put st d u) e v).tm = (put (put st e v) d u).tm := by
  cases d with
  | none => rfl
  | some d =>
    cases e with
    | none => rfl
    | some e =>
      have : d ≠ e := fun he => h d rfl (by rw [he])
      simp only [put, List.set_comm _ _ this]

theorem mem_memN {d : Nat} {l : List Nat} : memN d l = true ↔ d ∈ l := by
  unfold memN
  rw [List.any_eq_true]
  constructor
  · rintro ⟨y, hy, he⟩
    rw [Nat.eq_of_beq_eq_true he]
    exact hy
  · intro h
    exact ⟨d, h, Nat.beq_refl d⟩

theorem disj_spec {a b : List Nat} (h : disjN a b = true) : ∀ d ∈ a, d ∉ b := by
  intro d hd hb
  have := List.all_eq_true.1 h d hd
  rw [mem_memN.2 hb] at this
  cases this

structure Indep (E : Env) (all : List Oper) (p q : Oper) : Prop where
  pd : ∀ d, p.dst = some d → q.dst ≠ some d ∧ d ∉ readsOf all q
  qd : ∀ d, q.dst = some d → d ∉ readsOf all p
  kind : (isEff E all p = false ∧ isEff E all q = false) ∨ (isMove p = true ∧ isLoc q = true) ∨ (isLoc p = true ∧ isMove q = true)

theorem indep_spec (h : indep E all p q = true) : Indep E all p q := by
  simp only [indep, Bool.and_eq_true, Bool.or_eq_true, Bool.not_eq_true'] at h
  obtain ⟨⟨⟨⟨h1, h2⟩, h3⟩, h4⟩, h5⟩ := h
  refine ⟨fun d hd => ?_, fun d hd => ?_, ?_⟩
  · have := disj_spec h1 d (by simp [hd])
    simp only [List.mem_append, not_or, Option.mem_toList] at this
    exact ⟨this.1, this.2⟩
  · exact disj_spec h2 d (by simp [hd])
  · rcases h5 with (h5 | h5) | h5
    · exact .inl h5
    · exact .inr (.inl h5)
    · exact .inr (.inr h5)

theorem set_ne {st : St} {d : Option Tmp} {v : V} {t : Nat} (h : d ≠ some t) : (put st d v).tm[t]? = st.tm[t]? := by
  cases d with
  | none => rfl
  | some d =>
    simp only [put, List.getElem?_set]
    rw [if_neg fun e => h (by rw [e])]

theorem move_eff (h : isMove o = true) : isEff E all o = false := by
  unfold isMove at h
  split at h
  · rename_i y ho; simp only [isEff, ho]
  · rename_i y ho; simp only [isEff, ho]
  · cases h

/-- A move looks at no memory. -/
theorem LStep.move (hphi : EnvPar E) (hm : isMove o = true) (h : LStep E all o st v obs) : obs = [] ∧ ∀ s1, SameR all o st s1 → LStep E all o s1 v [] := by
  cases h with
  | skip hw => exact ⟨rfl, fun s1 hR => .skip (by rw [wantV_congr hR]; exact hw)⟩
  | pick hw ho hc hv hu => simp [isMove, ho] at hm
  | pure hw he hf =>
    have hs := hf.self
    unfold isMove at hm
    have key : ∀ y, isNil y = false → (o.op = .move y ∨ o.op = .assign y) → obs = [] ∧ ∀ s1, SameR all o st s1 → LStep E all o s1 v [] := by
      intro y hn ho
      have hy : y ∈ o.op.operands.toList := by rcases ho with ho | ho <;> simp [ho, Op.operands]
      have hs' : (match opV st y with | some v => bif v.isUndef then none else K0 v [] | none => none) = some (v, obs) := by
        rcases ho with ho | ho
        all_goals
          simp only [evalP, ho, hn, cond_false] at hs
          exact hs
      split at hs'
      · rename_i v' hv
        obtain ⟨hu, hk⟩ := cond_none hs' rfl
        cases hk
        refine ⟨rfl, fun s1 hR => .pure (by rw [wantV_congr hR]; exact hw) he ?_ (by simp)⟩
        have : evalP E o (opV s1) s1.hp _ K0 = some (v, []) := by
          rcases ho with ho | ho
          all_goals
            simp only [evalP, ho, hn, cond_false, opV_same hR hy, hv, hu]
            rfl
        obtain ⟨v', obs', hk, hf'⟩ := evalP_foot hphi.1 this
        cases hk
        exact hf'
      · cases hs'
    split at hm
    · rename_i y ho; exact key y (by simpa using hm) (.inl ho)
    · rename_i y ho; exact key y (by simpa using hm) (.inr ho)
    · cases hm

theorem isKey_dst {d k : Nat} (hd : o.dst = some d) (h : isKey o k) : ∃ j, k = d + 10000 * j := by
  obtain ⟨j, hj⟩ := h
  exact ⟨j, by rw [hd] at hj; exact hj⟩

/-- No slot names an operation's keys. -/
def Fresh1 (st : St) (o : Oper) : Prop := isMove o = false → ∀ d, o.dst = some d → ∀ (j t : Nat) (u : V), st.tm[t]? = some u → refs (d + 10000 * j) u = false

theorem not_key (hf : Fresh1 st o) (hmk : isMove o = false) (hd : o.dst ≠ none) {t : Nat} {u : V} (hu : st.tm[t]? = some u) {k : Nat} (hk : refs k u = true) : ¬ isKey o k := by
  intro h
  cases hdd : o.dst with
  | none => exact hd hdd
  | some d =>
    obtain ⟨j, rfl⟩ := isKey_dst hdd h
    rw [hf hmk d hdd j t u hu] at hk
    cases hk

theorem keys_apart {d e : Nat} (hd : o.dst = some d) (he : p.dst = some e) (hde : d ≠ e) (hd1 : d < 10000) (he1 : e < 10000) {k k' : Nat} (h : isKey o k) (h' : isKey p k') : k ≠ k' := by
  obtain ⟨j, rfl⟩ := isKey_dst hd h
  obtain ⟨j', rfl⟩ := isKey_dst he h'
  omega

/-- Two operations that do not mind each other may change places. -/
theorem swap (hphi : EnvPar E) (hi : Indep E all p q) (hp : Fresh1 st p) (hq : Fresh1 st q) (hdp : isEff E all p = false → p.dst ≠ none) (hdq : isEff E all q = false → q.dst ≠ none)
    (hlp : ∀ d, p.dst = some d → d < 10000) (hlq : ∀ d, q.dst = some d → d < 10000) (h1 : FStep E all p st s1) (h2 : FStep E all q s1 s2) :
    ∃ s, FStep E all q st s ∧ FStep E all p s s2 := by
  have comm : ∀ t, p.dst = some t → q.dst ≠ some t := fun t ht => (hi.pd t ht).1
  -- slots that q reads are not p's own
  have rq : ∀ u, ∀ (s : St), s.tm = (put st p.dst u).tm → SameR all q s st := fun u s hs t ht => by
    rw [hs, set_ne]
    intro e
    exact (hi.pd t e).2 ht
  have rp : ∀ u, ∀ (s : St), s.tm = (put st q.dst u).tm → SameR all p st s := fun u s hs t ht => by
    rw [hs, set_ne]
    intro e
    exact hi.qd t e ht
  cases h1 with
  | loc l1 =>
    rename_i vp obsp
    cases h2 with
    | loc l2 =>
      rename_i vq obsq
      -- what q names is not new
      have hobp : obsp ≠ [] → p.dst ≠ none := fun hn => hdp (l1.has (fun _ => trivial) hn)
      have hobq : obsq ≠ [] → q.dst ≠ none := fun hn => hdq (l2.has (fun _ => trivial) hn)
      have l2' : LStep E all q st vq obsq := by
        refine l2.congr hphi (rq vp _ rfl) ?_
        intro t ht u hu k hk
        have hu' : st.tm[t]? = some u := by
          rw [rq vp (nxt st p vp obsp) rfl t ht]
          exact hu
        refine (updAll_no st.hp obsp k fun pr hpr e => ?_).symm
        exact not_key hp (l1.maker (ne_nil_of_mem hpr)) (hobp (ne_nil_of_mem hpr)) hu' hk (e ▸ l1.keys pr hpr)
      have l1' : LStep E all p (nxt st q vq obsq) vp obsp := by
        refine l1.congr hphi (rp vq _ rfl) ?_
        intro t ht u hu k hk
        refine updAll_no st.hp obsq k fun pr hpr e => ?_
        exact not_key hq (l2.maker (ne_nil_of_mem hpr)) (hobq (ne_nil_of_mem hpr)) hu hk (e ▸ l2.keys pr hpr)
      refine ⟨_, .loc l2', ?_⟩
      have : nxt (nxt st q vq obsq) p vp obsp = nxt (nxt st p vp obsp) q vq obsq := by
        have e1 := put_tm_comm st p.dst q.dst vp vq comm
        have e2 : updAll (updAll st.hp obsq) obsp = updAll (updAll st.hp obsp) obsq := by
          refine updAll_comm _ _ _ fun a ha b hb => ?_
          cases hpd : p.dst with
          | none => exact absurd hpd (hobp fun hn => by rw [hn] at hb; cases hb)
          | some d =>
            cases hqd : q.dst with
            | none => exact absurd hqd (hobq fun hn => by rw [hn] at ha; cases ha)
            | some e =>
              exact keys_apart hqd hpd (fun he => comm d hpd (by rw [hqd, he])) (hlq e hqd) (hlp d hpd) (l2.keys a ha) (l1.keys b hb)
        have e3 : ∀ (s : St) (d : Option Tmp) (v : V), (put s d v).tm = (put { tm := s.tm, hp := st.hp } d v).tm := fun s d v => by cases d <;> rfl
        simp only [nxt]
        rw [e3, e3 { tm := (put st p.dst vp).tm, hp := updAll st.hp obsp }, e2]
        congr 1
        have e4 : ∀ (d : Option Tmp) (v : V), ({ tm := (put st d v).tm, hp := st.hp } : St) = put st d v := fun d v => by cases d <;> rfl
        rw [e4, e4]
        exact e1.symm
      rw [← this]
      exact .loc l1'
    | eff hw he hf =>
      have hk : isMove p = true ∧ isLoc q = true := by
        rcases hi.kind with h | h | h
        · rw [h.2] at he; cases he
        · exact h
        · rw [move_eff h.2] at he; cases he
      obtain ⟨rfl, hmv⟩ := l1.move hphi hk.1
      obtain ⟨u, k, ob, rfl, hu, hl⟩ := evalE_loc hk.2 hf.self
      have hR := rq vp (nxt st p vp []) rfl
      have hev : evalE E q st St KS = some (hset (put st q.dst u) k ob) := hl st rfl fun y hy => opV_same hR hy
      obtain ⟨s', hs', hf'⟩ := evalE_foot hphi hev
      cases hs'
      refine ⟨_, .eff (by rw [wantV_congr hR]; exact hw) he hf', ?_⟩
      have l1' := hmv (hset (put st q.dst u) k ob) (rp u _ rfl)
      have : nxt (hset (put st q.dst u) k ob) p vp [] = hset (put (nxt st p vp []) q.dst u) k ob := by
        have e1 := put_tm_comm st p.dst q.dst vp u comm
        have e3 : ∀ (s : St) (d : Option Tmp) (v : V), put s d v = { tm := (put s d v).tm, hp := s.hp } := fun s d v => by cases d <;> rfl
        have e5 : ∀ (s s' : St) (d : Option Tmp) (v : V), s.tm = s'.tm → (put s d v).tm = (put s' d v).tm := fun s s' d v h => by cases d <;> simp [put, h]
        simp only [nxt, hset, updAll, put_hp]
        congr 1
        have a1 := e5 { tm := (put st q.dst u).tm, hp := Vi.upd st.hp k ob } (put st q.dst u) p.dst vp rfl
        have a2 := e5 (put st p.dst vp) { tm := (put st p.dst vp).tm, hp := st.hp } q.dst u rfl
        exact a1.trans (e1.symm.trans a2)
      rw [← this]
      exact .loc l1'
  | eff hw he hf =>
    have hk : isLoc p = true ∧ isMove q = true := by
      rcases hi.kind with h | h | h
      · rw [h.1] at he; cases he
      · rw [move_eff h.1] at he; cases he
      · exact h
    obtain ⟨u, k, ob, rfl, hu, hl⟩ := evalE_loc hk.1 hf.self
    cases h2 with
    | eff hw2 he2 hf2 => rw [move_eff hk.2] at he2; cases he2
    | loc l2 =>
      rename_i vq obsq
      obtain ⟨rfl, hmv⟩ := l2.move hphi hk.2
      have l2' := hmv st (rq u _ rfl)
      refine ⟨_, .loc l2', ?_⟩
      have hR := rp vq (nxt st q vq []) rfl
      have hev : evalE E p (nxt st q vq []) St KS = some (hset (put (nxt st q vq []) p.dst u) k ob) := hl _ rfl fun y hy => opV_same hR hy
      obtain ⟨s', hs', hf'⟩ := evalE_foot hphi hev
      cases hs'
      have : hset (put (nxt st q vq []) p.dst u) k ob = nxt (hset (put st p.dst u) k ob) q vq [] := by
        have e1 := put_tm_comm st p.dst q.dst u vq comm
        have e5 : ∀ (s s' : St) (d : Option Tmp) (v : V), s.tm = s'.tm → (put s d v).tm = (put s' d v).tm := fun s s' d v h => by cases d <;> simp [put, h]
        simp only [nxt, hset, updAll, put_hp]
        congr 1
        have a1 := e5 { tm := (put st p.dst u).tm, hp := Vi.upd st.hp k ob } (put st p.dst u) q.dst vq rfl
        have a2 := e5 (put st q.dst vq) { tm := (put st q.dst vq).tm, hp := st.hp } p.dst u rfl
        exact (a1.trans (e1.trans a2)).symm
      rw [← this]
      exact .eff (by rw [wantV_congr hR]; exact hw) he hf'

end
end Go.Vi
/-
  Vi: regions: each step is sound; drawn orders.
-/
set_option linter.unusedVariables false
set_option linter.unusedSimpArgs false
namespace Go.Vi
open Op

section
variable {P : Program} {E : Env} {all : List Oper} {o p q : Oper} {x : Cx} {γ : Gam} {w : World} {a : Act} {st st' s1 s2 : St} {v vp vq : V} {obs obsp obsq : List (Nat × O)}
variable {ops : Array Oper} {Q : Exit → Act → World → Prop}

theorem wanted_of {b : Bool} (hr : RS x γ st a w) (h : wantV ops.toList o st = some b) : Region.wanted o (yielded ops a.tmps) = b := by
  unfold wantV at h
  unfold Region.wanted
  cases hg : o.guard with
  | none =>
    rw [hg] at h
    cases h
    rfl
  | some g =>
    obtain ⟨j, want⟩ := g
    rw [hg] at h
    simp only at h ⊢
    cases ht : (ops.toList[j]?).bind (·.dst) with
    | none => rw [ht] at h; cases h
    | some t =>
      rw [ht] at h
      simp only at h
      have hj : (ops[j]?).bind (·.dst) = some t := by rw [← ht]; simp
      cases hv : st.tm[t]? with
      | none =>
        rw [hv] at h
        cases h
        have : a.tmps[t]? = none := by
          rw [Array.getElem?_eq_none_iff, ← hr.len]
          exact List.getElem?_eq_none_iff.1 hv
        unfold yielded
        rw [hj, Option.bind_some, this]
        rfl
      | some v =>
        rw [hv] at h
        have hlt : t < a.tmps.size := by
          rw [← hr.len]
          rcases Nat.lt_or_ge t st.tm.length with h1 | h1
          · exact h1
          · rw [List.getElem?_eq_none h1] at hv
            cases hv
        have hVR := hr.tm t v hv
        have hget : a.tmps[t]? = some (a.tmps.getD t undef) := by
          simp [Array.getD, hlt]
        have hy : yielded ops a.tmps j = match a.tmps.getD t undef with | .bool b => some b | _ => none := by
          unfold yielded
          rw [hj]
          simp only [Option.bind_some, hget]
          cases a.tmps.getD t undef <;> rfl
        rw [hy]
        split at h
        · rename_i he
          cases he
        · rename_i b' he
          cases he
          have : a.tmps.getD t undef = .bool b' := hVR
          rw [this]
          cases h
          cases b' <;> cases want <;> rfl
        · rename_i he
          cases he
          obtain ⟨us, h1, h2⟩ := hVR
          have : us = [] := by
            cases us with
            | nil => rfl
            | cons u us => exact h2.elim
          subst this
          rw [h1]
          cases h
          rfl
        · cases h

theorem Fresh1.dead (hf : Fresh1 st o) (hmk : isMove o = false) (hd : o.dst ≠ none) {k : Nat} (hlo : k < pinLo) (hk : isKey o k) : dead st o.dst k = true := by
  unfold Vi.dead
  rw [show Nat.blt k pinLo = true from Nat.ble_eq_true_of_le hlo, Bool.true_and]
  cases hdd : o.dst with
  | none => exact absurd hdd hd
  | some d =>
    obtain ⟨j, rfl⟩ := isKey_dst hdd hk
    have key : ∀ (tm : List V), (∀ (t : Nat) (u : V), tm[t]? = some u → refs (d + 10000 * j) u = false) → noRef (d + 10000 * j) tm = true := by
      intro tm
      induction tm with
      | nil => intro _; rfl
      | cons y r ih =>
        intro h
        simp only [noRef, Bool.and_eq_true, Bool.not_eq_true']
        exact ⟨h 0 y (by simp), ih fun t u hu => h (t + 1) u (by simpa using hu)⟩
    refine key _ fun t u hu => ?_
    rcases put_get hu with ⟨_, rfl⟩ | hu
    · rfl
    · exact hf hmk d hdd j t u hu

/-- A step of a region, as the machine takes it. -/
theorem FStep.wp (hT : TabOK P E.T) (hE : EqsOK P E.T) (hphi : EnvOK P E) (h : FStep E ops.toList o st st') (hr : RS x γ st a w) (hf : Fresh1 st o) (hd : isEff E ops.toList o = false → o.dst ≠ none)
    {K : Act → World → Prop} (hK : ∀ γ' a' w', RS x γ' st' a' w' → K a' w') : if Region.wanted o (yielded ops a.tmps) then o.wp P a w K Q else K (a.put o.dst undef) w := by
  cases h with
  | eff hw he hfo =>
    rw [wanted_of hr hw, if_pos rfl]
    obtain ⟨s, hs, hop⟩ := evalE_eff hT hphi hfo.self hr
    cases hs
    exact OpTo.wp (hop.mono fun u w' ⟨γ', h⟩ => hK γ' _ _ h)
  | loc hl =>
    rename_i v obs
    cases hl with
    | pure hw he hfo hl =>
      rw [wanted_of hr hw, if_pos rfl]
      obtain ⟨v', obs', hk, hop⟩ := evalP_good hT hE hphi.1 hfo.self hr.inv hr.ops'
      cases hk
      refine OpTo.wp (hop.mono fun u w' hres => ?_)
      obtain ⟨γ', h⟩ := hr.step (dst := o.dst) (List.all_eq_true.2 fun p hp => hf.dead (by cases hm : isMove o with | false => rfl | true => rw [move_obs hm hfo.self] at hp; cases hp) (hd he) (hl p hp) (hfo.keys p hp)) hres
      exact hK γ' _ _ h
    | skip hw =>
      rw [wanted_of hr hw]
      have hres : Res x γ st.hp w (.tup []) [] undef w := Res.same hr.inv ⟨[], rfl, trivial⟩
      obtain ⟨γ', h⟩ := hr.step (dst := o.dst) rfl hres
      exact hK γ' _ _ h
    | pick hw ho hc hv hu =>
      rename_i c y z p
      rw [wanted_of hr hw, if_pos rfl]
      have e1 := VR_bool (hr.ops' _ _ hc)
      have hres : Res x γ st.hp w v [] (a.eval (bif p then y else z)) w := Res.same hr.inv (hr.ops' _ _ hv)
      refine OpTo.wp (.inl ⟨a.eval (bif p then y else z), w, ?_, ?_⟩)
      · simp only [execOp, ho, e1, asBool, Sem.run_bind, Sem.run_pure, Result.andThen_ok]
        cases p <;> rfl
      · obtain ⟨γ', h⟩ := hr.step (dst := o.dst) rfl hres
        exact hK γ' _ _ h

theorem FStep.wpOp (hT : TabOK P E.T) (hE : EqsOK P E.T) (hphi : EnvOK P E) {i : Nat} (hi : ops.toList[i]? = some o) (h : FStep E ops.toList o st st') (hr : RS x γ st a w) (hf : Fresh1 st o) (hd : isEff E ops.toList o = false → o.dst ≠ none)
    {K : Act → World → Prop} (hK : ∀ γ' a' w', RS x γ' st' a' w' → K a' w') : wpOp P ops Q i K a w := by
  unfold Go.wpOp
  have : ops[i]? = some o := by rw [← hi]; simp
  rw [this]
  simp only
  have h1 := FStep.wp (Q := Q) hT hE hphi h hr hf hd hK
  split
  · rename_i hw
    rw [if_pos hw] at h1
    exact .inl h1
  · rename_i hw
    rw [if_neg hw] at h1
    exact h1

/-! ### What is named and what is new stay apart -/

theorem mem_dstsOf {d : Nat} {l : List Oper} : d ∈ dstsOf l ↔ ∃ o ∈ l, o.dst = some d := by
  unfold dstsOf
  rw [List.mem_filterMap]

theorem FStep.prov (h : FStep E all o st st') : ∀ (t : Nat) (u : V), st'.tm[t]? = some u → ∀ k, refs k u = true → (∃ (t : Nat) (u : V), st.tm[t]? = some u ∧ refs k u = true) ∨ (isMove o = false ∧ o.dst ≠ none ∧ isKey o k) := by
  cases h with
  | eff hw he hf =>
    intro t u hu k hk
    rcases hf.prov.2 t u hu k hk with h | h
    · exact .inl h
    · refine .inr ⟨?_, h⟩
      cases hm : isMove o with
      | false => rfl
      | true => rw [move_eff hm] at he; cases he
  | loc hl =>
    rename_i v obs
    intro t u hu k hk
    rcases put_get hu with ⟨hd, rfl⟩ | hu
    · rcases hl.prov k hk with ⟨t, _, u, hu, hr⟩ | h
      · exact .inl ⟨t, u, hu, hr⟩
      · exact .inr ⟨h.1, by rw [hd]; simp, h.2⟩
    · exact .inl ⟨t, u, hu, hk⟩

/-- A step keeps what the others are going to make unnamed. -/
theorem FStep.fresh (h : FStep E all o st st') {os : List Oper} (hf : Fresh st os) (hlt : ∀ d, o.dst = some d → d < 10000) (hlt' : ∀ d ∈ dstsOf os, d < 10000) (hnd : ∀ d, o.dst = some d → d ∉ dstsOf os) : Fresh st' os := by
  intro q hq hmk d hd j t u hu
  cases hr : refs (d + 10000 * j) u with
  | false => rfl
  | true =>
    exfalso
    rcases h.prov t u hu _ hr with ⟨t', u', hu', hr'⟩ | ⟨_, hod, j', hj'⟩
    · rw [hf q hq hmk d hd j t' u' hu'] at hr'
      cases hr'
    · cases hdd : o.dst with
      | none => exact hod hdd
      | some e =>
        rw [hdd] at hj'
        have hm : d ∈ dstsOf os := mem_dstsOf.2 ⟨q, hq, hd⟩
        have h1 : @LT.lt Nat _ e 10000 := hlt e hdd
        have h2 : @LT.lt Nat _ d 10000 := hlt' d hm
        have : @Eq Nat d e := by
          simp only [dstKey] at hj'
          omega
        subst this
        exact hnd d hdd hm

theorem Fresh.one {os : List Oper} (h : Fresh st os) (ho : o ∈ os) : Fresh1 st o := fun hm d hd j t u hu => h o ho hm d hd j t u hu

theorem Ssa.perm {l l' : List Oper} (h : Ssa E all l) (hp : List.Perm l l') : Ssa E all l' :=
  ⟨(hp.filterMap _).nodup_iff.1 h.nd, fun d hd => h.lt d ((hp.filterMap _).mem_iff.2 hd), fun o ho => h.has o (hp.mem_iff.2 ho)⟩

theorem Ssa.tail {l : List Oper} (h : Ssa E all (o :: l)) : Ssa E all l ∧ (∀ d, o.dst = some d → d < 10000 ∧ d ∉ dstsOf l) := by
  have e : dstsOf (o :: l) = (match o.dst with | some d => d :: dstsOf l | none => dstsOf l) := by
    unfold dstsOf
    rw [List.filterMap_cons]
    cases o.dst <;> rfl
  cases hd : o.dst with
  | none =>
    rw [hd] at e
    simp only at e
    exact ⟨⟨e ▸ h.nd, fun d hd => h.lt d (e ▸ hd), fun q hq => h.has q (by simp [hq])⟩, fun d hd => by cases hd⟩
  | some d =>
    rw [hd] at e
    simp only at e
    have hnd := h.nd
    rw [e] at hnd
    have hn := List.nodup_cons.1 hnd
    refine ⟨⟨hn.2, fun d hd => h.lt d (by rw [e]; simp [hd]), fun q hq => h.has q (by simp [hq])⟩, fun d' hd' => ?_⟩
    cases hd'
    exact ⟨h.lt d (by rw [e]; simp), hn.1⟩

theorem Fresh.sub {l l' : List Oper} (h : Fresh st l) (hs : ∀ o ∈ l', o ∈ l) : Fresh st l' := fun q hq => h q (hs q hq)

/-- An operation that minds none of those ahead of it may come first. -/
theorem bubble (hphi : EnvPar E) : ∀ (L1 : List Oper) {L2 : List Oper} {st : St}, FRun E all (L1 ++ o :: L2) st st' → (∀ p ∈ L1, indep E all p o = true) → Fresh st (L1 ++ o :: L2) → Ssa E all (L1 ++ o :: L2) →
    ∃ s, FStep E all o st s ∧ FRun E all (L1 ++ L2) s st'
  | [], L2, st, h, _, _, _ => h
  | p :: L1, L2, st, h, hi, hf, hs => by
    obtain ⟨s1, hp, h⟩ := h
    have hs' : Ssa E all (p :: (L1 ++ o :: L2)) := hs
    obtain ⟨ht, hpd⟩ := hs'.tail
    have hfr : Fresh s1 (L1 ++ o :: L2) := hp.fresh (hf.sub fun q hq => by simp only [List.cons_append, List.mem_cons]; exact .inr hq) (fun d hd => (hpd d hd).1) ht.lt (fun d hd => (hpd d hd).2)
    obtain ⟨s, ho, hrest⟩ := bubble hphi L1 h (fun q hq => hi q (by simp [hq])) hfr ht
    have hom : o ∈ L1 ++ o :: L2 := by simp
    obtain ⟨s', h1, h2⟩ := swap hphi (indep_spec (hi p (by simp))) (hf.one (by simp)) (hf.one (by simp)) (hs.has p (by simp)) (hs.has o (by simp)) (fun d hd => (hpd d hd).1)
      (fun d hd => ht.lt d (mem_dstsOf.2 ⟨o, hom, hd⟩)) hp ho
    exact ⟨s', h1, s, h2, hrest⟩

/-! ### The edges -/

def rowOf (o : Oper) (acc : List Nat) : Nat :=
  o.after.toList.foldl (fun s e => bif Region.binds .any e then Nat.lor s (Nat.lor (2 ^ e.on) (acc.getD e.on 0)) else s) 0

theorem bit_lor (a b i : Nat) : Nat.testBit (Nat.lor a b) i = (Nat.testBit a i || Nat.testBit b i) := Nat.testBit_or a b i

theorem rowOf_mem {o : Oper} {acc : List Nat} {b : Nat} (h : Nat.testBit (rowOf o acc) b = true) : ∃ e ∈ o.after.toList, Region.binds .any e = true ∧ (b = e.on ∨ Nat.testBit (acc.getD e.on 0) b = true) := by
  unfold rowOf at h
  have key : ∀ (l : List Edge) (s : Nat), Nat.testBit (l.foldl (fun s e => bif Region.binds .any e then Nat.lor s (Nat.lor (2 ^ e.on) (acc.getD e.on 0)) else s) s) b = true → Nat.testBit s b = true ∨ ∃ e ∈ l, Region.binds .any e = true ∧ (b = e.on ∨ Nat.testBit (acc.getD e.on 0) b = true) := by
    intro l
    induction l with
    | nil => intro s h; exact .inl h
    | cons e l ih =>
      intro s h
      simp only [List.foldl_cons] at h
      rcases ih _ h with h | ⟨e', he', h⟩
      · cases hb : Region.binds .any e with
        | true =>
          rw [hb] at h
          simp only [cond_true, bit_lor, Bool.or_eq_true] at h
          rcases h with h | h | h
          · exact .inl h
          · refine .inr ⟨e, by simp, hb, .inl ?_⟩
            rw [Nat.testBit_two_pow] at h
            exact (of_decide_eq_true h).symm
          · exact .inr ⟨e, by simp, hb, .inr h⟩
        | false =>
          rw [hb] at h
          exact .inl h
      · exact .inr ⟨e', by simp [he'], h⟩
  rcases key _ _ h with h | h
  · simp at h
  · exact h

theorem befores_spec : ∀ (l : List Oper) (acc : List Nat), ∃ res, befores l acc = acc ++ res ∧ res.length = l.length ∧
    ∀ (j : Nat) (o : Oper), l[j]? = some o → (befores l acc)[acc.length + j]? = some (rowOf o ((befores l acc).take (acc.length + j)))
  | [], acc => ⟨[], by simp [befores], rfl, by simp⟩
  | o :: l, acc => by
    obtain ⟨res, h1, h2, h3⟩ := befores_spec l (acc ++ [rowOf o acc])
    have e : befores (o :: l) acc = befores l (acc ++ [rowOf o acc]) := rfl
    refine ⟨rowOf o acc :: res, by rw [e, h1]; simp, by simp [h2], ?_⟩
    intro j o' hj
    rw [e]
    cases j with
    | zero =>
      simp at hj
      subst hj
      rw [h1]
      simp
    | succ j =>
      have := h3 j o' (by simpa using hj)
      simp only [List.length_append, List.length_cons, List.length_nil] at this
      have e2 : acc.length + (0 + 1) + j = acc.length + (j + 1) := by omega
      rw [e2] at this
      exact this

theorem befores_row {l : List Oper} {j : Nat} {o : Oper} (hj : l[j]? = some o) {b : Nat} (hb : Nat.testBit ((befores l []).getD j 0) b = true) :
    ∃ e ∈ o.after.toList, Region.binds .any e = true ∧ (b = e.on ∨ Nat.testBit ((befores l []).getD e.on 0) b = true) := by
  obtain ⟨res, h1, h2, h3⟩ := befores_spec l []
  have h := h3 j o hj
  simp only [List.length_nil, Nat.zero_add] at h
  have hb' : Nat.testBit (rowOf o ((befores l []).take j)) b = true := by
    have : (befores l []).getD j 0 = rowOf o ((befores l []).take j) := by
      simp only [List.getD, h, Option.getD_some]
    rw [← this]
    exact hb
  obtain ⟨e, he, hbn, h⟩ := rowOf_mem hb'
  refine ⟨e, he, hbn, h.imp id fun h => ?_⟩
  simp only [List.getD, List.getElem?_take] at h ⊢
  split at h
  · exact h
  · simp at h

theorem drawRows_spec {befs : List Nat} : ∀ (l : List Oper) (j : Nat), drawRows E all befs j l = true → ∀ (i : Nat) (q : Oper), l[i]? = some q → drawRow E all q (befs.getD (j + i) 0) 0 (all.take (j + i)) = true
  | [], _, _, i, q, h => by simp at h
  | o :: l, j, h, i, q, hi => by
    simp only [drawRows, Bool.and_eq_true] at h
    cases i with
    | zero =>
      simp at hi
      subst hi
      exact h.1
    | succ i =>
      have := drawRows_spec l (j + 1) h.2 i q (by simpa using hi)
      have e : j + 1 + i = j + (i + 1) := by omega
      rw [e] at this
      exact this

theorem drawRow_spec {bef : Nat} : ∀ (l : List Oper) (i0 : Nat), drawRow E all q bef i0 l = true → ∀ (i : Nat) (p : Oper), l[i]? = some p → Nat.testBit bef (i0 + i) = true ∨ indep E all p q = true
  | [], _, _, i, p, h => by simp at h
  | o :: l, i0, h, i, p, hi => by
    simp only [drawRow, Bool.and_eq_true, Bool.or_eq_true] at h
    cases i with
    | zero =>
      simp at hi
      subst hi
      rcases h.1 with h1 | h1
      · exact .inl h1
      · exact .inr h1
    | succ i =>
      have := drawRow_spec l (i0 + 1) h.2 i p (by simpa using hi)
      have e : i0 + 1 + i = i0 + (i + 1) := by omega
      rw [e] at this
      exact this

theorem backOK_spec : ∀ (l : List Oper) (j : Nat), backOK j l = true → ∀ (i : Nat) (o : Oper), l[i]? = some o → ∀ e ∈ o.after.toList, Region.binds .any e = true → e.on < j + i
  | [], _, _, i, o, h => by simp at h
  | p :: l, j, h, i, o, hi => by
    simp only [backOK, Bool.and_eq_true] at h
    cases i with
    | zero =>
      simp at hi
      subst hi
      intro e he hb
      have := List.all_eq_true.1 h.1 e he
      simp only [hb, Bool.not_true, Bool.false_or] at this
      exact Nat.le_of_ble_eq_true this
    | succ i =>
      intro e he hb
      have := backOK_spec l (j + 1) h.2 i o (by simpa using hi) e he hb
      omega

/-- Of two operations, in the order of the text: the edges order them, or they do not mind each other. -/
theorem drawOK_spec (h : drawOK E all = true) {i j : Nat} {p q : Oper} (hij : i < j) (hp : all[i]? = some p) (hq : all[j]? = some q) : Nat.testBit ((befores all []).getD j 0) i = true ∨ indep E all p q = true := by
  simp only [drawOK, Bool.and_eq_true] at h
  have h1 := drawRows_spec all 0 h.2 j q hq
  rw [Nat.zero_add] at h1
  have h2 := drawRow_spec (all.take j) 0 h1 i p (by rw [List.getElem?_take, if_pos hij]; exact hp)
  rwa [Nat.zero_add] at h2

/-! ### Drawn orders -/

def rem (listed : Array Bool) (n : Nat) : List Nat := (List.range n).filter fun i => !listed.getD i true

theorem rem_mem {listed : Array Bool} {n i : Nat} : i ∈ rem listed n ↔ i < n ∧ listed.getD i true = false := by
  unfold rem
  rw [List.mem_filter, List.mem_range, Bool.not_eq_true']

theorem rem_sorted (listed : Array Bool) (n : Nat) : (rem listed n).Pairwise (· < ·) := List.Pairwise.filter _ List.pairwise_lt_range

theorem getD_set {listed : Array Bool} {i j : Nat} (hi : i < listed.size) : (listed.setIfInBounds i true).getD j true = if j = i then true else listed.getD j true := by
  simp only [Array.getD_eq_getD_getElem?, Array.getElem?_setIfInBounds]
  by_cases h : i = j
  · subst h
    simp [hi]
  · rw [if_neg h, if_neg fun e => h e.symm]

theorem rem_set {listed : Array Bool} {n i : Nat} {L1 L2 : List Nat} (hi : i < listed.size) (h : rem listed n = L1 ++ i :: L2) : rem (listed.setIfInBounds i true) n = L1 ++ L2 := by
  have hp := rem_sorted listed n
  rw [h] at hp
  have h1 : rem (listed.setIfInBounds i true) n = (rem listed n).filter fun j => decide (j ≠ i) := by
    unfold rem
    rw [List.filter_filter]
    congr 1
    funext j
    rw [getD_set hi]
    by_cases hj : j = i
    · simp [hj]
    · simp [hj]
  rw [h1, h, List.filter_append, List.filter_cons]
  rw [List.pairwise_append] at hp
  have e1 : L1.filter (fun j => decide (j ≠ i)) = L1 := List.filter_eq_self.2 fun j hj => by
    have := hp.2.2 j hj i (by simp)
    simp
    omega
  have e2 : L2.filter (fun j => decide (j ≠ i)) = L2 := List.filter_eq_self.2 fun j hj => by
    have := (List.pairwise_cons.1 hp.2.1).1 j hj
    simp
    omega
  rw [e1, e2]
  simp

theorem fm_append (f : Nat → Option Oper) (L1 L2 : List Nat) : (L1 ++ L2).filterMap f = L1.filterMap f ++ L2.filterMap f := List.filterMap_append

/-- A region whose order is drawn. -/
theorem FRun.wpAny (hT : TabOK P E.T) (hE : EqsOK P E.T) (hphi : EnvOK P E) (hpar : EnvPar E) (hdr : drawOK E ops.toList = true) : ∀ (fuel : Nat) (listed : Array Bool) {γ : Gam} {st : St} {a : Act} {w : World},
    listed.size = ops.size → (rem listed ops.size).length = fuel → (∀ j, j < ops.size → listed.getD j true = true → ∀ b, Nat.testBit ((befores ops.toList []).getD j 0) b = true → listed.getD b true = true) →
    FRun E ops.toList ((rem listed ops.size).filterMap fun i => ops.toList[i]?) st st' → RS x γ st a w → Fresh st ((rem listed ops.size).filterMap fun i => ops.toList[i]?) →
    Ssa E ops.toList ((rem listed ops.size).filterMap fun i => ops.toList[i]?) → (∀ γ' a' w', RS x γ' st' a' w' → Q .normal a' w') → wpAny P .any ops Q fuel listed a w := by
  intro fuel
  induction fuel with
  | zero =>
    intro listed γ st a w hsz hl hcl h hr hf hs hQ
    have he : rem listed ops.size = [] := List.length_eq_zero_iff.1 hl
    rw [he] at h
    have h : st = st' := h
    subst h
    refine ⟨?_, hQ γ a w hr⟩
    cases hr : Region.ready .any ops listed with
    | nil => rfl
    | cons i l =>
      exfalso
      have hi : i ∈ Region.ready .any ops listed := by rw [hr]; simp
      unfold Region.ready at hi
      rw [List.mem_filter, Bool.and_eq_true, Bool.not_eq_true'] at hi
      have : i ∈ rem listed ops.size := rem_mem.2 ⟨List.mem_range.1 hi.1, hi.2.1⟩
      rw [he] at this
      cases this
  | succ fuel ih =>
    intro listed γ st a w hsz hl hcl h hr hf hs hQ
    refine ⟨fun hre => ?_, fun i hi => ?_⟩
    · exfalso
      cases hrem : rem listed ops.size with
      | nil => rw [hrem] at hl; cases hl
      | cons i L =>
        have hi : i ∈ rem listed ops.size := by rw [hrem]; simp
        have hi' := rem_mem.1 hi
        have hsorted := rem_sorted listed ops.size
        rw [hrem] at hsorted
        have hlow : ∀ j, j < i → listed.getD j true = true := by
          intro j hj
          cases hb : listed.getD j true with
          | true => rfl
          | false =>
            have : j ∈ rem listed ops.size := rem_mem.2 ⟨by omega, hb⟩
            rw [hrem] at this
            rcases List.mem_cons.1 this with rfl | this
            · omega
            · have := (List.pairwise_cons.1 hsorted).1 j this
              omega
        have : i ∈ Region.ready .any ops listed := by
          unfold Region.ready
          rw [List.mem_filter, Bool.and_eq_true, Bool.not_eq_true']
          refine ⟨List.mem_range.2 hi'.1, hi'.2, ?_⟩
          have hget : ops[i]? = some ops[i] := Array.getElem?_eq_getElem hi'.1
          rw [hget]
          simp only [Option.map_some, Option.getD_some]
          rw [← Array.all_toList, List.all_eq_true]
          intro e he
          cases hb : Region.binds .any e with
          | false => rfl
          | true =>
            simp only [drawOK, Bool.and_eq_true] at hdr
            have hlt := backOK_spec ops.toList 0 hdr.1 i ops[i] (by simp [hi'.1]) e he hb
            have h1 := hlow e.on (by omega)
            have h2 : e.on < listed.size := by omega
            simp only [Bool.not_true, Bool.false_or]
            simp only [Array.getD_eq_getD_getElem?, Array.getElem?_eq_getElem h2, Option.getD_some] at h1 ⊢
            exact h1
        rw [hre] at this
        cases this
    · unfold Region.ready at hi
      rw [List.mem_filter, Bool.and_eq_true, Bool.not_eq_true'] at hi
      obtain ⟨hir, hun, hed⟩ := hi
      have hlt : i < ops.size := List.mem_range.1 hir
      have hget : ops.toList[i]? = some ops[i] := by simp [hlt]
      have hget' : ops[i]? = some ops[i] := Array.getElem?_eq_getElem hlt
      rw [hget'] at hed
      simp only [Option.map_some, Option.getD_some] at hed
      rw [← Array.all_toList, List.all_eq_true] at hed
      have hbefs : ∀ b, Nat.testBit ((befores ops.toList []).getD i 0) b = true → listed.getD b true = true := by
        intro b hb
        obtain ⟨e, he, hbn, hbe⟩ := befores_row hget hb
        have h1 := hed e he
        simp only [hbn, Bool.not_true, Bool.false_or] at h1
        have h2 : e.on < listed.size := by
          rcases Nat.lt_or_ge e.on listed.size with h2 | h2
          · exact h2
          · simp [Array.getD, Nat.not_lt.2 h2] at h1
        have h3 : listed.getD e.on true = true := by
          simp only [Array.getD_eq_getD_getElem?, Array.getElem?_eq_getElem h2, Option.getD_some] at h1 ⊢
          exact h1
        rcases hbe with rfl | hbe
        · exact h3
        · exact hcl e.on (by omega) h3 b hbe
      have hmem : i ∈ rem listed ops.size := rem_mem.2 ⟨hlt, hun⟩
      obtain ⟨L1, L2, hL⟩ := List.append_of_mem hmem
      have hsorted := rem_sorted listed ops.size
      rw [hL, List.pairwise_append] at hsorted
      have hisz : i < listed.size := by omega
      have hset := rem_set hisz hL
      have hfm : (rem listed ops.size).filterMap (fun i => ops.toList[i]?) = L1.filterMap (fun i => ops.toList[i]?) ++ ops[i] :: L2.filterMap (fun i => ops.toList[i]?) := by
        rw [hL, List.filterMap_append, List.filterMap_cons, hget]
      rw [hfm] at h hf hs
      have hind : ∀ p ∈ L1.filterMap (fun i => ops.toList[i]?), indep E ops.toList p ops[i] = true := by
        intro p hp
        obtain ⟨k, hk, hkp⟩ := List.mem_filterMap.1 hp
        have hki := hsorted.2.2 k hk i (by simp)
        rcases drawOK_spec hdr hki hkp hget with h1 | h1
        · exfalso
          have h2 := hbefs k h1
          have h3 := (rem_mem.1 (show k ∈ rem listed ops.size by rw [hL]; simp [hk])).2
          rw [h2] at h3
          cases h3
        · exact h1
      obtain ⟨s, hstep, hrun⟩ := bubble hpar _ h hind hf hs
      have hperm : List.Perm (L1.filterMap (fun i => ops.toList[i]?) ++ ops[i] :: L2.filterMap (fun i => ops.toList[i]?)) (ops[i] :: (L1.filterMap (fun i => ops.toList[i]?) ++ L2.filterMap (fun i => ops.toList[i]?))) := List.perm_middle
      have hs2 := hs.perm hperm
      obtain ⟨hs3, hd3⟩ := hs2.tail
      have hf2 : Fresh st (ops[i] :: (L1.filterMap (fun i => ops.toList[i]?) ++ L2.filterMap (fun i => ops.toList[i]?))) := hf.sub fun q hq => hperm.mem_iff.2 hq
      have hf3 := hstep.fresh (hf2.sub fun q hq => by simp only [List.mem_cons]; exact .inr hq) (fun d hd => (hd3 d hd).1) hs3.lt (fun d hd => (hd3 d hd).2)
      refine FStep.wpOp hT hE hphi hget hstep hr (hf2.one (by simp)) (hs2.has _ (by simp)) fun γ' a' w' hr' => ?_
      have hfm2 : (rem (listed.setIfInBounds i true) ops.size).filterMap (fun i => ops.toList[i]?) = L1.filterMap (fun i => ops.toList[i]?) ++ L2.filterMap (fun i => ops.toList[i]?) := by
        rw [hset, List.filterMap_append]
      refine ih (listed.setIfInBounds i true) (γ := γ') (st := s) (by simp [hsz]) ?_ ?_ (by rw [hfm2]; exact hrun) hr' (by rw [hfm2]; exact hf3) (by rw [hfm2]; exact hs3) hQ
      · rw [hset]
        rw [hL] at hl
        simp only [List.length_append, List.length_cons] at hl ⊢
        omega
      · intro j hj hlj b hb
        rw [getD_set hisz] at hlj ⊢
        split
        · rfl
        · rename_i hbi
          split at hlj
          · rename_i hji
            subst hji
            exact hbefs b hb
          · exact hcl j hj hlj b hb

/-- The operations in the order of a list. -/
theorem FRun.wpOps (hT : TabOK P E.T) (hE : EqsOK P E.T) (hphi : EnvOK P E) : ∀ (l : List Nat) {γ : Gam} {st : St} {a : Act} {w : World}, (∀ i ∈ l, i < ops.size) →
    FRun E ops.toList (l.filterMap fun i => ops.toList[i]?) st st' → RS x γ st a w → Fresh st (l.filterMap fun i => ops.toList[i]?) →
    Ssa E ops.toList (l.filterMap fun i => ops.toList[i]?) → (∀ γ' a' w', RS x γ' st' a' w' → Q .normal a' w') → wpOps P ops Q l a w
  | [], γ, st, a, w, _, h, hr, _, _, hQ => by
    have h : st = st' := h
    subst h
    exact hQ γ a w hr
  | i :: l, γ, st, a, w, hlt, h, hr, hf, hs, hQ => by
    have hi : i < ops.size := hlt i (by simp)
    have hget : ops.toList[i]? = some ops[i] := by simp [hi]
    rw [List.filterMap_cons, hget] at h hf hs
    obtain ⟨s, hstep, hrun⟩ := h
    obtain ⟨hs3, hd3⟩ := hs.tail
    have hf3 := hstep.fresh (hf.sub fun q hq => by simp only [List.mem_cons]; exact .inr hq) (fun d hd => (hd3 d hd).1) hs3.lt (fun d hd => (hd3 d hd).2)
    rw [wpOps_cons]
    exact FStep.wpOp hT hE hphi hget hstep hr (hf.one (by simp)) (hs.has _ (by simp)) fun γ' a' w' hr' =>
      FRun.wpOps hT hE hphi l (fun j hj => hlt j (by simp [hj])) hrun hr' hf3 hs3 hQ

end
end Go.Vi
/-
  Vi: regions: what the interpreter says of a region comes true.
-/
set_option linter.unusedVariables false
set_option linter.unusedSimpArgs false
namespace Go.Vi
open Op

/-- One state knows no more than the other. -/
structure Sub (st st' : St) : Prop where
  len : st.tm.length = st'.tm.length
  tm : ∀ (t : Nat) (v : V), st.tm[t]? = some v → v = .undef ∨ st'.tm[t]? = some v
  hp : ∀ (t : Nat) (v : V), st.tm[t]? = some v → ∀ k, refs k v = true → st'.hp k = st.hp k
  pin : ∀ k, pinLo ≤ k → st'.hp k = st.hp k

theorem Sub.refl (st : St) : Sub st st := ⟨rfl, fun _ _ h => .inr h, fun _ _ _ _ _ => rfl, fun _ _ => rfl⟩

section
variable {P : Program} {E : Env} {all : List Oper} {o p q : Oper} {x : Cx} {γ γ' : Gam} {w : World} {a : Act} {st st' s1 s2 : St} {v vp vq : V} {obs obsp obsq : List (Nat × O)}
variable {ops : Array Oper} {Q : Exit → Act → World → Prop} {H H' : Heap}

theorem VR1.keyr {A : Nat → Prop} : ∀ (y : V) (u : Value), (∀ k, refs1 k y = true → γ' k = γ k ∧ H' k = H k) → VR1 γ w A H y u → VR1 γ' w A H' y u := by
  intro y u hk h
  cases y with
  | ptr k off =>
    obtain ⟨b, c, h1, h2⟩ := h
    exact ⟨b, c, (hk k (Nat.beq_refl k)).1.trans h1, h2⟩
  | own k win t =>
    obtain ⟨i, e, xs, nilE, h1, h2, h3⟩ := h
    exact ⟨i, e, xs, nilE, (hk k (Nat.beq_refl k)).1.trans h1, (hk k (Nat.beq_refl k)).2.trans h2, h3⟩
  | eptr k win i off =>
    obtain ⟨b, c, e, xs, nilE, h1, h2, h3⟩ := h
    exact ⟨b, c, e, xs, nilE, (hk k (Nat.beq_refl k)).1.trans h1, (hk k (Nat.beq_refl k)).2.trans h2, h3⟩
  | aptr k off n e i =>
    obtain ⟨b, c, h1, h2⟩ := h
    exact ⟨b, c, (hk k (Nat.beq_refl k)).1.trans h1, h2⟩
  | map k =>
    obtain ⟨b, c, h1, h2⟩ := h
    exact ⟨b, c, (hk k (Nat.beq_refl k)).1.trans h1, h2⟩
  | undef => trivial
  | c y => exact h
  | agg cs => exact h
  | iptr cs => exact h
  | tup vs => exact h
  | fn f vs => exact h

theorem All2.keyr {A : Nat → Prop} : ∀ {xs : List V} {vs : List Value}, (∀ k, refsAny k xs = true → γ' k = γ k ∧ H' k = H k) → All2 (VR1 γ w A H) xs vs → All2 (VR1 γ' w A H') xs vs
  | [], [], _, _ => trivial
  | y :: xs, v :: vs, hr, h => ⟨VR1.keyr y v (fun k hk => hr k (by simp [refsAny, hk])) h.1, All2.keyr (fun k hk => hr k (by simp [refsAny, hk])) h.2⟩
  | [], _ :: _, _, h => h.elim
  | _ :: _, [], _, h => h.elim

theorem VR.keyr {A : Nat → Prop} (y : V) (u : Value) (hk : ∀ k, refs k y = true → γ' k = γ k ∧ H' k = H k) (h : VR γ w A H y u) : VR γ' w A H' y u := by
  cases y with
  | tup vs => obtain ⟨us, h1, h2⟩ := h; exact ⟨us, h1, h2.keyr hk⟩
  | fn f vs => obtain ⟨us, h1, h2⟩ := h; exact ⟨us, h1, h2.keyr hk⟩
  | undef => trivial
  | c y => exact h
  | agg cs => exact h
  | iptr cs => exact h
  | ptr k off => exact VR1.keyr (w := w) (A := A) (.ptr k off) u hk h
  | own k win t => exact VR1.keyr (w := w) (A := A) (.own k win t) u hk h
  | eptr k win i off => exact VR1.keyr (w := w) (A := A) (.eptr k win i off) u hk h
  | aptr k off n e i => exact VR1.keyr (w := w) (A := A) (.aptr k off n e i) u hk h
  | map k => exact VR1.keyr (w := w) (A := A) (.map k) u hk h

/-- What knows less is true as well. -/
theorem RS.sub (hr : RS x γ st' a w) (h : Sub st st') : ∃ γ', RS x γ' st a w := by
  refine Classical.byCases (p := True) (fun _ => ?_) (fun h => absurd trivial h)
  let γ' : Gam := fun k => open Classical in if (∃ (t : Nat) (v : V), st.tm[t]? = some v ∧ refs k v = true) ∨ pinLo ≤ k then γ k else none
  have hsub : ∀ k i, γ' k = some i → γ k = some i ∧ st'.hp k = st.hp k := by
    intro k i hk
    simp only [γ'] at hk
    split at hk
    · rename_i hex
      rcases hex with ⟨t, v, hv, hr⟩ | hlo
      · exact ⟨hk, h.hp t v hv k hr⟩
      · exact ⟨hk, h.pin k hlo⟩
    · cases hk
  have hav : ∀ b, Av x γ w b → Av x γ' w b ∧ w.heap[b]? = w.heap[b]? := fun b hb => Av.del (fun k i hk => ⟨k, (hsub k i hk).1⟩) b hb
  refine ⟨γ', ⟨⟨hr.inv.size, hr.inv.os, hr.inv.tape, hr.inv.output, hr.inv.blk, ?_, ?_, ?_, ?pin⟩, ?_, ?_, hr.nod⟩⟩
  case pin =>
    intro k i hp hH
    have hlo := x.pinlo k i hp
    simp only [γ']
    rw [if_pos (.inr hlo)]
    exact hr.inv.pin k i hp (by rw [h.pin k hlo]; exact hH)
  · intro k i hk
    obtain ⟨h1, h2⟩ := hsub k i hk
    obtain ⟨ob, h3, h4⟩ := hr.inv.own k i h1
    exact ⟨ob, by rw [← h2]; exact h3, objR.mono hav ob i (fun _ _ _ => rfl) h4⟩
  · intro k b c hk
    exact hr.inv.rng k b c (hsub k _ hk).1
  · intro k k' b c c' hk hk'
    exact hr.inv.inj k k' b c c' (hsub k _ hk).1 (hsub k' _ hk').1
  · rw [h.len]; exact hr.len
  · intro t v hv
    rcases h.tm t v hv with rfl | hv'
    · trivial
    · refine VR.keyr v _ (fun k hk => ⟨?_, (h.hp t v hv k hk).symm⟩) (VR.mono hav v _ (hr.tm t v hv'))
      simp only [γ']
      rw [if_pos (.inl ⟨t, v, hv, hk⟩)]

theorem Sub.opV (h : Sub st st') {y : Operand} {v : V} (hv : opV st y = some v) (hu : v ≠ .undef) : opV st' y = some v := by
  cases y with
  | tmp t => exact (h.tm t v hv).resolve_left hu
  | _ => exact hv

theorem updAll_eq {H H' : Heap} {obs : List (Nat × O)} {k : Nat} (h : H' k = H k ∨ ∃ p ∈ obs, p.1 = k) : updAll H' obs k = updAll H obs k := by
  rw [updAll_get H', updAll_get H]
  cases hb : updAll emp obs k with
  | some ob => rfl
  | none =>
    rcases h with h | ⟨p, hp, he⟩
    · exact h
    · exfalso
      have key : ∀ (obs : List (Nat × O)), p ∈ obs → updAll emp obs k ≠ none := by
        intro obs
        induction obs with
        | nil => intro h; cases h
        | cons a r ih =>
          intro h
          obtain ⟨k', ob⟩ := a
          simp only [updAll, upd]
          cases hkk : Nat.beq k k' with
          | true => simp
          | false =>
            simp only [cond_false]
            rcases List.mem_cons.1 h with rfl | h
            · simp only at he
              subst he
              rw [Nat.beq_refl] at hkk
              cases hkk
            · exact ih h
      exact key obs hp hb

theorem FRun.append : ∀ {l1 : List Oper} {l2 : List Oper} {st : St}, FRun E all l1 st s1 → FRun E all l2 s1 st' → FRun E all (l1 ++ l2) st st'
  | [], l2, st, h1, h2 => by
    have h1 : st = s1 := h1
    subst h1
    exact h2
  | o :: l1, l2, st, ⟨s, h, h1⟩, h2 => ⟨s, h, FRun.append h1 h2⟩

theorem noEff_mem {l : List Oper} (h : noEff E all l = true) : ∀ o ∈ l, isEff E all o = false := by
  intro o ho
  have := List.all_eq_true.1 h o ho
  simpa using this

theorem FStep.frame (h : FStep E all o st st') (he : isEff E all o = false) : st'.tm.length = st.tm.length ∧ (∀ t : Nat, o.dst ≠ some t → st'.tm[t]? = st.tm[t]?) ∧ ∀ k, (isMove o = false → o.dst ≠ none → ¬ isKey o k) → (isEff E all o = false → o.dst ≠ none) → st'.hp k = st.hp k := by
  cases h with
  | eff hw he' hf => rw [he] at he'; cases he'
  | loc hl =>
    refine ⟨put_len _ _ _, fun t ht => set_ne ht, fun k hk hd => ?_⟩
    exact updAll_no _ _ _ fun p hp e => hk (hl.maker (ne_nil_of_mem hp)) (hd he) (e ▸ hl.keys p hp)

theorem FRun.pins : ∀ {os : List Oper} {st : St}, FRun E all os st st' → (∀ o ∈ os, isEff E all o = false) → ∀ k, pinLo ≤ k → st'.hp k = st.hp k
  | [], st, h, _, k, _ => by
    have h : st = st' := h
    subst h
    rfl
  | o :: os, st, ⟨s, h, hr⟩, he, k, hk => by
    rw [FRun.pins hr (fun q hq => he q (by simp [hq])) k hk]
    cases h with
    | eff hw he' hf => rw [he o (by simp)] at he'; cases he'
    | loc hl =>
      refine updAll_no _ _ _ fun p hp e => ?_
      have := hl.lo p hp
      omega

theorem FRun.frame : ∀ {os : List Oper} {st : St}, FRun E all os st st' → (∀ o ∈ os, isEff E all o = false) → st'.tm.length = st.tm.length ∧ (∀ t : Nat, t ∉ dstsOf os → st'.tm[t]? = st.tm[t]?) ∧
    ∀ k, (∀ o ∈ os, isMove o = false → o.dst ≠ none → ¬ isKey o k) → (∀ o ∈ os, isEff E all o = false → o.dst ≠ none) → st'.hp k = st.hp k
  | [], st, h, _ => by
    have h : st = st' := h
    subst h
    exact ⟨rfl, fun _ _ => rfl, fun _ _ _ => rfl⟩
  | o :: os, st, ⟨s, h, hr⟩, he => by
    obtain ⟨a1, a2, a3⟩ := h.frame (he o (by simp))
    obtain ⟨b1, b2, b3⟩ := FRun.frame hr fun q hq => he q (by simp [hq])
    refine ⟨b1.trans a1, fun t ht => ?_, fun k hk hd => ?_⟩
    · have h1 : t ∉ dstsOf os := fun hm => by
        obtain ⟨q, hq, hqd⟩ := mem_dstsOf.1 hm
        exact ht (mem_dstsOf.2 ⟨q, by simp [hq], hqd⟩)
      have h2 : o.dst ≠ some t := fun hd => ht (mem_dstsOf.2 ⟨o, by simp, hd⟩)
      rw [b2 t h1, a2 t h2]
    · rw [b3 k (fun q hq => hk q (by simp [hq])) (fun q hq => hd q (by simp [hq])), a3 k (hk o (by simp)) (hd o (by simp))]

theorem FRun.fresh : ∀ {os : List Oper} {os2 : List Oper} {st : St}, FRun E all os st st' → Fresh st (os ++ os2) → Ssa E all (os ++ os2) → Fresh st' os2
  | [], os2, st, h, hf, _ => by
    have h : st = st' := h
    subst h
    exact hf
  | o :: os, os2, st, ⟨s, h, hr⟩, hf, hs => by
    have hs' : Ssa E all (o :: (os ++ os2)) := hs
    obtain ⟨ht, hd⟩ := hs'.tail
    exact FRun.fresh hr (h.fresh (hf.sub fun q hq => by simp only [List.cons_append, List.mem_cons]; exact .inr hq) (fun d hd' => (hd d hd').1) ht.lt fun d hd' => (hd d hd').2) ht

theorem Ssa.append {l1 l2 : List Oper} (h : Ssa E all (l1 ++ l2)) : Ssa E all l1 ∧ Ssa E all l2 ∧ ∀ d ∈ dstsOf l1, d ∉ dstsOf l2 := by
  have e : dstsOf (l1 ++ l2) = dstsOf l1 ++ dstsOf l2 := by unfold dstsOf; rw [List.filterMap_append]
  have hnd := h.nd
  rw [e, List.nodup_append] at hnd
  refine ⟨⟨hnd.1, fun d hd => h.lt d (by rw [e]; simp [hd]), fun o ho => h.has o (by simp [ho])⟩, ⟨hnd.2.1, fun d hd => h.lt d (by rw [e]; simp [hd]), fun o ho => h.has o (by simp [ho])⟩, fun d h1 h2 => hnd.2.2 d h1 d h2 rfl⟩

/-- A run behind a guard that does not want it. -/
theorem skipRun {j tj : Nat} {want c : Bool} (htj : (all[j]?).bind (·.dst) = some tj) (hc : (c == want) = false) : ∀ (grp : List Oper) (seen : List Nat) {st : St}, nest all j want seen grp = true → st.tm[tj]? = some (.c (.bool c)) →
    (∀ t ∈ seen, st.tm[t]? = some (.tup []) ∨ st.tm[t]? = none) → tj ∉ dstsOf grp → (∀ t ∈ seen, t ∉ dstsOf grp) → (dstsOf grp).Nodup → ∃ s, FRun E all grp st s ∧ (∀ t : Nat, t ∉ dstsOf grp → s.tm[t]? = st.tm[t]?) ∧ s.hp = st.hp ∧ s.tm.length = st.tm.length
  | [], seen, st, _, _, _, _, _, _ => ⟨st, rfl, fun _ _ => rfl, rfl, rfl⟩
  | o :: grp, seen, st, hn, ht, hs, htg, hsd, hnd => by
    simp only [nest, Bool.and_eq_true] at hn
    obtain ⟨hg, hn⟩ := hn
    cases hd : o.dst with
    | none => rw [hd] at hn; cases hn
    | some d =>
      rw [hd] at hn
      simp only at hn
      have e : dstsOf (o :: grp) = d :: dstsOf grp := by unfold dstsOf; rw [List.filterMap_cons, hd]
      rw [e] at htg hsd hnd
      simp only [List.mem_cons, not_or] at htg
      obtain ⟨hnd1, hnd2⟩ := List.nodup_cons.1 hnd
      have hw : wantV all o st = some false := by
        unfold wantV
        cases hgd : o.guard with
        | none => rw [hgd] at hg; cases hg
        | some g =>
          obtain ⟨j', w'⟩ := g
          rw [hgd] at hg
          simp only [Bool.or_eq_true, Bool.and_eq_true] at hg
          simp only
          rcases hg with ⟨h1, h2⟩ | h1
          · have h1 := Nat.eq_of_beq_eq_true h1
            have h2 : w' = want := by cases w' <;> cases want <;> first | rfl | cases h2
            subst h1 h2
            rw [htj]
            simp only [ht]
            exact congrArg some hc
          · cases hj' : (all[j']?).bind (·.dst) with
            | none => rw [hj'] at h1; cases h1
            | some t =>
              rw [hj'] at h1
              simp only at h1 ⊢
              rcases hs t (mem_memN.1 h1) with h2 | h2 <;> rw [h2]
      have hstep : FStep E all o st (nxt st o (.tup []) []) := .loc (.skip hw)
      have hget : ∀ t : Nat, t ≠ d → (nxt st o (.tup []) []).tm[t]? = st.tm[t]? := fun t hne => set_ne (by rw [hd]; intro e; cases e; exact hne rfl)
      obtain ⟨s, h1, h2, h3, h4⟩ := skipRun htj hc grp (d :: seen) (st := nxt st o (.tup []) []) hn (by rw [hget tj htg.1]; exact ht) (fun t hm => by
        by_cases htd : t = d
        · subst htd
          simp only [nxt, hd, put, List.getElem?_set]
          by_cases hl : t < st.tm.length <;> simp [hl]
        · rw [hget t htd]
          exact hs t ((List.mem_cons.1 hm).resolve_left htd)) htg.2 (fun t hm => by
        rcases List.mem_cons.1 hm with rfl | hm
        · exact hnd1
        · exact fun hx => hsd t hm (by simp [hx])) hnd2
      refine ⟨s, ⟨_, hstep, h1⟩, fun t hn => ?_, h3, h4.trans (put_len _ _ _)⟩
      rw [e] at hn
      simp only [List.mem_cons, not_or] at hn
      rw [h2 t hn.2, hget t hn.1]

theorem undefs_get : ∀ (l : List Oper) (tm : List V) (t : Nat), (undefs tm l)[t]? = if t ∈ dstsOf l then (tm[t]?).map fun _ => .undef else tm[t]?
  | [], tm, t => by simp [undefs, dstsOf]
  | o :: l, tm, t => by
    simp only [undefs]
    rw [undefs_get l]
    cases hd : o.dst with
    | none =>
      have e : dstsOf (o :: l) = dstsOf l := by unfold dstsOf; rw [List.filterMap_cons, hd]
      rw [e]
    | some d =>
      have e : dstsOf (o :: l) = d :: dstsOf l := by unfold dstsOf; rw [List.filterMap_cons, hd]
      rw [e]
      simp only [List.getElem?_set, List.mem_cons]
      by_cases h1 : t = d
      · subst h1
        by_cases h2 : t < tm.length
        · simp [h2]
        · simp [h2]
      · have : ¬ d = t := fun h => h1 h.symm
        simp [h1, this]

theorem undefs_len : ∀ (l : List Oper) (tm : List V), (undefs tm l).length = tm.length
  | [], _ => rfl
  | o :: l, tm => by
    simp only [undefs]
    rw [undefs_len l]
    cases o.dst <;> simp

theorem put_self {d : Nat} (h : d < st.tm.length) (v : V) : (put st (some d) v).tm[d]? = some v := by simp [put, h]

theorem getB_some {y : Operand} {b : Bool} (h : getB st y = some b) : opV st y = some (.c (.bool b)) := by
  unfold getB at h
  split at h
  · rename_i b' hb
    cases h
    exact hb
  · cases h

/-- What is known of the guard that one goes by. -/
def CtxOK (all os : List Oper) (ctx : Option (Nat × Bool)) (st : St) : Prop :=
  ∀ j want, ctx = some (j, want) → ∃ t, (all[j]?).bind (·.dst) = some t ∧ st.tm[t]? = some (.c (.bool want)) ∧ t ∉ dstsOf os

theorem CtxOK.want {os : List Oper} {ctx : Option (Nat × Bool)} (h : CtxOK all os ctx st) (hg : guardIs ctx o = true) : wantV all o st = some true := by
  have hg : o.guard = ctx := by simpa [guardIs] using hg
  unfold wantV
  rw [hg]
  cases ctx with
  | none => rfl
  | some g =>
    obtain ⟨j, want⟩ := g
    obtain ⟨t, h1, h2, h3⟩ := h j want rfl
    simp only [h1, h2]
    cases want <;> rfl

theorem mem_dsts_of {d : Nat} {l : List Oper} (ho : o ∈ l) (hd : o.dst = some d) : d ∈ dstsOf l := mem_dstsOf.2 ⟨o, ho, hd⟩

/-- The interpreter's run of a region, operation by operation. -/
theorem runOps_flat (hphi : EnvPar E) : ∀ (m : Nat) (ctx : Option (Nat × Bool)) (os : List Oper) (st st' : St) (ρ : Type) (K : St → Option ρ) (r : ρ), runOps E all ctx m os st ρ K = some r → Sub st st' → Fresh st' os → Ssa E all os →
    CtxOK all os ctx st' → (noEff E all os = true ∨ (ctx = none ∧ st = st')) → ∃ s s', K s = some r ∧ FRun E all os st' s' ∧ Sub s s' := by
  intro m
  induction m with
  | zero => intro ctx os st st' ρ K r h; cases h
  | succ m ih =>
    intro ctx os st st' ρ K r h hsub hf hs hctx hph
    cases os with
    | nil => exact ⟨st, st', h, rfl, hsub⟩
    | cons o os =>
      obtain ⟨hst, hsd⟩ := hs.tail
      rw [runOps] at h
      simp only [fTm_eq] at h
      cases hg : guardIs ctx o with
      | true =>
        rw [hg] at h
        simp only [cond_true] at h
        have hw := hctx.want (o := o) hg
        have hctx' : ∀ s : St, (∀ t : Nat, o.dst ≠ some t → s.tm[t]? = st'.tm[t]?) → CtxOK all os ctx s := by
          intro s hs' j want he
          obtain ⟨t, h1, h2, h3⟩ := hctx j want he
          refine ⟨t, h1, ?_, fun hm => h3 ?_⟩
          · rw [hs' t fun hd => h3 (mem_dsts_of (by simp) hd)]
            exact h2
          · obtain ⟨q, hq, hqd⟩ := mem_dstsOf.1 hm
            exact mem_dsts_of (by simp [hq]) hqd
        unfold evalOp at h
        simp only [fTm_eq] at h
        cases he : isEff E all o with
        | true =>
          rw [he] at h
          simp only [cond_true] at h
          rcases hph with hn | ⟨hc, rfl⟩
          · have := noEff_mem hn o (by simp)
            rw [he] at this
            cases this
          · obtain ⟨s1, h1, hf1⟩ := evalE_foot hphi h
            have hstep : FStep E all o st s1 := .eff hw he hf1
            have hfr := hstep.fresh (hf.sub fun q hq => by simp only [List.mem_cons]; exact .inr hq) (fun d hd => (hsd d hd).1) hst.lt fun d hd => (hsd d hd).2
            subst hc
            obtain ⟨s, s', a1, a2, a3⟩ := ih none os s1 s1 ρ K r h1 (Sub.refl s1) hfr hst (fun j want he => by cases he) (.inr ⟨rfl, rfl⟩)
            exact ⟨s, s', a1, ⟨s1, hstep, a2⟩, a3⟩
        | false =>
          rw [he] at h
          simp only [cond_false] at h
          obtain ⟨v, obs, hk, hfo⟩ := evalP_foot hphi.1 h
          obtain ⟨hdd, hk⟩ := cond_some hk rfl
          have hag : Agree o.op.operands.toList (opV st) (opV st') st.hp st'.hp := by
            refine ⟨fun y hy => ?_, fun y hy u hu k hr => ?_⟩
            · cases y with
              | tmp t =>
                simp only [opV]
                cases hv : st.tm[t]? with
                | none =>
                  have := List.getElem?_eq_none_iff.1 hv
                  exact List.getElem?_eq_none_iff.2 (by rw [← hsub.len]; exact this)
                | some u =>
                  exact (hsub.tm t u hv).resolve_left fun hu => hfo.dfd t hy (by rw [← hu]; exact hv)
              | _ => rfl
            · obtain ⟨t, rfl, ht⟩ := opV_tmp hu hr
              exact hsub.hp t u ht k hr
          have hev := hfo.cong _ _ hag
          obtain ⟨v', obs', hk', hfo'⟩ := evalP_foot hphi.1 hev
          cases hk'
          have hlo : ∀ p ∈ obs, p.1 < pinLo := fun p hp => (dead_spec (List.all_eq_true.1 hdd p hp)).1
          have hstep : FStep E all o st' (nxt st' o v obs) := .loc (.pure hw he hfo' hlo)
          have hsub' : Sub (nxt st o v obs) (nxt st' o v obs) := by
            refine ⟨by simp only [nxt, put_len, hsub.len], fun t u hu => ?_, fun t u hu k hr => ?_, fun k hk => updAll_eq (.inl (hsub.pin k hk))⟩
            · rcases put_get hu with ⟨hd, rfl⟩ | hu'
              · refine .inr ?_
                have hlt : t < st.tm.length := by
                  rcases Nat.lt_or_ge t st.tm.length with h1 | h1
                  · exact h1
                  · have : (nxt st o u obs).tm[t]? = none := List.getElem?_eq_none (by simp only [nxt, put_len]; exact h1)
                    rw [this] at hu
                    cases hu
                rw [nxt, hd]
                exact put_self (by rw [← hsub.len]; exact hlt) u
              · by_cases hd : o.dst = some t
                · have hlt : t < st.tm.length := (List.getElem?_eq_some_iff.1 hu').1
                  refine .inr ?_
                  have e1 : (nxt st o v obs).tm[t]? = some v := by
                    rw [nxt, hd]
                    exact put_self hlt v
                  rw [e1] at hu
                  cases hu
                  rw [nxt, hd]
                  exact put_self (by rw [← hsub.len]; exact hlt) v
                · rcases hsub.tm t u hu' with h1 | h1
                  · exact .inl h1
                  · refine .inr ?_
                    have e1 : (nxt st' o v obs).tm[t]? = st'.tm[t]? := set_ne hd
                    rw [e1]
                    exact h1
            · refine updAll_eq ?_
              rcases put_get hu with ⟨hd, rfl⟩ | hu'
              · rcases hfo.prov k hr with ⟨y, hy, u', hu', hr'⟩ | h1
                · obtain ⟨t', rfl, ht'⟩ := opV_tmp hu' hr'
                  exact .inl (hsub.hp t' u' ht' k hr')
                · exact .inr h1
              · exact .inl (hsub.hp t u hu' k hr)
          have hfr := hstep.fresh (hf.sub fun q hq => by simp only [List.mem_cons]; exact .inr hq) (fun d hd => (hsd d hd).1) hst.lt fun d hd => (hsd d hd).2
          have hph' : noEff E all os = true ∨ (ctx = none ∧ nxt st o v obs = nxt st' o v obs) := by
            rcases hph with hn | ⟨hc, rfl⟩
            · unfold noEff at hn
              simp only [List.all_cons, Bool.and_eq_true] at hn
              exact .inl hn.2
            · exact .inr ⟨hc, rfl⟩
          obtain ⟨s, s', a1, a2, a3⟩ := ih ctx os (nxt st o v obs) (nxt st' o v obs) ρ K r hk hsub' hfr hst (hctx' _ fun t ht => set_ne ht) hph'
          exact ⟨s, s', a1, ⟨_, hstep, a2⟩, a3⟩
      | false =>
        rw [hg] at h
        simp only [cond_false] at h
        cases hgd : o.guard with
        | none => rw [hgd] at h; cases h
        | some g =>
          obtain ⟨j, want⟩ := g
          rw [hgd] at h
          simp only at h
          split at h
          case h_2 => cases h
          rename_i p rest tj hdw htj
          split at h
          case h_2 => cases h
          rename_i c a b cc hop hgb
          obtain ⟨hgrp, h⟩ := cond_some h rfl
          obtain ⟨b', hb', h⟩ := Option.bind_eq_some_iff.1 h
          generalize hgr : (o :: os).takeWhile (fun p => !guardIs ctx p) = grp at hgrp hb' h
          have hos : o :: os = grp ++ p :: rest := by rw [← hgr, ← hdw, List.takeWhile_append_dropWhile]
          simp only [grpOK, Bool.and_eq_true] at hgrp
          obtain ⟨⟨⟨⟨⟨g1, g2⟩, g3⟩, g4⟩, g5⟩, g6⟩ := hgrp
          have hgp : guardIs ctx p = true := by
            have := List.head?_dropWhile_not (fun p => !guardIs ctx p) (o :: os)
            rw [hdw] at this
            simpa using this
          have hcc : c = .tmp tj := by
            cases c with
            | tmp t => rw [Nat.eq_of_beq_eq_true g1]
            | _ => cases g1
          rw [hos] at hs hf hctx
          obtain ⟨hs1, hs2, hs12⟩ := hs.append
          obtain ⟨hs3, hsp⟩ := hs2.tail
          have hcB := getB_some hgb
          have hcB' : st'.tm[tj]? = some (.c (.bool cc)) := hsub.opV hcB (by intro e; cases e)
          have htjn : tj ∉ dstsOf grp := fun hm => by rw [mem_memN.2 hm] at g3; cases g3
          have hpd : p.dst ≠ none := hs2.has p (by simp) (noEff_mem g6 p (by simp))
          have hgrE : ∀ o ∈ grp, isEff E all o = false := noEff_mem g5
          -- the run behind the guard, or what skips it
          have hrun : ∃ s2, FRun E all grp st' s2 ∧ opV s2 (bif cc then a else b) = some (.c (.bool b')) := by
            cases hw : cc == want with
            | true =>
              rw [hw] at hb'
              simp only [cond_true] at hb'
              have hwc : cc = want := by cases cc <;> cases want <;> first | rfl | cases hw
              obtain ⟨s, s', a1, a2, a3⟩ := ih (some (j, want)) grp st st' Bool _ b' hb' hsub (hf.sub fun q hq => by simp [hq]) hs1 (fun j' w' he => by
                cases he
                exact ⟨tj, htj, by rw [← hwc]; exact hcB', htjn⟩) (.inl g5)
              refine ⟨s', a2, ?_⟩
              rw [hwc]
              exact a3.opV (getB_some a1) (by intro e; cases e)
            | false =>
              rw [hw] at hb'
              simp only [cond_false] at hb'
              obtain ⟨s, h1, h2, h3, h4⟩ := skipRun (E := E) htj hw grp [] (st := st') g4 hcB' (by simp) htjn (by simp) hs1.nd
              refine ⟨s, h1, ?_⟩
              have e : (bif cc then a else b) = bif want then b else a := by cases cc <;> cases want <;> first | rfl | cases hw
              rw [e]
              have h5 := hsub.opV (getB_some hb') (by intro e; cases e)
              cases hy : (bif want then b else a) with
              | tmp t =>
                rw [hy] at h5 g2
                simp only [opV] at h5 ⊢
                rw [h2 t fun hm => by simp only [notTmps, mem_memN.2 hm] at g2; cases g2]
                exact h5
              | const v => rw [hy] at h5; exact h5
              | global g => rw [hy] at h5; exact h5
              | func f => rw [hy] at h5; exact h5
          obtain ⟨s2, hr2, hv2⟩ := hrun
          obtain ⟨f1, f2, f3⟩ := hr2.frame hgrE
          have htj2 : opV s2 c = some (.c (.bool cc)) := by
            rw [hcc]
            exact (f2 tj htjn).trans hcB'
          have hctx2 : CtxOK all (p :: rest) ctx s2 := by
            intro j' w' he
            obtain ⟨t, h1, h2, h3⟩ := hctx j' w' he
            have e : dstsOf (grp ++ p :: rest) = dstsOf grp ++ dstsOf (p :: rest) := by unfold dstsOf; rw [List.filterMap_append]
            rw [e, List.mem_append, not_or] at h3
            exact ⟨t, h1, (f2 t h3.1).trans h2, h3.2⟩
          have hstep : FStep E all p s2 (nxt s2 p (.c (.bool b')) []) := .loc (.pick (hctx2.want hgp) hop htj2 hv2 rfl)
          have hfr2 : Fresh s2 (p :: rest) := hr2.fresh hf hs
          have hfr3 := hstep.fresh (hfr2.sub fun q hq => by simp only [List.mem_cons]; exact .inr hq) (fun d hd => (hsp d hd).1) hs3.lt fun d hd => (hsp d hd).2
          cases hd : p.dst with
          | none => exact absurd hd hpd
          | some d =>
            rw [hd] at h
            simp only [dstKey] at h
            have hsub3 : Sub { st with tm := (undefs st.tm grp).set d (.c (.bool b')) } (nxt s2 p (.c (.bool b')) []) := by
              refine ⟨by simp only [nxt, put_len, List.length_set, undefs_len, f1]; exact hsub.len, fun t u hu => ?_, fun t u hu k hr => ?_, fun k hk => (hr2.pins hgrE k hk).trans (hsub.pin k hk)⟩
              · simp only [List.getElem?_set, undefs_len] at hu
                split at hu
                · rename_i htd
                  subst htd
                  split at hu
                  · rename_i hlt
                    cases hu
                    refine .inr ?_
                    rw [nxt, hd]
                    exact put_self (by rw [f1, ← hsub.len]; exact hlt) _
                  · cases hu
                · rename_i htd
                  rw [undefs_get] at hu
                  split at hu
                  · obtain ⟨_, _, rfl⟩ := Option.map_eq_some_iff.1 hu
                    exact .inl rfl
                  · rename_i htg
                    rcases hsub.tm t u hu with h1 | h1
                    · exact .inl h1
                    · refine .inr ?_
                      have e1 : (nxt s2 p (.c (.bool b')) []).tm[t]? = s2.tm[t]? := set_ne (by rw [hd]; intro e; cases e; exact htd rfl)
                      rw [e1, f2 t htg]
                      exact h1
              · have e0 : (nxt s2 p (.c (.bool b')) []).hp = s2.hp := rfl
                rw [e0]
                simp only [List.getElem?_set, undefs_len] at hu
                split at hu
                · split at hu
                  · cases hu; cases hr
                  · cases hu
                · rw [undefs_get] at hu
                  split at hu
                  · obtain ⟨_, _, rfl⟩ := Option.map_eq_some_iff.1 hu
                    cases hr
                  · rename_i htg
                    have h6 : u ≠ .undef := fun e => by rw [e] at hr; cases hr
                    have h7 := (hsub.tm t u hu).resolve_left h6
                    rw [f3 k (fun q hq hqm hqd => not_key (hf.one (by simp [hq])) hqm hqd h7 hr) (fun q hq => hs1.has q hq)]
                    exact hsub.hp t u hu k hr
            have hctx3 : CtxOK all rest ctx (nxt s2 p (.c (.bool b')) []) := by
              intro j' w' he
              obtain ⟨t, h1, h2, h3⟩ := hctx2 j' w' he
              refine ⟨t, h1, ?_, fun hm => h3 ?_⟩
              · have e1 : (nxt s2 p (.c (.bool b')) []).tm[t]? = s2.tm[t]? := set_ne fun hd' => h3 (mem_dsts_of (by simp) hd')
                rw [e1]
                exact h2
              · obtain ⟨q, hq, hqd⟩ := mem_dstsOf.1 hm
                exact mem_dsts_of (by simp [hq]) hqd
            have hn : noEff E all rest = true := by
              unfold noEff at g6
              simp only [List.all_cons, Bool.and_eq_true] at g6
              exact g6.2
            obtain ⟨s, s', a1, a2, a3⟩ := ih ctx rest _ _ ρ K r h hsub3 hfr3 hs3 hctx3 (.inl hn)
            refine ⟨s, s', a1, ?_, a3⟩
            rw [hos]
            exact hr2.append ⟨_, hstep, a2⟩

end
end Go.Vi
/-
  Vi: joins; what the interpreter says of code comes true.
-/
set_option linter.unusedVariables false
set_option linter.unusedSimpArgs false
namespace Go.Vi
open Op

section
variable {P : Program} {E : Env} {all : List Oper} {o p q : Oper} {x : Cx} {γ γ' : Gam} {w : World} {a : Act} {st st' s1 s2 : St}
variable {ops : Array Oper} {Q : Exit → Act → World → Prop} {H H' : Heap} {ρ : Type} {K k : St → Option ρ} {r : ρ}

theorem nodupB_spec : ∀ {l : List Nat}, nodupB l = true → l.Nodup
  | [], _ => List.nodup_nil
  | d :: l, h => by
    simp only [nodupB, Bool.and_eq_true, Bool.not_eq_true'] at h
    refine List.nodup_cons.2 ⟨fun hm => ?_, nodupB_spec h.2⟩
    rw [mem_memN.2 hm] at h
    cases h.1

theorem flatOK_spec (h : flatOK E all = true) : Ssa E all all := by
  simp only [flatOK, Bool.and_eq_true] at h
  obtain ⟨⟨h1, h2⟩, h3⟩ := h
  refine ⟨nodupB_spec h1, fun d hd => Nat.le_of_ble_eq_true (List.all_eq_true.1 h2 d hd), fun o ho he hd => ?_⟩
  have := List.all_eq_true.1 h3 o ho
  rw [he, hd] at this
  cases this

theorem keys1_mem {k : Nat} {v : V} (h : refs1 k v = true) : k ∈ keys1 v := by
  cases v <;> first | (cases h; done) | exact List.mem_singleton.2 (Nat.eq_of_beq_eq_true h).symm

theorem keysL_mem {k : Nat} : ∀ {vs : List V}, refsAny k vs = true → k ∈ keysL vs
  | [], h => by cases h
  | v :: vs, h => by
    simp only [refsAny, Bool.or_eq_true] at h
    simp only [keysL, List.mem_append]
    exact h.imp keys1_mem keysL_mem

theorem keysV_mem {k : Nat} {v : V} (h : refs k v = true) : k ∈ keysV v := by
  cases v with
  | tup vs => exact keysL_mem h
  | fn f vs => exact keysL_mem h
  | ptr j off => exact keys1_mem (v := .ptr j off) h
  | own j w t => exact keys1_mem (v := .own j w t) h
  | eptr j w i off => exact keys1_mem (v := .eptr j w i off) h
  | aptr j off n e i => exact keys1_mem (v := .aptr j off n e i) h
  | map j => exact keys1_mem (v := .map j) h
  | _ => cases h

theorem key_mod (d j : Nat) (h : d < 10000) : (d + 10000 * j) % 10000 = d := by omega

theorem freshB_spec (h : freshB (makers all) st.tm = true) (hs : Ssa E all all) : Fresh st all := by
  intro q hq hmk d hd j t u hu
  cases hr : refs (d + 10000 * j) u with
  | false => rfl
  | true =>
    exfalso
    have h1 := List.all_eq_true.1 h u (List.mem_of_getElem? hu)
    have h2 := List.all_eq_true.1 h1 _ (keysV_mem hr)
    have hm := mem_dsts_of hq hd
    have hm2 : d ∈ makers all := mem_dsts_of (List.mem_filter.2 ⟨hq, by rw [hmk]; rfl⟩) hd
    have h3 : @LT.lt Nat _ d 10000 := hs.lt d hm
    rw [key_mod d j h3, mem_memN.2 hm2] at h2
    cases h2

theorem fm_range (ops : Array Oper) : (List.range ops.size).filterMap (fun i => ops.toList[i]?) = ops.toList := by
  have key : ∀ (l : List Oper) (k : Nat), (∀ i o, l[i]? = some o → ops.toList[k + i]? = some o) → (List.range' k l.length).filterMap (fun i => ops.toList[i]?) = l := by
    intro l
    induction l with
    | nil => intro k _; rfl
    | cons o l ih =>
      intro k h
      have h0 := h 0 o (by simp)
      rw [List.length_cons, List.range'_succ, List.filterMap_cons]
      simp only [Nat.add_zero] at h0
      rw [h0]
      simp only
      rw [ih (k + 1) fun i o' hi => by
        have := h (i + 1) o' (by simpa using hi)
        rwa [show k + (i + 1) = k + 1 + i by omega] at this]
  have := key ops.toList 0 (fun i o h => by rw [Nat.zero_add]; exact h)
  rw [← List.range_eq_range', Array.length_toList] at this
  exact this

theorem runOps_plain (hT : TabOK P E.T) (hE : EqsOK P E.T) (hphi : EnvOK P E) : ∀ (m : Nat) (os : List Oper) {st : St} {γ : Gam} {a : Act} {w : World}, (∀ o ∈ os, o.guard = none) → runOps E ops.toList none m os st ρ K = some r → RS x γ st a w →
    (∀ st' γ' a' w', K st' = some r → RS x γ' st' a' w' → Q .normal a' w') → wpList P ops Q os a w
  | 0, os, st, γ, a, w, _, h, _, _ => by cases h
  | m + 1, [], st, γ, a, w, _, h, hr, hQ => hQ st γ a w h hr
  | m + 1, o :: os, st, γ, a, w, hg, h, hr, hQ => by
    have hgo := hg o (by simp)
    rw [runOps] at h
    have hgi : guardIs none o = true := by simp [guardIs, hgo]
    rw [hgi] at h
    simp only [cond_true] at h
    obtain ⟨s, hs, hop⟩ := evalOp_eff hT hE hphi h hr
    refine wpList_plain hgo fun K' hK' => ?_
    refine OpTo.wp (hop.mono fun u w' ⟨γ', hr'⟩ => hK' _ _ ?_)
    exact runOps_plain hT hE hphi m os (fun q hq => hg q (by simp [hq])) hs hr' hQ

/-- A region. -/
theorem region_sound (hT : TabOK P E.T) (hE : EqsOK P E.T) (hphi : EnvOK P E) (hpar : EnvPar E) (hm : P.follows .mixedOrders = true) {id : Nat} {draw : Bool}
    (h : (bif regOK E ops.toList draw st then runOps E ops.toList none (ops.toList.length + 1) ops.toList st ρ k else none) = some r) (hr : RS x γ st a w)
    (hQ : ∀ st' γ' a' w', k st' = some r → RS x γ' st' a' w' → Q .normal a' w') : (Code.region id ops draw).wp P Q a w := by
  obtain ⟨hok, hrun⟩ := cond_some h rfl
  clear h
  have flat : flatOK E ops.toList = true → freshB (makers ops.toList) st.tm = true → ∃ s s', k s = some r ∧ FRun E ops.toList ops.toList st s' ∧ Sub s s' ∧ Ssa E ops.toList ops.toList ∧ Fresh st ops.toList := by
    intro hf hfr
    have hs := flatOK_spec hf
    have hfs := freshB_spec hfr hs
    obtain ⟨s, s', h1, h2, h3⟩ := runOps_flat hpar _ none ops.toList st st ρ k r hrun (Sub.refl st) hfs hs (fun j want he => by cases he) (.inr ⟨rfl, rfl⟩)
    exact ⟨s, s', h1, h2, h3, hs, hfs⟩
  have fin : ∀ {s s' : St}, k s = some r → Sub s s' → ∀ γ' a' w', RS x γ' s' a' w' → Q .normal a' w' := by
    intro s s' hk hsub γ' a' w' hr'
    obtain ⟨γ2, hr2⟩ := hr'.sub hsub
    exact hQ s γ2 a' w' hk hr2
  unfold regOK at hok
  cases draw with
  | true =>
    simp only [cond_true, Bool.and_eq_true] at hok
    obtain ⟨⟨hd, hf⟩, hfr⟩ := hok
    obtain ⟨s, s', h1, h2, h3, h4, h5⟩ := flat hf hfr
    refine wp_region_any hm ?_
    have hrem : rem (Array.replicate ops.size false) ops.size = List.range ops.size := by
      unfold rem
      refine List.filter_eq_self.2 fun i hi => ?_
      have := List.mem_range.1 hi
      simp [Array.getD, this]
    have hfm : (rem (Array.replicate ops.size false) ops.size).filterMap (fun i => ops.toList[i]?) = ops.toList := by rw [hrem]; exact fm_range ops
    refine FRun.wpAny (st := st) (st' := s') hT hE hphi hpar hd ops.size _ (by simp) (by rw [hrem]; simp) ?_ (by rw [hfm]; exact h2) (hr.grows (Grows.drew w)) (by rw [hfm]; exact h5) (by rw [hfm]; exact h4) (fin h1 h3)
    intro j hj hl
    simp [Array.getD, hj] at hl
  | false =>
    simp only [cond_false, Bool.or_eq_true] at hok
    rcases hok with hok | hok
    · refine wp_region_list ?_
      refine runOps_plain hT hE hphi _ ops.toList (fun o ho => ?_) hrun hr hQ
      have := List.all_eq_true.1 hok o ho
      simpa using this
    · rw [Bool.and_eq_true] at hok
      obtain ⟨s, s', h1, h2, h3, h4, h5⟩ := flat hok.1 hok.2
      refine wp_region ?_
      refine FRun.wpOps (st := st) (st' := s') hT hE hphi (List.range ops.size) (fun i hi => List.mem_range.1 hi) (by rw [fm_range]; exact h2) hr (by rw [fm_range]; exact h5) (by rw [fm_range]; exact h4) (fin h1 h3)

/-! ### Joins -/

/-- Which old key a new name stands for. -/
def oldKey (s : List (Nat × Nat)) (j : Nat) : Option Nat := look (s.map fun p => (p.2, p.1)) j

theorem look_in {α : Type} : ∀ {s : List (Nat × α)} {k : Nat} {y : α}, look s k = some y → (k, y) ∈ s
  | [], k, y, h => by cases h
  | (k', v) :: s, k, y, h => by
    simp only [look] at h
    cases hb : Nat.beq k' k with
    | true =>
      rw [hb] at h
      cases h
      rw [Nat.eq_of_beq_eq_true hb]
      simp
    | false =>
      rw [hb] at h
      have := look_in h
      simp [this]

theorem look_none {α : Type} : ∀ {s : List (Nat × α)} {k : Nat}, look s k = none → k ∉ s.map (·.1)
  | [], k, _ => by simp
  | (k', v) :: s, k, h => by
    simp only [look] at h
    cases hb : Nat.beq k' k with
    | true => rw [hb] at h; cases h
    | false =>
      rw [hb] at h
      have h1 := look_none h
      simp only [List.map_cons, List.mem_cons, not_or]
      refine ⟨fun e => ?_, h1⟩
      rw [e, Nat.beq_refl] at hb
      cases hb

theorem in_look {α : Type} : ∀ {s : List (Nat × α)} {k : Nat} {y : α}, (s.map (·.1)).Nodup → (k, y) ∈ s → look s k = some y
  | [], k, y, _, h => by cases h
  | (k', v) :: s, k, y, hn, h => by
    obtain ⟨h1, h2⟩ := List.nodup_cons.1 hn
    simp only [look]
    rcases List.mem_cons.1 h with h | h
    · cases h
      rw [Nat.beq_refl]
      rfl
    · have hne : k' ≠ k := fun e => h1 (by
        simp only
        rw [e]
        exact List.mem_map.2 ⟨(k, y), h, rfl⟩)
      rw [beq_false hne]
      exact in_look h2 h

/-- New names are one each; what a caller handed in keeps its own. -/
structure NamesOK (s : List (Nat × Nat)) : Prop where
  fst : (s.map (·.1)).Nodup
  snd : (s.map (·.2)).Nodup
  lo : ∀ p ∈ s, pinLo ≤ p.1 ∨ pinLo ≤ p.2 → p.1 = p.2

theorem nodup_snoc {α : Type} {l : List α} {y : α} (h : l.Nodup) (hy : y ∉ l) : (l ++ [y]).Nodup := by
  rw [List.nodup_append]
  refine ⟨h, by simp, fun q hq q' hq' e => ?_⟩
  rw [List.mem_singleton.1 hq'] at e
  exact hy (e ▸ hq)

theorem NamesOK.add {s : List (Nat × Nat)} (h : NamesOK s) (k new : Nat) : NamesOK (addName s k new) := by
  unfold addName
  cases hl : look s k with
  | some y => exact h
  | none =>
    simp only
    have hk := look_none hl
    cases hp : Nat.ble pinLo k with
    | true =>
      simp only [cond_true]
      have hlo : pinLo ≤ k := Nat.le_of_ble_eq_true hp
      refine ⟨by rw [List.map_append]; exact nodup_snoc h.fst hk, ?_, fun p hp => ?_⟩
      · rw [List.map_append]
        refine nodup_snoc h.snd fun hm => ?_
        obtain ⟨p, hpm, hpk⟩ := List.mem_map.1 hm
        have := h.lo p hpm (.inr (by rw [hpk]; exact hlo))
        exact hk (List.mem_map.2 ⟨p, hpm, this.trans hpk⟩)
      · rcases List.mem_append.1 hp with hp | hp
        · exact h.lo p hp
        · rw [List.mem_singleton.1 hp]
          exact fun _ => rfl
    | false =>
      simp only [cond_false]
      cases hn : Nat.ble pinLo new || s.any (fun p => Nat.beq p.2 new) with
      | true => exact h
      | false =>
        rw [Bool.or_eq_false_iff] at hn
        simp only [cond_false]
        have hk' : ¬ pinLo ≤ k := fun e => by rw [Nat.ble_eq_true_of_le e] at hp; cases hp
        have hn' : ¬ pinLo ≤ new := fun e => by rw [Nat.ble_eq_true_of_le e] at hn; cases hn.1
        refine ⟨by rw [List.map_append]; exact nodup_snoc h.fst hk, ?_, fun p hp => ?_⟩
        · rw [List.map_append]
          refine nodup_snoc h.snd fun hm => ?_
          obtain ⟨p, hpm, hpk⟩ := List.mem_map.1 hm
          have := List.any_eq_false.1 hn.2 p hpm
          rw [hpk, Nat.beq_refl] at this
          exact this rfl
        · rcases List.mem_append.1 hp with hp | hp
          · exact h.lo p hp
          · rw [List.mem_singleton.1 hp]
            rintro (h1 | h1)
            · exact absurd h1 hk'
            · exact absurd h1 hn'

theorem NamesOK.adds : ∀ {l : List Nat} {s : List (Nat × Nat)} {new : Nat}, NamesOK s → NamesOK (addNames s new l)
  | [], _, _, h => h
  | k :: l, s, new, h => NamesOK.adds (l := l) (h.add k new)

theorem names_ok (tm : List V) : ∀ (live : List Nat) (s : List (Nat × Nat)), NamesOK s → NamesOK (names tm live s)
  | [], s, h => h
  | t :: ts, s, h => by
    rw [names]
    refine names_ok tm ts _ ?_
    cases Nat.ble pinLo t with
    | true => exact h.add t t
    | false =>
      simp only [cond_false]
      split
      · exact NamesOK.adds h
      · exact h

theorem newHeap_get {hp : Heap} {j k : Nat} {ob : O} : ∀ (s : List (Nat × Nat)), (∀ p ∈ s, p.2 = j → p.1 = k) → (k, j) ∈ s → hp k = some ob → newHeap hp s j = some ob
  | [], _, h, _ => by cases h
  | (k', t) :: s, hu, h, hk => by
    by_cases ht : t = j
    · subst ht
      have : k' = k := hu (k', t) (by simp) rfl
      subst this
      simp only [newHeap, hk]
      simp [upd]
    · have h' : (k, j) ∈ s := by
        rcases List.mem_cons.1 h with h | h
        · cases h; exact absurd rfl ht
        · exact h
      have ih := newHeap_get s (fun p hp => hu p (by simp [hp])) h' hk
      simp only [newHeap]
      cases hp k' with
      | some o' =>
        simp only
        rw [upd_ne _ _ fun e => ht e.symm]
        exact ih
      | none => exact ih

theorem newHeap_ne {hp : Heap} {j : Nat} : ∀ (s : List (Nat × Nat)), newHeap hp s j ≠ none → ∃ p ∈ s, p.2 = j ∧ hp p.1 ≠ none
  | [], h => absurd rfl h
  | (k', t) :: s, h => by
    simp only [newHeap] at h
    cases hk : hp k' with
    | none =>
      rw [hk] at h
      obtain ⟨p, hp', h1, h2⟩ := newHeap_ne s h
      exact ⟨p, by simp [hp'], h1, h2⟩
    | some o' =>
      rw [hk] at h
      simp only at h
      by_cases ht : j = t
      · exact ⟨(k', t), by simp, ht.symm, by rw [hk]; simp⟩
      · rw [upd_ne _ _ ht] at h
        obtain ⟨p, hp', h1, h2⟩ := newHeap_ne s h
        exact ⟨p, by simp [hp'], h1, h2⟩

theorem normTm_get (s : List (Nat × Nat)) (live : List Nat) : ∀ (tm : List V) (i t : Nat), (normTm s live tm i)[t]? = (tm[t]?).map fun v => bif live.any (Nat.beq (i + t)) then ren s v else .undef
  | [], i, t => by simp [normTm]
  | v :: tm, i, 0 => by simp [normTm]
  | v :: tm, i, t + 1 => by
    simp only [normTm, List.getElem?_cons_succ]
    rw [normTm_get s live tm (i + 1) t]
    simp only [show i + 1 + t = i + (t + 1) by omega]

theorem normTm_len (s : List (Nat × Nat)) (live : List Nat) : ∀ (tm : List V) (i : Nat), (normTm s live tm i).length = tm.length
  | [], _ => rfl
  | v :: tm, i => by simp [normTm, normTm_len s live tm (i + 1)]

theorem CR.loose {A : Nat → Prop} {c : C} {v : Value} (h : CR w A c v) : CR w A (Vi.loose c) v := by
  cases c with
  | sl e xs t =>
    obtain ⟨a, cap, h1, h2, h3, h4⟩ := h
    exact ⟨a, cap, h1, h2, by simp, h4⟩
  | _ => exact h

theorem All2.loose {A : Nat → Prop} : ∀ {cs : List C} {vs : List Value}, All2 (CR w A) cs vs → All2 (CR w A) (cs.map Vi.loose) vs
  | [], [], _ => trivial
  | _ :: _, _ :: _, h => ⟨CR.loose h.1, All2.loose h.2⟩
  | [], _ :: _, h => h.elim
  | _ :: _, [], h => h.elim

theorem OwnSl.loose {i : Info} {n len : Nat} {nilE t : Bool} {win : Option (Nat × Nat)} {v : Value} (h : OwnSl i n len nilE win t v) : OwnSl i n len nilE win false v := by
  cases i with
  | emp => exact h
  | «at» b c =>
    cases win with
    | none => exact ⟨h.1, h.2.1, by simp⟩
    | some p =>
      obtain ⟨p, l⟩ := p
      obtain ⟨o, cap, h1, h2, h3, h4, h5, h6, h7⟩ := h
      exact ⟨o, cap, h1, h2, h3, h4, by simp, h6, h7⟩

/-- The state at a join is true if the state before it is. -/
theorem RS.norm (hr : RS x γ st a w) (live : List Nat) : ∃ γ', RS x γ' (Vi.norm live st) a w := by
  generalize hs : names st.tm live [] = s
  have hok : NamesOK s := hs ▸ names_ok st.tm live [] ⟨List.nodup_nil, List.nodup_nil, by simp⟩
  have hsw : ((s.map fun p => (p.2, p.1)).map (·.1)).Nodup := by
    rw [List.map_map]
    exact hok.snd
  have hold : ∀ k j, look s k = some j → oldKey s j = some k := fun k j h => in_look hsw (List.mem_map.2 ⟨(k, j), look_in h, rfl⟩)
  have hmem : ∀ k j, oldKey s j = some k → (k, j) ∈ s := by
    intro k j h
    obtain ⟨p, hp, he⟩ := List.mem_map.1 (look_in h)
    cases he
    exact hp
  have hold' : ∀ k j, oldKey s j = some k → look s k = some j := fun k j h => in_look hok.fst (hmem k j h)
  let γ' : Gam := fun j => (oldKey s j).bind γ
  let H' : Heap := newHeap st.hp s
  have hγ : ∀ j i, γ' j = some i → ∃ k, oldKey s j = some k ∧ γ k = some i := fun j i h => Option.bind_eq_some_iff.1 h
  have hH : ∀ j k ob, oldKey s j = some k → st.hp k = some ob → H' j = some ob := by
    intro j k ob h hk
    refine newHeap_get s (fun p hp hpj => ?_) (hmem k j h) hk
    have h1 : oldKey s j = some p.1 := in_look hsw (List.mem_map.2 ⟨p, hp, by rw [← hpj]⟩)
    rw [h] at h1
    cases h1
    rfl
  have hav : ∀ b, Av x γ w b → Av x γ' w b ∧ w.heap[b]? = w.heap[b]? := fun b hb => Av.del (fun k i hk => by
    obtain ⟨k', _, h⟩ := hγ k i hk
    exact ⟨k', h⟩) b hb
  have hnorm : Vi.norm live st = { tm := normTm s live st.tm 0, hp := H' } := by simp only [Vi.norm, hs, H']
  rw [hnorm]
  refine ⟨γ', ⟨⟨hr.inv.size, hr.inv.os, hr.inv.tape, hr.inv.output, hr.inv.blk, ?_, ?_, ?_, ?pin⟩, by rw [normTm_len]; exact hr.len, ?_, hr.nod⟩⟩
  case pin =>
    intro k i hp hHk
    have hlo := x.pinlo k i hp
    obtain ⟨p, hpm, h1, h2⟩ := newHeap_ne s hHk
    have h3 := hok.lo p hpm (.inr (by rw [h1]; exact hlo))
    have h4 : (k, k) ∈ s := by
      have : p = (k, k) := by
        cases p
        simp only at h1 h3
        subst h1
        rw [h3]
      rw [← this]
      exact hpm
    rw [h3.trans h1] at h2
    simp only [γ', hold k k (in_look hok.fst h4), Option.bind_some]
    exact hr.inv.pin k i hp h2
  · intro j i hj
    obtain ⟨k, h1, h2⟩ := hγ j i hj
    obtain ⟨ob, h3, h4⟩ := hr.inv.own k i h2
    exact ⟨ob, hH j k ob h1 h3, objR.mono hav ob i (fun _ _ _ => rfl) h4⟩
  · intro j b c hj
    obtain ⟨k, h1, h2⟩ := hγ j _ hj
    exact hr.inv.rng k b c h2
  · intro j j' b c c' hj hj'
    obtain ⟨k, h1, h2⟩ := hγ j _ hj
    obtain ⟨k', h1', h2'⟩ := hγ j' _ hj'
    have := hr.inv.inj k k' b c c' h2 h2'
    subst this
    have e1 := hold' k j h1
    have e2 := hold' k j' h1'
    rw [e1] at e2
    cases e2
    rfl
  · intro t v hv
    rw [normTm_get, Option.map_eq_some_iff] at hv
    obtain ⟨y, hy, hyv⟩ := hv
    cases hl : live.any (Nat.beq (0 + t)) with
    | false =>
      rw [hl] at hyv
      subst hyv
      trivial
    | true =>
      rw [hl] at hyv
      simp only [cond_true] at hyv
      have hVR := VR.mono hav y _ (hr.tm t y hy)
      have one : ∀ (y : V) (u : Value), VR1 γ w (Av x γ' w) st.hp y u → VR1 γ' w (Av x γ' w) H' (ren1 s y) u := by
        intro y u h
        cases y with
        | ptr k off =>
          simp only [ren1]
          split
          · rename_i j hj
            obtain ⟨b, c, h1, h2⟩ := h
            exact ⟨b, c, by simp only [γ', hold k j hj, Option.bind_some]; exact h1, h2⟩
          · trivial
        | own k win t =>
          simp only [ren1]
          split
          · rename_i j hj
            obtain ⟨i, e, xs, nilE, h1, h2, h3⟩ := h
            exact ⟨i, e, xs, nilE, by simp only [γ', hold k j hj, Option.bind_some]; exact h1, hH j k _ (hold k j hj) h2, OwnSl.loose h3⟩
          · trivial
        | map k =>
          simp only [ren1]
          split
          · rename_i j hj
            obtain ⟨b, c, h1, h2⟩ := h
            exact ⟨b, c, by simp only [γ', hold k j hj, Option.bind_some]; exact h1, h2⟩
          · trivial
        | c y => exact CR.loose h
        | agg cs =>
          obtain ⟨vs, h1, h2⟩ := h
          exact ⟨vs, h1, All2.loose h2⟩
        | iptr cs =>
          obtain ⟨b, o, cur, et, fz, h1, h2, h3, h4, h5⟩ := h
          refine ⟨b, o, cur, et, fz, h1, h2, h3, by simpa using h4, ?_⟩
          rw [List.length_map]
          exact All2.loose h5
        | _ => trivial
      have many : ∀ (ys : List V) (us : List Value), All2 (VR1 γ w (Av x γ' w) st.hp) ys us → All2 (VR1 γ' w (Av x γ' w) H') (renL s ys) us := by
        intro ys
        induction ys with
        | nil => intro us h; cases us <;> first | trivial | exact h.elim
        | cons y ys ih =>
          intro us h
          cases us with
          | nil => exact h.elim
          | cons u us => exact ⟨one y u h.1, ih us h.2⟩
      subst hyv
      cases y with
      | fn f caps =>
        obtain ⟨us, h1, h2⟩ := hVR
        exact ⟨us, h1, many caps us h2⟩
      | tup vs => trivial
      | undef => trivial
      | c y => exact VR1.up (one (.c y) _ hVR)
      | agg cs => exact VR1.up (one (.agg cs) _ hVR)
      | iptr cs => exact VR1.up (one (.iptr cs) _ hVR)
      | eptr _ _ _ _ => trivial
      | aptr _ _ _ _ _ => trivial
      | ptr k off => exact VR1.up (one (.ptr k off) _ hVR)
      | own k win t => exact VR1.up (one (.own k win t) _ hVR)
      | map k => exact VR1.up (one (.map k) _ hVR)

/-! ### Code -/

def exitOf (j : Nat) : Exit := if j < goff then .exit j else .goto (j - goff)

/-- Where the interpreter's continuations answer, the machine's do. -/
structure Posts (x : Cx) (k : St → Option ρ) (ex : Nat → St → Option ρ) (rt : St → Option ρ) (r : ρ) (Q : Exit → Act → World → Prop) : Prop where
  norm : ∀ st γ a w, k st = some r → RS x γ st a w → Q .normal a w
  exit : ∀ j st γ a w, ex j st = some r → RS x γ st a w → Q (exitOf j) a w
  ret : ∀ st γ a w, rt st = some r → RS x γ st a w → Q .ret a w

/-- A handler of scopes that is right. -/
def ScOK (P : Program) (x : Cx) (sc : Scp) : Prop :=
  ∀ (ρ : Type) (c : Code) (an : Ann) (k : St → Option ρ) (ex : Nat → St → Option ρ) (rt : St → Option ρ) (r : ρ) (Q : Exit → Act → World → Prop) (st : St) (γ : Gam) (a : Act) (w : World),
    sc ρ c an k ex rt st = some r → RS x γ st a w → Posts x k ex rt r Q → (Code.scope c).wp P Q a w

theorem runG_sound (hT : TabOK P E.T) (hE : EqsOK P E.T) (hphi : EnvOK P E) (hpar : EnvPar E) (hm : P.follows .mixedOrders = true) {sc : Scp} (hsc : ScOK P x sc) : ∀ (c : Code) (an : Ann) (k : St → Option ρ) (ex : Nat → St → Option ρ) (rt : St → Option ρ)
    (Q : Exit → Act → World → Prop) (st : St) (γ : Gam) (a : Act) (w : World), runG E sc c an k ex rt st = some r → RS x γ st a w → Posts x k ex rt r Q → c.wp P Q a w := by
  intro c
  induction c with
  | skip =>
    intro an k ex rt Q st γ a w h hr hp
    rw [runG] at h
    try simp only [normC_eq] at h
    exact wp_skip (hp.norm st γ a w h hr)
  | label l =>
    intro an k ex rt Q st γ a w h hr hp
    rw [runG] at h
    try simp only [normC_eq] at h
    exact wp_label (hp.norm st γ a w h hr)
  | region id ops draw =>
    intro an k ex rt Q st γ a w h hr hp
    rw [runG] at h
    try simp only [normC_eq] at h
    exact region_sound hT hE hphi hpar hm h hr fun st' γ' a' w' hk hr' => hp.norm st' γ' a' w' hk hr'
  | seq c d ihc ihd =>
    intro an k ex rt Q st γ a w h hr hp
    rw [runG] at h
    try simp only [normC_eq] at h
    refine wp_seq (ihc _ _ _ _ _ st γ a w h hr ⟨?_, ?_, ?_⟩)
    · intro st' γ' a' w' hk hr'
      exact ihd _ _ _ _ Q st' γ' a' w' (holdK_some hk) hr' hp
    · intro j st' γ' a' w' hk hr'
      have := hp.exit j st' γ' a' w' hk hr'
      unfold exitOf at this ⊢
      split at this
      · rename_i hj
        rw [if_pos hj]
        exact this
      · rename_i hj
        rw [if_neg hj]
        exact this
    · intro st' γ' a' w' hk hr'
      exact hp.ret st' γ' a' w' hk hr'
  | cond b c d ihc ihd =>
    intro an k ex rt Q st γ a w h hr hp
    rw [runG] at h
    try simp only [normC_eq] at h
    cases hb : getB st b with
    | none => rw [hb] at h; cases h
    | some t =>
      rw [hb] at h
      simp only at h
      have he : a.eval b = .bool t := VR_bool (hr.ops' _ _ (getB_some hb))
      have hp' : Posts x (fun s => k (Vi.norm an.lv s)) ex rt r Q := by
        refine ⟨fun st' γ' a' w' hk hr' => ?_, hp.exit, hp.ret⟩
        obtain ⟨γ2, hr2⟩ := hr'.norm an.lv
        exact hp.norm _ γ2 a' w' hk hr2
      refine wp_cond he ?_
      cases t with
      | true => exact ihc _ _ _ _ Q st γ a w h hr hp'
      | false => exact ihd _ _ _ _ Q st γ a w h hr hp'
  | block id c ihc =>
    intro an k ex rt Q st γ a w h hr hp
    rw [runG] at h
    try simp only [normC_eq] at h
    obtain ⟨hid, h⟩ := cond_some h rfl
    have hid : id < goff := Nat.le_of_ble_eq_true hid
    have hnorm : ∀ st' γ' a' w', k (Vi.norm an.lv st') = some r → RS x γ' st' a' w' → Q .normal a' w' := by
      intro st' γ' a' w' hk hr'
      obtain ⟨γ2, hr2⟩ := hr'.norm an.lv
      exact hp.norm _ γ2 a' w' hk hr2
    refine wp_block (ihc _ _ _ _ _ st γ a w h hr ⟨hnorm, ?_, fun st' γ' a' w' hk hr' => hp.ret st' γ' a' w' hk hr'⟩)
    intro j st' γ' a' w' hk hr'
    cases hj : Nat.beq j id with
    | true =>
      rw [hj] at hk
      have e := Nat.eq_of_beq_eq_true hj
      subst e
      have : exitOf j = .exit j := if_pos hid
      rw [this]
      simp only [Exit.inBlock, if_true]
      exact hnorm st' γ' a' w' hk hr'
    | false =>
      rw [hj] at hk
      have := hp.exit j st' γ' a' w' hk hr'
      have hne : j ≠ id := fun e => by rw [e, Nat.beq_refl] at hj; cases hj
      unfold exitOf at this ⊢
      split at this
      · rename_i hjg
        rw [if_pos hjg]
        simp only [Exit.inBlock, if_neg hne]
        exact this
      · rename_i hjg
        rw [if_neg hjg]
        exact this
  | loop c ihc =>
    intro an k ex rt Q st γ a w h hr hp
    rw [runG] at h
    try simp only [normC_eq] at h
    intro b kk cs
    have key : ∀ (n : Nat) (st : St) (γ : Gam) (a : Act) (w : World), loopN (fun K s => runG E sc c an.fst (fun s' => K (Vi.norm an.lv s')) ex rt s) n st = some r → RS x γ st a w →
        ∃ e a' w', Q e a' w' ∧ Arrives P (lone (b.at a (.code c :: .inLoop c :: kk)) cs w) b kk cs e a' w' := by
      intro n
      induction n with
      | zero => intro st γ a w h _; cases h
      | succ n ihn =>
        intro st γ a w h hr
        simp only [loopN] at h
        have hQ := ihc an.fst _ ex rt (Exit.then (fun a' w' => ∃ st' γ', loopN (fun K s => runG E sc c an.fst (fun s' => K (Vi.norm an.lv s')) ex rt s) n st' = some r ∧ RS x γ' st' a' w') Q) st γ a w h hr ⟨?_, ?_, ?_⟩
        · obtain ⟨e, a₁, w₁, hq, harr⟩ := hQ b (.inLoop c :: kk) cs
          cases e with
          | normal =>
            obtain ⟨st', γ', h1, h2⟩ := hq
            obtain ⟨e₂, a₂, w₂, hq₂, harr₂⟩ := ihn st' γ' a₁ w₁ h1 h2
            exact ⟨e₂, a₂, w₂, hq₂, .of_steps (Steps.trans harr (.one step_inLoop)) harr₂⟩
          | exit id => exact ⟨_, a₁, w₁, hq, .pass (x := .inLoop c) rfl (fun _ _ => .inl (by simp)) harr⟩
          | goto l => exact ⟨_, a₁, w₁, hq, .pass (x := .inLoop c) rfl (fun _ _ => .inl (by simp)) harr⟩
          | ret => exact ⟨_, a₁, w₁, hq, .pass (x := .inLoop c) rfl (fun _ _ => .inl (by simp)) harr⟩
          | panic ch => exact ⟨_, a₁, w₁, hq, .pass (x := .inLoop c) rfl (fun _ _ => .inl (by simp)) harr⟩
          | outgrown => exact ⟨_, a₁, w₁, hq, .pass (x := .inLoop c) rfl (fun _ _ => .inl (by simp)) harr⟩
        · intro st' γ' a' w' hk hr'
          obtain ⟨γ2, hr2⟩ := hr'.norm an.lv
          exact ⟨_, γ2, hk, hr2⟩
        · intro j st' γ' a' w' hk hr'
          have := hp.exit j st' γ' a' w' hk hr'
          unfold exitOf at this ⊢
          split at this
          · rename_i hj
            rw [if_pos hj]
            exact this
          · rename_i hj
            rw [if_neg hj]
            exact this
        · intro st' γ' a' w' hk hr'
          exact hp.ret st' γ' a' w' hk hr'
    obtain ⟨γ2, hr2⟩ := hr.norm an.lv
    obtain ⟨e, a', w', hq, harr⟩ := key E.fuel _ γ2 a w h hr2
    exact ⟨e, a', w', hq, .of_steps (.one step_loop) harr⟩
  | exit id =>
    intro an k ex rt Q st γ a w h hr hp
    rw [runG] at h
    try simp only [normC_eq] at h
    obtain ⟨hid, h⟩ := cond_some h rfl
    have hid : id < goff := Nat.le_of_ble_eq_true hid
    have := hp.exit id st γ a w h hr
    unfold exitOf at this
    rw [if_pos hid] at this
    exact wp_exit this
  | goto l =>
    intro an k ex rt Q st γ a w h hr hp
    rw [runG] at h
    try simp only [normC_eq] at h
    have := hp.exit (goff + l) st γ a w h hr
    unfold exitOf at this
    rw [if_neg (by omega), show goff + l - goff = l by omega] at this
    exact wp_goto this
  | ret =>
    intro an k ex rt Q st γ a w h hr hp
    rw [runG] at h
    try simp only [normC_eq] at h
    exact wp_ret (hp.ret st γ a w h hr)
  | scope c ihc =>
    intro an k ex rt Q st γ a w h hr hp
    rw [runG] at h
    try simp only [normC_eq] at h
    exact hsc _ c an k ex rt r Q st γ a w h hr hp
  | _ =>
    intro an k ex rt Q st γ a w h hr hp
    simp only [runG] at h
    cases h

theorem noScope_ok : ScOK P x noScope := by
  intro ρ c an k ex rt r Q st γ a w h hr hp
  cases h

theorem run_sound (hT : TabOK P E.T) (hE : EqsOK P E.T) (hphi : EnvOK P E) (hpar : EnvPar E) (hm : P.follows .mixedOrders = true) {c : Code} {an : Ann} {ex : Nat → St → Option ρ} {rt : St → Option ρ}
    (h : run E c an k ex rt st = some r) (hr : RS x γ st a w) (hp : Posts x k ex rt r Q) : c.wp P Q a w :=
  runG_sound hT hE hphi hpar hm noScope_ok c an k ex rt Q st γ a w h hr hp

end
end Go.Vi
/-
  Vi: functions: scopes; parameters and results; a function's contract out of its run.
-/
set_option linter.unusedVariables false
set_option linter.unusedSimpArgs false
namespace Go.Vi
open Op

section
variable {P : Program} {E : Env} {x : Cx} {γ γ' : Gam} {w w0 : World} {a : Act} {st st' : St} {A A0 A1 : Nat → Prop}
variable {Q : Exit → Act → World → Prop} {H H' : Heap} {ρ : Type} {k : St → Option ρ} {r : ρ}

/-! ### Scopes -/

theorem jumpTo_some {K : Nat × St → Option ρ} {ex : Nat → St → Option ρ} {j : Nat} {s : St} : ∀ (ls : List (Nat × List Nat × Ann)), jumpTo ls K ex j s = some r →
    (∃ l lv, j = goff + l ∧ K (l, norm lv s) = some r) ∨ (j < goff ∧ ex j s = some r)
  | [], h => by
    simp only [jumpTo] at h
    obtain ⟨h1, h2⟩ := cond_some h rfl
    exact .inr ⟨Nat.le_of_ble_eq_true h1, h2⟩
  | (l, lv, an) :: ls, h => by
    simp only [jumpTo, normC_eq] at h
    cases hb : Nat.beq j (goff + l) with
    | true =>
      rw [hb] at h
      exact .inl ⟨l, lv, Nat.eq_of_beq_eq_true hb, h⟩
    | false =>
      rw [hb] at h
      exact jumpTo_some ls h

theorem scope1_ok (hT : TabOK P E.T) (hE : EqsOK P E.T) (hphi : EnvOK P E) (hpar : EnvPar E) (hm : P.follows .mixedOrders = true) : ScOK P x (scope1 E) := by
  intro ρ c an k ex rt r Q st γ a w h hr hp
  unfold scope1 at h
  generalize an.snd.labels = ls at h
  let Q2 : Nat → Exit → Act → World → Prop := fun n e a w =>
    match e with
    | .goto l => ∃ st γ, loopN (passF E c ls k ex rt) n (l, st) = some r ∧ RS x γ st a w
    | e => Q e a w
  have posts : ∀ n, Posts x k (jumpTo ls (loopN (passF E c ls k ex rt) n) ex) rt r (Q2 n) := by
    intro n
    refine ⟨fun st' γ' a' w' hk hr' => hp.norm st' γ' a' w' hk hr', ?_, fun st' γ' a' w' hk hr' => hp.ret st' γ' a' w' hk hr'⟩
    intro j st' γ' a' w' hk hr'
    rcases jumpTo_some ls hk with ⟨l, lv, rfl, hk2⟩ | ⟨hj, hk2⟩
    · have : exitOf (goff + l) = .goto l := by
        unfold exitOf
        rw [if_neg (by omega), show goff + l - goff = l by omega]
      rw [this]
      obtain ⟨γ2, hr2⟩ := hr'.norm lv
      exact ⟨_, γ2, hk2, hr2⟩
    · have h1 := hp.exit j st' γ' a' w' hk2 hr'
      have : exitOf j = .exit j := if_pos hj
      rw [this] at h1 ⊢
      exact h1
  intro b kk cs
  have key : ∀ (n l : Nat) (st : St) (γ : Gam) (a : Act) (w : World) (rest : Code), loopN (passF E c ls k ex rt) n (l, st) = some r → RS x γ st a w → findLabel c l = some rest →
      ∃ e a' w', Q e a' w' ∧ Arrives P (lone (b.at a (.code rest :: .inScope c :: kk)) cs w) b kk cs e a' w' := by
    intro n
    induction n with
    | zero => intro l st γ a w rest h _ _; cases h
    | succ n ih =>
      intro l st γ a w rest h hr hf
      simp only [loopN, passF, hf] at h
      split at h
      · rename_i q rest' hfl hl
        cases hfl
        obtain ⟨e, a₁, w₁, hq, harr⟩ := run_sound hT hE hphi hpar hm h hr (posts n) b (.inScope c :: kk) cs
        cases e with
        | normal => exact ⟨.normal, a₁, w₁, hq, Steps.trans harr (.one step_inScope)⟩
        | exit id => exact ⟨.exit id, a₁, w₁, hq, fun k' hk => harr k' (by simp [exitTo, hk])⟩
        | goto l' =>
          obtain ⟨st', γ', h1, h2⟩ := hq
          have hfl : ∃ rest', findLabel c l' = some rest' := by
            cases n with
            | zero => cases h1
            | succ n =>
              simp only [loopN, passF] at h1
              split at h1
              · rename_i q' rest' hh _
                exact ⟨_, hh⟩
              · cases h1
          obtain ⟨rest', hf'⟩ := hfl
          obtain ⟨e₂, a₂, w₂, hq₂, harr₂⟩ := ih l' st' γ' a₁ w₁ rest' h1 h2 hf'
          have hg : gotoIn l' (.inScope c :: kk) = some (.code rest' :: .inScope c :: kk) := by simp [gotoIn, hf']
          exact ⟨e₂, a₂, w₂, hq₂, .of_steps (harr _ hg) harr₂⟩
        | ret => exact ⟨_, a₁, w₁, hq, harr⟩
        | panic ch => exact ⟨_, a₁, w₁, hq, harr⟩
        | outgrown => exact ⟨_, a₁, w₁, hq, harr⟩
      · cases h
  obtain ⟨e, a₁, w₁, hq, harr⟩ := run_sound hT hE hphi hpar hm h hr (posts E.fuel) b (.inScope c :: kk) cs
  cases e with
  | normal => exact ⟨.normal, a₁, w₁, hq, .head step_scope (Steps.trans harr (.one step_inScope))⟩
  | exit id => exact ⟨.exit id, a₁, w₁, hq, fun k' hk => .head step_scope (harr k' (by simp [exitTo, hk]))⟩
  | goto l' =>
    obtain ⟨st', γ', h1, h2⟩ := hq
    have hfl : ∃ rest', findLabel c l' = some rest' := by
      cases hn : E.fuel with
      | zero => rw [hn] at h1; cases h1
      | succ n =>
        rw [hn] at h1
        simp only [loopN, passF] at h1
        split at h1
        · rename_i q' rest' hh _
          exact ⟨_, hh⟩
        · cases h1
    obtain ⟨rest', hf'⟩ := hfl
    obtain ⟨e₂, a₂, w₂, hq₂, harr₂⟩ := key E.fuel l' st' γ' a₁ w₁ rest' h1 h2 hf'
    have hg : gotoIn l' (.inScope c :: kk) = some (.code rest' :: .inScope c :: kk) := by simp [gotoIn, hf']
    exact ⟨e₂, a₂, w₂, hq₂, .of_steps (.head step_scope (harr _ hg)) harr₂⟩
  | ret => exact ⟨_, a₁, w₁, hq, .of_steps (.one step_scope) harr⟩
  | panic ch => exact ⟨_, a₁, w₁, hq, .of_steps (.one step_scope) harr⟩
  | outgrown => exact ⟨_, a₁, w₁, hq, .of_steps (.one step_scope) harr⟩

theorem run1_sound (hT : TabOK P E.T) (hE : EqsOK P E.T) (hphi : EnvOK P E) (hpar : EnvPar E) (hm : P.follows .mixedOrders = true) {c : Code} {an : Ann} {ex : Nat → St → Option ρ} {rt : St → Option ρ}
    (h : run1 E c an k ex rt st = some r) (hr : RS x γ st a w) (hp : Posts x k ex rt r Q) : c.wp P Q a w :=
  runG_sound hT hE hphi hpar hm (scope1_ok hT hE hphi hpar hm) c an k ex rt Q st γ a w h hr hp

/-! ### Results -/

theorem nagg_one {s : Sh} (h : s.agg = false) : s.nc = 1 := by cases s <;> first | rfl | cases h

theorem mk1_R {s : Sh} {y : s.den} {u : Value} {vs : List Value} (h : VRs w A s y vs) (hA : ∀ b, A b → A1 b) (hu : u = if s.agg = true then .agg vs.toArray else vs.headD undef) : RetR1 w0 w A1 (mk1 s y) .emp u := by
  have hc := CR.of_VRs s y vs h
  have hA' : ∀ b, A b → A1 b ∧ w.heap[b]? = w.heap[b]? := fun b hb => ⟨hA b hb, rfl⟩
  unfold mk1
  cases hs : s.agg with
  | true =>
    rw [hs] at hu
    simp only [cond_true]
    exact ⟨vs, by simpa using hu, hc.mono (CR.mono hA')⟩
  | false =>
    rw [hs] at hu
    simp only [cond_false]
    have hl := cells_length s y
    rw [nagg_one hs] at hl
    match hcs : cells s y, hl with
    | [c], _ =>
      rw [hcs] at hc
      obtain ⟨v, rfl, hv⟩ := hc.one
      simp at hu
      subst hu
      exact CR.mono hA' c _ hv

theorem valOf_VRs {s : Sh} {v : V} {y : s.den} {u : Value} (h : valOf s v = some y) (hv : VR γ w A H v u) : ∃ vs, VRs w A s y vs ∧ u = if s.agg = true then .agg vs.toArray else vs.headD undef := by
  unfold valOf at h
  split at h
  · rename_i c
    obtain ⟨hs, h⟩ := cond_none h rfl
    refine ⟨[u], VRs.of_ofC s _ y [u] h ⟨hv, trivial⟩, ?_⟩
    rw [hs]
    rfl
  · rename_i cs
    obtain ⟨hs, h⟩ := cond_some h rfl
    obtain ⟨vs, rfl, hc⟩ := hv
    refine ⟨vs, VRs.of_ofC s _ y vs h hc, ?_⟩
    rw [hs]
    rfl
  · cases h

def resF (tmps : Array Value) : ResultVar → Sem Value
  | .tmp t => pure (tmps.getD t undef)
  | .cell a t => do loadVar t (← asAddr (tmps.getD a undef))

theorem results_run {fn : Func} {us : List Value} (h : (fn.results.toList.mapM (resF a.tmps)).run P w = .ok us w) : (results fn a.tmps).run P w = .ok (retVal us) w := by
  have e : (fn.results.mapM (resF a.tmps)).run P w = .ok us.toArray w := by
    rw [Array.mapM_eq_mapM_toList, Sem.run_map, h]
    rfl
  have e2 : results fn a.tmps = fn.results.mapM (resF a.tmps) >>= fun vs => pure (if h : vs.size = 1 then vs[0] else .tuple vs) := by
    unfold results
    congr 1
  rw [e2, Sem.run_bind, e]
  simp only [Result.andThen_ok, Sem.run_pure]
  congr 1
  match us with
  | [] => rfl
  | [u] => rfl
  | u :: u' :: us =>
    unfold retVal
    rw [dif_neg (by simp)]

/-- What a result stands for in the call's own. -/
def RK.info (γ : Gam) (st : St) : RK → Info
  | .own _ t =>
    match (st.tm[t]? : Option V) with
    | some (.own k _ _) => (γ k).getD .emp
    | _ => .emp
  | _ => .emp

theorem castL_some {e' e : Sh} {xs : List e'.den} {ys : List e.den} (h : castL e' e xs = some ys) : ∃ he : e' = e, ys = he ▸ xs := by
  unfold castL at h
  split at h
  · rename_i he
    cases h
    exact ⟨he, rfl⟩
  · cases h

theorem OwnSl.weak {i : Info} {n len : Nat} {nilE t : Bool} {v : Value} (h : OwnSl i n len nilE none t v) : OwnSl i n len false none false v := by
  cases i with
  | emp =>
    obtain ⟨a, h1, h2, h3, h4⟩ := h
    exact ⟨a, h1, by simp, h3, h4⟩
  | «at» b c =>
    obtain ⟨h1, h2, h3⟩ := h
    exact ⟨h1, h2, by simp⟩

theorem objR.weak {e : Sh} {xs : List e.den} {nilE : Bool} {i : Info} (h : objR w A (.arr e xs nilE) i) : objR w A (.arr e xs false) i := by
  cases i with
  | emp => exact h
  | «at» b c => exact ⟨by simp, h.2⟩

/-- One result. -/
theorem RK_get (hT : TabOK P E.T) (hr : RS x γ st a w) {rv : ResultVar} {rk : RK} (hok : rksOK E.T [rv] [rk] = true) {y : rk.den} (hg : rk.get st = some y) (hA : ∀ b, Av x γ w b → A1 b)
    (hO : ∀ k ∈ rk.ownK st, ∀ b c, γ k = some (.at b c) → w0.heap.size ≤ b) (hS : ∀ k ∈ rk.slK st, ∀ b c, γ k = some (.at b c) → A1 b) : ∃ u, (resF a.tmps rv).run P w = .ok u w ∧ RetR1 w0 w A1 (rk.ret y) (rk.info γ st) u := by
  have hA' : ∀ b, Av x γ w b → A1 b ∧ w.heap[b]? = w.heap[b]? := fun b hb => ⟨hA b hb, rfl⟩
  cases rk with
  | own e t =>
    cases rv with
    | cell _ _ => cases hok
    | tmp t' =>
      simp only [rksOK, Bool.and_true] at hok
      have := Nat.eq_of_beq_eq_true hok
      subst this
      refine ⟨_, rfl, ?_⟩
      simp only [RK.get, rOwn] at hg
      split at hg
      · rename_i k b hv
        obtain ⟨i, e', xs, nilE, h1, h2, h3⟩ := hr.tm _ _ hv
        simp only [elemsAs, elems, h2, view] at hg
        obtain ⟨rfl, rfl⟩ := castL_some hg
        obtain ⟨ob, h4, h5⟩ := hr.inv.own k i h1
        rw [h2] at h4
        cases h4
        simp only [RK.info, hv, h1, Option.getD_some]
        refine ⟨(objR.mono hA' _ i (fun _ _ _ => rfl) h5).weak, h3.weak, fun b c hi => ?_⟩
        have h6 := hr.inv.rng k b c (hi ▸ h1)
        exact ⟨hO k (by simp [RK.ownK, hv]) b c (hi ▸ h1), h6.2⟩
      · cases hg
  | sl e t =>
    cases rv with
    | cell _ _ => cases hok
    | tmp t' =>
      simp only [rksOK, Bool.and_true] at hok
      have := Nat.eq_of_beq_eq_true hok
      subst this
      refine ⟨_, rfl, ?_⟩
      simp only [RK.get, rSl] at hg
      split at hg
      · rename_i v hv
        have hVR := hr.tm _ _ hv
        have key : ∀ (keys : List Nat), (∀ k ∈ v.ownKey, k ∈ keys) → (∀ k ∈ keys, ∀ b c, γ k = some (.at b c) → A1 b) → ∀ tt, gnd st.hp v = some (.c (.sl e y tt)) → RetR1 w0 w A1 (.val (.sl e y false)) .emp (a.tmps.getD t' undef) := by
          intro keys hk hkA tt hgn
          have := gnd_VR hr.inv hgn hVR hk
          obtain ⟨ad, cap, c1, c2, c3, c4⟩ : CR w (A0k x γ w keys) (.sl e y tt) (a.tmps.getD t' undef) := this
          have hA2 : ∀ b, A0k x γ w keys b → A1 b ∧ w.heap[b]? = w.heap[b]? := by
            rintro b (hb | ⟨k, hk, c, hc⟩)
            · exact hA' b hb
            · exact ⟨hkA k hk b c hc, rfl⟩
          exact ⟨ad, cap, c1, c2, by simp, c4.mono hA2 fun x us hx => VRs.mono hA2 e x us hx⟩
        simp only [elemsAs] at hg
        split at hg
        · rename_i e' xs he
          obtain ⟨rfl, rfl⟩ := castL_some hg
          cases v with
          | own k win tt =>
            simp only [elems] at he
            split at he
            · rename_i e2 xs2 n2 hH
              cases he
              refine key [k] (by simp [V.ownKey]) ?_ tt (by simp only [gnd, gnd1, hH])
              intro k' hk' b c hc
              rw [List.mem_singleton.1 hk'] at hc
              exact hS k (by simp [RK.slK, hv]) b c hc
            · cases he
          | c y' =>
            cases y' with
            | sl e2 xs2 tt =>
              cases he
              exact key [] (by simp [V.ownKey]) (by simp) tt rfl
            | _ => simp [elems] at he
          | _ => simp [elems] at he
        · cases hg
      · cases hg
  | c s t =>
    cases rv with
    | cell _ _ => cases hok
    | tmp t' =>
      simp only [rksOK, Bool.and_true] at hok
      have := Nat.eq_of_beq_eq_true hok
      subst this
      refine ⟨_, rfl, ?_⟩
      simp only [RK.get] at hg
      split at hg
      · rename_i v hv
        obtain ⟨vs, h1, h2⟩ := valOf_VRs hg (hr.tm _ _ hv)
        exact mk1_R h1 hA h2
      · cases hg
  | box s t =>
    cases rv with
    | tmp _ => cases hok
    | cell t' ty =>
      simp only [rksOK, Bool.and_true, Bool.and_eq_true] at hok
      have := Nat.eq_of_beq_eq_true hok.1
      subst this
      have hty := of_decide_eq_true hok.2
      simp only [RK.get, rBox] at hg
      split at hg
      · rename_i k off hv
        obtain ⟨b, c, h1, h2⟩ := hr.tm _ _ hv
        split at hg
        · rename_i cs hH
          obtain ⟨ob, h3, h4⟩ := hr.inv.own k _ h1
          rw [hH] at h3
          cases h3
          obtain ⟨cur, et, h5, h6⟩ := h4
          obtain ⟨hd, hg⟩ := cond_some hg rfl
          have hd := of_decide_eq_true hd
          have hV := VRs.of_ofC s _ y _ hg ((h6.drop off).take s.nc)
          have hl2 := h6.length
          simp only [Array.length_toList] at hl2
          refine ⟨if s.agg = true then .agg ((cur.toList.drop off).take s.nc).toArray else ((cur.toList.drop off).take s.nc).headD undef, ?_, mk1_R hV hA rfl⟩
          have hsh := hT.sh ty s hty
          have hnc : s.agg = false → s.nc = 1 := nagg_one
          have hle : off + s.nc ≤ cur.size := by omega
          have hrun := run_load_shape (P := P) (w := w) hsh.base h5 hle hnc
          simp only [Instr.loadAt, Instr.sureAddr, Sem.run_bind, Sem.run_pure, Result.andThen_ok] at hrun
          simp only [resF, h2, asAddr, Sem.run_bind, Sem.run_pure, Result.andThen_ok]
          rw [hrun]
          congr 1
          split
          · rfl
          · rename_i hag
            have h1 := hnc (by simpa using hag)
            rw [h1]
            have hlt : off < cur.size := by omega
            simp [List.getD, List.take_one, List.head?_drop, hlt]
        · cases hg
      · cases hg


theorem info_at {rk : RK} {b c : Nat} (h : rk.info γ st = .at b c) : ∃ k ∈ rk.ownK st, γ k = some (.at b c) := by
  cases rk with
  | own e t =>
    simp only [RK.info] at h
    split at h
    · rename_i k _ _ hv
      cases hg : γ k with
      | none => rw [hg] at h; cases h
      | some i =>
        rw [hg] at h
        simp only [Option.getD_some] at h
        exact ⟨k, by simp [RK.ownK, hv], by rw [hg, h]⟩
    · cases h
  | _ => cases h

theorem rksOK_cons {T : Tab} {rv : ResultVar} {rk : RK} {rvs : List ResultVar} {rks : List RK} (h : rksOK T (rv :: rvs) (rk :: rks) = true) : rksOK T [rv] [rk] = true ∧ rksOK T rvs rks = true := by
  cases rv <;> cases rk <;> simp only [rksOK, Bool.and_eq_true, Bool.and_true] at h ⊢ <;> first | exact h | cases h

/-- All results. -/
theorem RKs_get (hT : TabOK P E.T) (hr : RS x γ st a w) (hA : ∀ b, Av x γ w b → A1 b) : ∀ (rks : List RK) (rvs : List ResultVar) (y : rksDen rks), rksOK E.T rvs rks = true → rtL st rks = some y →
    (rks.flatMap (RK.ownK st)).Nodup → (∀ k ∈ rks.flatMap (RK.ownK st), ∀ b c, γ k = some (.at b c) → w0.heap.size ≤ b) → (∀ k ∈ rks.flatMap (RK.slK st), ∀ b c, γ k = some (.at b c) → A1 b) →
    ∃ us, (rvs.mapM (resF a.tmps)).run P w = .ok us w ∧ RetRs w0 w A1 (rets rks y) (rks.map (RK.info γ st)) us := by
  intro rks
  induction rks with
  | nil =>
    intro rvs y hok h hnd hO hS
    cases rvs with
    | nil => exact ⟨[], rfl, trivial⟩
    | cons rv rvs => cases rv <;> cases hok
  | cons rk rks ih =>
    intro rvs y hok h hnd hO hS
    cases rvs with
    | nil => cases rk <;> cases hok
    | cons rv rvs =>
      obtain ⟨hok1, hok2⟩ := rksOK_cons hok
      rw [List.flatMap_cons, List.nodup_append] at hnd
      have hO1 : ∀ k ∈ rk.ownK st, ∀ b c, γ k = some (.at b c) → w0.heap.size ≤ b := fun k hk => hO k (by rw [List.flatMap_cons]; exact List.mem_append.2 (.inl hk))
      have hO2 : ∀ k ∈ rks.flatMap (RK.ownK st), ∀ b c, γ k = some (.at b c) → w0.heap.size ≤ b := fun k hk => hO k (by rw [List.flatMap_cons]; exact List.mem_append.2 (.inr hk))
      have hS1 : ∀ k ∈ rk.slK st, ∀ b c, γ k = some (.at b c) → A1 b := fun k hk => hS k (by rw [List.flatMap_cons]; exact List.mem_append.2 (.inl hk))
      have hS2 : ∀ k ∈ rks.flatMap (RK.slK st), ∀ b c, γ k = some (.at b c) → A1 b := fun k hk => hS k (by rw [List.flatMap_cons]; exact List.mem_append.2 (.inr hk))
      have dis : ∀ b c, rk.info γ st = .at b c → ∀ j ∈ rks.map (RK.info γ st), ∀ c', j ≠ .at b c' := by
        intro b c hi j hj c' he
        obtain ⟨k, hk, hg⟩ := info_at hi
        obtain ⟨rk', hm, rfl⟩ := List.mem_map.1 hj
        obtain ⟨k', hk', hg'⟩ := info_at he
        have := hr.inv.inj k k' b c c' hg hg'
        subst this
        exact hnd.2.2 k hk k (List.mem_flatMap.2 ⟨rk', hm, hk'⟩) rfl
      cases rks with
      | nil =>
        obtain ⟨u, h1, h2⟩ := RK_get hT hr hok1 (y := y) h hA hO1 hS1
        cases rvs with
        | nil =>
          refine ⟨[u], ?_, h2, dis, trivial⟩
          simp only [List.mapM_cons, List.mapM_nil, Sem.run_bind, h1, Result.andThen_ok, Sem.run_pure]
        | cons rv' rvs => cases rv' <;> cases hok2
      | cons rk' rks =>
        obtain ⟨y1, h1, h⟩ := Option.bind_eq_some_iff.1 h
        obtain ⟨y2, h2, h⟩ := Option.bind_eq_some_iff.1 h
        cases h
        obtain ⟨u, h3, h4⟩ := RK_get hT hr hok1 h1 hA hO1 hS1
        obtain ⟨us, h5, h6⟩ := ih rvs y2 hok2 h2 hnd.2.1 hO2 hS2
        refine ⟨u :: us, ?_, h4, dis, h6⟩
        simp only [List.mapM_cons, Sem.run_bind, h3, Result.andThen_ok, h5, Sem.run_pure]

theorem rtG_RetR (hT : TabOK P E.T) (hr : RS x γ st a w) (hB : x.B = w0.heap.size) (hM : ∀ b, ¬ x.M b) {fn : Func} {rks : List RK} {y : rksDen rks} (hok : rksOK E.T fn.results.toList rks = true) (h : rtG rks st = some y) :
    ∃ u, (results fn a.tmps).run P w = .ok u w ∧ RetR w0 w x.A0 (rets rks y) u := by
  unfold rtG at h
  obtain ⟨hk, h⟩ := cond_some h rfl
  simp only [rkOK, Bool.and_eq_true] at hk
  have hnd := nodupB_spec hk.1
  let A1 : Nat → Prop := newA w0 w x.A0 (rks.map (RK.info γ st))
  have hA : ∀ b, Av x γ w b → A1 b := by
    intro b hb
    refine ⟨hb.1, fun hlt => hb.2.1 (by omega), fun i hi c he => ?_⟩
    obtain ⟨rk, _, rfl⟩ := List.mem_map.1 hi
    obtain ⟨k, _, hg⟩ := info_at he
    exact hb.2.2 k c hg
  have hS : ∀ k ∈ rks.flatMap (RK.slK st), ∀ b c, γ k = some (.at b c) → A1 b := by
    intro k hkm b c hg
    have h1 := hr.inv.rng k b c hg
    have h2 := h1.1.resolve_right (hM b)
    refine ⟨h1.2, fun hlt => by omega, fun i hi c' he => ?_⟩
    obtain ⟨rk, hm, rfl⟩ := List.mem_map.1 hi
    obtain ⟨k', hk', hg'⟩ := info_at he
    have := hr.inv.inj k k' b c c' hg hg'
    subst this
    have h3 := List.all_eq_true.1 hk.2 k hkm
    rw [mem_memN.2 (List.mem_flatMap.2 ⟨rk, hm, hk'⟩)] at h3
    cases h3
  obtain ⟨us, h1, h2⟩ := RKs_get hT hr hA rks fn.results.toList y hok h hnd (fun k _ b c hg => by rw [← hB]; exact (hr.inv.rng k b c hg).1.resolve_right (hM b)) hS
  exact ⟨retVal us, results_run h1, rks.map (RK.info γ st), us, rfl, h2⟩

/-! ### Parameters -/

theorem aPtr_VR1 {s : Sh} {v : V} {y : s.den} {u : Value} (h : aPtr s v = some y) (hv : VR1 γ w A H v u) : VR1 γ w A H (.iptr (cells s y)) u := by
  unfold aPtr at h
  split at h
  · rename_i cs
    obtain ⟨b, o, cur, et, fz, h1, h2, h3, h4, h5⟩ := hv
    have hV := VRs.of_ofC s _ y _ h (h5.take s.nc)
    have hl := hV.length
    simp only [List.length_take, List.length_drop, Array.length_toList] at hl
    have hC := CR.of_VRs s y _ hV
    refine ⟨b, o, cur, et, fz, h1, h2, h3, by rw [cells_length]; omega, ?_⟩
    rw [cells_length]
    rw [List.take_take, Nat.min_eq_left (by omega)] at hC
    exact hC
  · cases h

theorem capsArg_VR1 : ∀ (l : List Sh) (vs : List V) (us : List Value) (y : capsDen l), capsArg l vs = some y → All2 (VR1 γ w A H) vs us → All2 (VR1 γ w A H) (capsV l y) us
  | [], [], us, y, h, hv => hv
  | s :: l, v :: vs, [], y, h, hv => hv.elim
  | s :: l, v :: vs, u :: us, y, h, hv => by
    simp only [capsArg] at h
    obtain ⟨y1, h1, h⟩ := Option.bind_eq_some_iff.1 h
    obtain ⟨y2, h2, h⟩ := Option.bind_eq_some_iff.1 h
    cases h
    exact ⟨aPtr_VR1 h1 hv.1, capsArg_VR1 l vs us y2 h2 hv.2⟩
  | [], _ :: _, _, _, h, _ => by cases h
  | _ :: _, [], _, _, h, _ => by cases h

theorem PK.arg_val {pk : PK} {v : V} {y : pk.den} {u : Value} (h : pk.arg v = some y) (hv : VR γ w A H v u) : VR γ w A H (pk.val y) u := by
  cases pk with
  | c s =>
    obtain ⟨vs, h1, h2⟩ := valOf_VRs h hv
    have hc := CR.of_VRs s y vs h1
    simp only [PK.val]
    cases hs : s.agg with
    | true =>
      rw [hs] at h2
      exact ⟨vs, by simpa using h2, hc⟩
    | false =>
      rw [hs] at h2
      simp only [cond_false]
      have hl := cells_length s y
      rw [nagg_one hs] at hl
      match hcs : cells s y, hl with
      | [z], _ =>
        rw [hcs] at hc
        obtain ⟨v', rfl, hv'⟩ := hc.one
        simp at h2
        subst h2
        exact hv'
  | p s =>
    have : VR1 γ w A H v u := by
      simp only [PK.arg, aPtr] at h
      split at h
      · exact hv
      · cases h
    exact aPtr_VR1 h this
  | f g caps =>
    simp only [PK.arg] at h
    split at h
    · rename_i g' vs
      obtain ⟨hg, h⟩ := cond_some h rfl
      have := Nat.eq_of_beq_eq_true hg
      subst this
      obtain ⟨us, h1, h2⟩ := hv
      exact ⟨us, h1, capsArg_VR1 caps vs us y h h2⟩
    · cases h

theorem pksV_len : ∀ (l : List PK) (xs : pksDen l), (pksV l xs).length = l.length
  | [], _ => rfl
  | _ :: l, xs => by simp [pksV, pksV_len l]

theorem pksArg_VR : ∀ (l : List PK) (vs : List V) (us : List Value) (xs : pksDen l), pksArg l vs = some xs → All2 (VR γ w A H) vs us → All2 (VR γ w A H) (pksV l xs) us
  | [], [], us, xs, h, hv => hv
  | s :: l, v :: vs, [], y, h, hv => hv.elim
  | s :: l, v :: vs, u :: us, y, h, hv => by
    simp only [pksArg] at h
    obtain ⟨y1, h1, h⟩ := Option.bind_eq_some_iff.1 h
    obtain ⟨y2, h2, h⟩ := Option.bind_eq_some_iff.1 h
    cases h
    exact ⟨PK.arg_val h1 hv.1, pksArg_VR l vs us y2 h2 hv.2⟩
  | [], _ :: _, _, _, h, _ => by cases h
  | _ :: _, [], _, _, h, _ => by cases h

/-! ### A function's contract -/

/-- The state in which a call begins. -/
theorem RS.start {pks : List PK} {xs : pksDen pks} {vs : List V} {args : List Value} {n : Nat} (hx : x.w0 = w) (hxB : x.B = w.heap.size) (hpin : ∀ k, x.pin k = none) (hA0 : ∀ b, x.A0 b → b < w.heap.size) (hv : pksArg pks vs = some xs)
    (hargs : All2 (VR noGam w x.A0 emp) vs args) : RS x noGam (st0 pks xs n) { tmps := args.toArray ++ Array.replicate (n - args.toArray.size) undef, defers := [] } w := by
  have h1 := pksArg_VR pks vs args xs hv hargs
  have hlen := h1.length
  rw [pksV_len] at hlen
  have hav : ∀ b, x.A0 b → Av x noGam w b ∧ w.heap[b]? = w.heap[b]? := fun b hb => ⟨⟨hA0 b hb, fun _ => hb, fun k c h => by cases h⟩, rfl⟩
  refine ⟨⟨by omega, by rw [hx], by rw [hx], by rw [hx], fun b _ _ => by rw [hx], fun k i h => (by cases h), fun k b c h => (by cases h), fun k k' b c c' h => (by cases h), fun k i h => by rw [hpin k] at h; cases h⟩, ?_, ?_, rfl⟩
  · simp only [st0, List.length_append, pksV_len, List.length_replicate, Array.size_append, List.size_toArray, Array.size_replicate]
    omega
  · intro t v hv'
    simp only [st0, List.getElem?_append] at hv'
    split at hv'
    · rename_i hlt
      obtain ⟨u, hu, hvr⟩ := h1.get hv'
      have : (args.toArray ++ Array.replicate (n - args.toArray.size) undef).getD t undef = u := by
        have hta : t < args.length := (List.getElem?_eq_some_iff.1 hu).1
        rw [Array.getD_eq_getD_getElem?, Array.getElem?_append_left (by simpa using hta)]
        simp [hu]
      rw [this]
      exact VR.mono hav v u hvr
    · rw [List.getElem?_replicate] at hv'
      split at hv'
      · cases hv'
        trivial
      · cases hv'

theorem FC.of_runG (hT : TabOK P E.T) (hE : EqsOK P E.T) (hphi : EnvOK P E) (hpar : EnvPar E) (hm : P.follows .mixedOrders = true) {sc : Scp} (hsc : ∀ x, ScOK P x sc) {g : FuncId} {fn : Func} {c : Code} {an : Ann} {pks : List PK} {rks : List RK} {xs : pksDen pks} {vs : List V}
    {r : rksDen rks} (hf : P.funcs[g]? = some fn) (hb : fn.body = some c) (hrk : rksOK E.T fn.results.toList rks = true) (hv : pksArg pks vs = some xs) (h : runG E sc c an (rtG rks) (fun _ _ => none) (rtG rks) (st0 pks xs fn.ntmps) = some r) : FC P g vs (rets rks r) := by
  intro w A0 args hA0 hargs
  let x : Cx := { B := w.heap.size, M := fun _ => False, A0 := A0, w0 := w, ma := fun _ h => h.elim }
  have hr := RS.start (x := x) (n := fn.ntmps) rfl rfl (fun _ => rfl) hA0 hv hargs
  have fin : ∀ st γ a w', rtG rks st = some r → RS x γ st a w' → a.defers = [] ∧ ∃ v, (results fn a.tmps).run P w' = .ok v w' ∧ (Grows w w' ∧ RetR w w' A0 (rets rks r) v) := by
    intro st γ a w' hrt hr'
    obtain ⟨u, h1, h2⟩ := rtG_RetR (w0 := w) hT hr' rfl (fun _ h => h) hrk hrt
    exact ⟨hr'.nod, u, h1, ⟨hr'.inv.size, hr'.inv.os, hr'.inv.tape, hr'.inv.output, fun b hb => hr'.inv.blk b hb (fun h => h)⟩, h2⟩
  refine calls_of_wp hf hb (runG_sound hT hE hphi hpar hm (hsc x) c an _ _ _ _ _ _ _ _ h hr ⟨?_, ?_, ?_⟩)
  · intro st γ a w' hrt hr'
    exact fin st γ a w' hrt hr'
  · intro j st γ a w' hrt hr'
    cases hrt
  · intro st γ a w' hrt hr'
    exact fin st γ a w' hrt hr'

/-- A callee's place in what is called. -/
def FCs (P : Program) (g : FuncId) (F : List V → (ρ : Type) → (Ret → Option ρ) → Option ρ) : Prop :=
  ∀ vs ρ (K : Ret → Option ρ) r, F vs ρ K = some r → ∃ ret, K ret = some r ∧ FC P g vs ret

def Par1 (F : List V → (ρ : Type) → (Ret → Option ρ) → Option ρ) : Prop :=
  ∀ vs (ρ : Type) (K : Ret → Option ρ) r, F vs ρ K = some r → ∃ ret, K ret = some r ∧ ∀ (ρ' : Type) (K' : Ret → Option ρ'), F vs ρ' K' = K' ret

def CallOK (P : Program) (g : FuncId) : Prop := ∀ args w, (callFunc g args).run P w = .ok (.enter g args) w

theorem callOK_of {g : FuncId} {fn : Func} (hf : P.funcs[g]? = some fn) (hn : (fn.name == "runtime.NumGoroutine") = false) (hb : fn.body.isNone = false) : CallOK P g := by
  intro args w
  unfold callFunc
  simp only [Sem.run_bind]
  have : (program : Sem Program).run P w = .ok P w := rfl
  rw [this]
  simp only [Result.andThen_ok, hf, hn, hb, Bool.false_eq_true, if_false, Sem.run_pure]

theorem phiOf_FCs {g : FuncId} {pks : List PK} {rks : List RK} {S : pksDen pks → Option (rksDen rks)} (h : ∀ xs r, S xs = some r → ∀ vs, pksArg pks vs = some xs → FC P g vs (rets rks r)) : FCs P g (phiOf pks rks S) := by
  intro vs ρ K r hk
  unfold phiOf at hk
  obtain ⟨xs, h1, hk⟩ := Option.bind_eq_some_iff.1 hk
  obtain ⟨y, h2, hk⟩ := Option.bind_eq_some_iff.1 hk
  exact ⟨_, hk, h xs y h2 vs h1⟩

theorem phiOf_Par1 {pks : List PK} {rks : List RK} {S : pksDen pks → Option (rksDen rks)} : Par1 (phiOf pks rks S) := by
  intro vs ρ K r hk
  unfold phiOf at hk
  obtain ⟨xs, h1, hk⟩ := Option.bind_eq_some_iff.1 hk
  obtain ⟨y, h2, hk⟩ := Option.bind_eq_some_iff.1 hk
  refine ⟨_, hk, fun ρ' K' => ?_⟩
  simp only [phiOf, h1, Option.bind_some, h2]

def noPhi : Phi := fun _ _ _ _ => none
theorem noPhi_ok : PhiOK P noPhi := by intro g vs ρ K r h; cases h
theorem noPhi_par : PhiPar noPhi := by intro g vs ρ K r h; cases h

/-- One callee more. -/
def consPhi (g : FuncId) (q : List V → Bool) (F : List V → (ρ : Type) → (Ret → Option ρ) → Option ρ) (phi : Phi) : Phi := fun g' vs ρ K => bif Nat.beq g' g && q vs then F vs ρ K else phi g' vs ρ K

theorem consPhi_ok {g : FuncId} {q : List V → Bool} {F : List V → (ρ : Type) → (Ret → Option ρ) → Option ρ} {phi : Phi} (hF : FCs P g F) (hc : CallOK P g) (h : PhiOK P phi) : PhiOK P (consPhi g q F phi) := by
  intro g' vs ρ K r hk
  unfold consPhi at hk
  cases hb : Nat.beq g' g && q vs with
  | true =>
    rw [hb] at hk
    rw [Bool.and_eq_true] at hb
    have := Nat.eq_of_beq_eq_true hb.1
    subst this
    obtain ⟨ret, h1, h2⟩ := hF vs ρ K r hk
    exact ⟨ret, h1, h2, hc⟩
  | false =>
    rw [hb] at hk
    exact h g' vs ρ K r hk

theorem consPhi_par {g : FuncId} {q : List V → Bool} {F : List V → (ρ : Type) → (Ret → Option ρ) → Option ρ} {phi : Phi} (hF : Par1 F) (h : PhiPar phi) : PhiPar (consPhi g q F phi) := by
  intro g' vs ρ K r hk
  unfold consPhi at hk ⊢
  cases hb : Nat.beq g' g && q vs with
  | true =>
    rw [hb] at hk
    exact hF vs ρ K r hk
  | false =>
    rw [hb] at hk
    exact h g' vs ρ K r hk

theorem eqsB_ok {T : Tab} (h : T.eqs.all (eqsB P) = true) : EqsOK P T :=
  ⟨fun t s hl => List.all_eq_true.1 h _ (look_mem hl)⟩

end
end Go.Vi
