/-
  Vi: joins; what the interpreter says of code comes true.
-/
import Derived.Test.YtombednapelokaaViJ
import Derived.Scope
set_option linter.unusedVariables false
set_option linter.unusedSimpArgs false
namespace Go.Vi
open Op

section
variable {P : Program} {E : Env} {all : List Oper} {o p q : Oper} {x : Cx} {γ γ' : Gam} {w : World} {a : Act} {st st' s1 s2 : St}
variable {ops : Array Oper} {Q : Exit → Act → World → Prop} {H H' : Heap} {ρ : Type} {K k : St → Option ρ} {r : ρ}

theorem nodupB_spec : ∀ {l : List Nat}, nodupB l = true → l.Nodup
  | [], _ => List.nodup_nil
  | d :: l, h => by
    simp only [nodupB, Bool.and_eq_true, Bool.not_eq_true'] at h
    refine List.nodup_cons.2 ⟨fun hm => ?_, nodupB_spec h.2⟩
    rw [mem_memN.2 hm] at h
    cases h.1

theorem flatOK_spec (h : flatOK E all = true) : Ssa E all all := by
  simp only [flatOK, Bool.and_eq_true] at h
  obtain ⟨⟨h1, h2⟩, h3⟩ := h
  refine ⟨nodupB_spec h1, fun d hd => Nat.le_of_ble_eq_true (List.all_eq_true.1 h2 d hd), fun o ho he hd => ?_⟩
  have := List.all_eq_true.1 h3 o ho
  rw [he, hd] at this
  cases this

theorem keys1_mem {k : Nat} {v : V} (h : refs1 k v = true) : k ∈ keys1 v := by
  cases v <;> first | (cases h; done) | exact List.mem_singleton.2 (Nat.eq_of_beq_eq_true h).symm

theorem keysL_mem {k : Nat} : ∀ {vs : List V}, refsAny k vs = true → k ∈ keysL vs
  | [], h => by cases h
  | v :: vs, h => by
    simp only [refsAny, Bool.or_eq_true] at h
    simp only [keysL, List.mem_append]
    exact h.imp keys1_mem keysL_mem

theorem keysV_mem {k : Nat} {v : V} (h : refs k v = true) : k ∈ keysV v := by
  cases v with
  | tup vs => exact keysL_mem h
  | fn f vs => exact keysL_mem h
  | ptr j off => exact keys1_mem (v := .ptr j off) h
  | own j w t => exact keys1_mem (v := .own j w t) h
  | eptr j w i off => exact keys1_mem (v := .eptr j w i off) h
  | aptr j off n e i => exact keys1_mem (v := .aptr j off n e i) h
  | map j => exact keys1_mem (v := .map j) h
  | _ => cases h

theorem key_mod (d j : Nat) (h : d < 10000) : (d + 10000 * j) % 10000 = d := by omega

theorem freshB_spec (h : freshB (makers all) st.tm = true) (hs : Ssa E all all) : Fresh st all := by
  intro q hq hmk d hd j t u hu
  cases hr : refs (d + 10000 * j) u with
  | false => rfl
  | true =>
    exfalso
    have h1 := List.all_eq_true.1 h u (List.mem_of_getElem? hu)
    have h2 := List.all_eq_true.1 h1 _ (keysV_mem hr)
    have hm := mem_dsts_of hq hd
    have hm2 : d ∈ makers all := mem_dsts_of (List.mem_filter.2 ⟨hq, by rw [hmk]; rfl⟩) hd
    have h3 : @LT.lt Nat _ d 10000 := hs.lt d hm
    rw [key_mod d j h3, mem_memN.2 hm2] at h2
    cases h2

theorem fm_range (ops : Array Oper) : (List.range ops.size).filterMap (fun i => ops.toList[i]?) = ops.toList := by
  have key : ∀ (l : List Oper) (k : Nat), (∀ i o, l[i]? = some o → ops.toList[k + i]? = some o) → (List.range' k l.length).filterMap (fun i => ops.toList[i]?) = l := by
    intro l
    induction l with
    | nil => intro k _; rfl
    | cons o l ih =>
      intro k h
      have h0 := h 0 o (by simp)
      rw [List.length_cons, List.range'_succ, List.filterMap_cons]
      simp only [Nat.add_zero] at h0
      rw [h0]
      simp only
      rw [ih (k + 1) fun i o' hi => by
        have := h (i + 1) o' (by simpa using hi)
        rwa [show k + (i + 1) = k + 1 + i by omega] at this]
  have := key ops.toList 0 (fun i o h => by rw [Nat.zero_add]; exact h)
  rw [← List.range_eq_range', Array.length_toList] at this
  exact this

theorem runOps_plain (hT : TabOK P E.T) (hE : EqsOK P E.T) (hphi : EnvOK P E) : ∀ (m : Nat) (os : List Oper) {st : St} {γ : Gam} {a : Act} {w : World}, (∀ o ∈ os, o.guard = none) → runOps E ops.toList none m os st ρ K = some r → RS x γ st a w →
    (∀ st' γ' a' w', K st' = some r → RS x γ' st' a' w' → Q .normal a' w') → wpList P ops Q os a w
  | 0, os, st, γ, a, w, _, h, _, _ => by cases h
  | m + 1, [], st, γ, a, w, _, h, hr, hQ => hQ st γ a w h hr
  | m + 1, o :: os, st, γ, a, w, hg, h, hr, hQ => by
    have hgo := hg o (by simp)
    rw [runOps] at h
    have hgi : guardIs none o = true := by simp [guardIs, hgo]
    rw [hgi] at h
    simp only [cond_true] at h
    obtain ⟨s, hs, hop⟩ := evalOp_eff hT hE hphi h hr
    refine wpList_plain hgo fun K' hK' => ?_
    refine OpTo.wp (hop.mono fun u w' ⟨γ', hr'⟩ => hK' _ _ ?_)
    exact runOps_plain hT hE hphi m os (fun q hq => hg q (by simp [hq])) hs hr' hQ

/-- A region. -/
theorem region_sound (hT : TabOK P E.T) (hE : EqsOK P E.T) (hphi : EnvOK P E) (hpar : EnvPar E) (hm : P.follows .mixedOrders = true) {id : Nat} {draw : Bool}
    (h : (bif regOK E ops.toList draw st then runOps E ops.toList none (ops.toList.length + 1) ops.toList st ρ k else none) = some r) (hr : RS x γ st a w)
    (hQ : ∀ st' γ' a' w', k st' = some r → RS x γ' st' a' w' → Q .normal a' w') : (Code.region id ops draw).wp P Q a w := by
  obtain ⟨hok, hrun⟩ := cond_some h rfl
  clear h
  have flat : flatOK E ops.toList = true → freshB (makers ops.toList) st.tm = true → ∃ s s', k s = some r ∧ FRun E ops.toList ops.toList st s' ∧ Sub s s' ∧ Ssa E ops.toList ops.toList ∧ Fresh st ops.toList := by
    intro hf hfr
    have hs := flatOK_spec hf
    have hfs := freshB_spec hfr hs
    obtain ⟨s, s', h1, h2, h3⟩ := runOps_flat hpar _ none ops.toList st st ρ k r hrun (Sub.refl st) hfs hs (fun j want he => by cases he) (.inr ⟨rfl, rfl⟩)
    exact ⟨s, s', h1, h2, h3, hs, hfs⟩
  have fin : ∀ {s s' : St}, k s = some r → Sub s s' → ∀ γ' a' w', RS x γ' s' a' w' → Q .normal a' w' := by
    intro s s' hk hsub γ' a' w' hr'
    obtain ⟨γ2, hr2⟩ := hr'.sub hsub
    exact hQ s γ2 a' w' hk hr2
  unfold regOK at hok
  cases draw with
  | true =>
    simp only [cond_true, Bool.and_eq_true] at hok
    obtain ⟨⟨hd, hf⟩, hfr⟩ := hok
    obtain ⟨s, s', h1, h2, h3, h4, h5⟩ := flat hf hfr
    refine wp_region_any hm ?_
    have hrem : rem (Array.replicate ops.size false) ops.size = List.range ops.size := by
      unfold rem
      refine List.filter_eq_self.2 fun i hi => ?_
      have := List.mem_range.1 hi
      simp [Array.getD, this]
    have hfm : (rem (Array.replicate ops.size false) ops.size).filterMap (fun i => ops.toList[i]?) = ops.toList := by rw [hrem]; exact fm_range ops
    refine FRun.wpAny (st := st) (st' := s') hT hE hphi hpar hd ops.size _ (by simp) (by rw [hrem]; simp) ?_ (by rw [hfm]; exact h2) (hr.grows (Grows.drew w)) (by rw [hfm]; exact h5) (by rw [hfm]; exact h4) (fin h1 h3)
    intro j hj hl
    simp [Array.getD, hj] at hl
  | false =>
    simp only [cond_false, Bool.or_eq_true] at hok
    rcases hok with hok | hok
    · refine wp_region_list ?_
      refine runOps_plain hT hE hphi _ ops.toList (fun o ho => ?_) hrun hr hQ
      have := List.all_eq_true.1 hok o ho
      simpa using this
    · rw [Bool.and_eq_true] at hok
      obtain ⟨s, s', h1, h2, h3, h4, h5⟩ := flat hok.1 hok.2
      refine wp_region ?_
      refine FRun.wpOps (st := st) (st' := s') hT hE hphi (List.range ops.size) (fun i hi => List.mem_range.1 hi) (by rw [fm_range]; exact h2) hr (by rw [fm_range]; exact h5) (by rw [fm_range]; exact h4) (fin h1 h3)

/-! ### Joins -/

/-- Which old key a new name stands for. -/
def oldKey (s : List (Nat × Nat)) (j : Nat) : Option Nat := look (s.map fun p => (p.2, p.1)) j

theorem look_in {α : Type} : ∀ {s : List (Nat × α)} {k : Nat} {y : α}, look s k = some y → (k, y) ∈ s
  | [], k, y, h => by cases h
  | (k', v) :: s, k, y, h => by
    simp only [look] at h
    cases hb : Nat.beq k' k with
    | true =>
      rw [hb] at h
      cases h
      rw [Nat.eq_of_beq_eq_true hb]
      simp
    | false =>
      rw [hb] at h
      have := look_in h
      simp [this]

theorem look_none {α : Type} : ∀ {s : List (Nat × α)} {k : Nat}, look s k = none → k ∉ s.map (·.1)
  | [], k, _ => by simp
  | (k', v) :: s, k, h => by
    simp only [look] at h
    cases hb : Nat.beq k' k with
    | true => rw [hb] at h; cases h
    | false =>
      rw [hb] at h
      have h1 := look_none h
      simp only [List.map_cons, List.mem_cons, not_or]
      refine ⟨fun e => ?_, h1⟩
      rw [e, Nat.beq_refl] at hb
      cases hb

theorem in_look {α : Type} : ∀ {s : List (Nat × α)} {k : Nat} {y : α}, (s.map (·.1)).Nodup → (k, y) ∈ s → look s k = some y
  | [], k, y, _, h => by cases h
  | (k', v) :: s, k, y, hn, h => by
    obtain ⟨h1, h2⟩ := List.nodup_cons.1 hn
    simp only [look]
    rcases List.mem_cons.1 h with h | h
    · cases h
      rw [Nat.beq_refl]
      rfl
    · have hne : k' ≠ k := fun e => h1 (by
        simp only
        rw [e]
        exact List.mem_map.2 ⟨(k, y), h, rfl⟩)
      rw [beq_false hne]
      exact in_look h2 h

/-- New names are one each; what a caller handed in keeps its own. -/
structure NamesOK (s : List (Nat × Nat)) : Prop where
  fst : (s.map (·.1)).Nodup
  snd : (s.map (·.2)).Nodup
  lo : ∀ p ∈ s, pinLo ≤ p.1 ∨ pinLo ≤ p.2 → p.1 = p.2

theorem nodup_snoc {α : Type} {l : List α} {y : α} (h : l.Nodup) (hy : y ∉ l) : (l ++ [y]).Nodup := by
  rw [List.nodup_append]
  refine ⟨h, by simp, fun q hq q' hq' e => ?_⟩
  rw [List.mem_singleton.1 hq'] at e
  exact hy (e ▸ hq)

theorem NamesOK.add {s : List (Nat × Nat)} (h : NamesOK s) (k new : Nat) : NamesOK (addName s k new) := by
  unfold addName
  cases hl : look s k with
  | some y => exact h
  | none =>
    simp only
    have hk := look_none hl
    cases hp : Nat.ble pinLo k with
    | true =>
      simp only [cond_true]
      have hlo : pinLo ≤ k := Nat.le_of_ble_eq_true hp
      refine ⟨by rw [List.map_append]; exact nodup_snoc h.fst hk, ?_, fun p hp => ?_⟩
      · rw [List.map_append]
        refine nodup_snoc h.snd fun hm => ?_
        obtain ⟨p, hpm, hpk⟩ := List.mem_map.1 hm
        have := h.lo p hpm (.inr (by rw [hpk]; exact hlo))
        exact hk (List.mem_map.2 ⟨p, hpm, this.trans hpk⟩)
      · rcases List.mem_append.1 hp with hp | hp
        · exact h.lo p hp
        · rw [List.mem_singleton.1 hp]
          exact fun _ => rfl
    | false =>
      simp only [cond_false]
      cases hn : Nat.ble pinLo new || s.any (fun p => Nat.beq p.2 new) with
      | true => exact h
      | false =>
        rw [Bool.or_eq_false_iff] at hn
        simp only [cond_false]
        have hk' : ¬ pinLo ≤ k := fun e => by rw [Nat.ble_eq_true_of_le e] at hp; cases hp
        have hn' : ¬ pinLo ≤ new := fun e => by rw [Nat.ble_eq_true_of_le e] at hn; cases hn.1
        refine ⟨by rw [List.map_append]; exact nodup_snoc h.fst hk, ?_, fun p hp => ?_⟩
        · rw [List.map_append]
          refine nodup_snoc h.snd fun hm => ?_
          obtain ⟨p, hpm, hpk⟩ := List.mem_map.1 hm
          have := List.any_eq_false.1 hn.2 p hpm
          rw [hpk, Nat.beq_refl] at this
          exact this rfl
        · rcases List.mem_append.1 hp with hp | hp
          · exact h.lo p hp
          · rw [List.mem_singleton.1 hp]
            rintro (h1 | h1)
            · exact absurd h1 hk'
            · exact absurd h1 hn'

theorem NamesOK.adds : ∀ {l : List Nat} {s : List (Nat × Nat)} {new : Nat}, NamesOK s → NamesOK (addNames s new l)
  | [], _, _, h => h
  | k :: l, s, new, h => NamesOK.adds (l := l) (h.add k new)

theorem names_ok (tm : List V) : ∀ (live : List Nat) (s : List (Nat × Nat)), NamesOK s → NamesOK (names tm live s)
  | [], s, h => h
  | t :: ts, s, h => by
    rw [names]
    refine names_ok tm ts _ ?_
    cases Nat.ble pinLo t with
    | true => exact h.add t t
    | false =>
      simp only [cond_false]
      split
      · exact NamesOK.adds h
      · exact h

theorem newHeap_get {hp : Heap} {j k : Nat} {ob : O} : ∀ (s : List (Nat × Nat)), (∀ p ∈ s, p.2 = j → p.1 = k) → (k, j) ∈ s → hp k = some ob → newHeap hp s j = some ob
  | [], _, h, _ => by cases h
  | (k', t) :: s, hu, h, hk => by
    by_cases ht : t = j
    · subst ht
      have : k' = k := hu (k', t) (by simp) rfl
      subst this
      simp only [newHeap, hk]
      simp [upd]
    · have h' : (k, j) ∈ s := by
        rcases List.mem_cons.1 h with h | h
        · cases h; exact absurd rfl ht
        · exact h
      have ih := newHeap_get s (fun p hp => hu p (by simp [hp])) h' hk
      simp only [newHeap]
      cases hp k' with
      | some o' =>
        simp only
        rw [upd_ne _ _ fun e => ht e.symm]
        exact ih
      | none => exact ih

theorem newHeap_ne {hp : Heap} {j : Nat} : ∀ (s : List (Nat × Nat)), newHeap hp s j ≠ none → ∃ p ∈ s, p.2 = j ∧ hp p.1 ≠ none
  | [], h => absurd rfl h
  | (k', t) :: s, h => by
    simp only [newHeap] at h
    cases hk : hp k' with
    | none =>
      rw [hk] at h
      obtain ⟨p, hp', h1, h2⟩ := newHeap_ne s h
      exact ⟨p, by simp [hp'], h1, h2⟩
    | some o' =>
      rw [hk] at h
      simp only at h
      by_cases ht : j = t
      · exact ⟨(k', t), by simp, ht.symm, by rw [hk]; simp⟩
      · rw [upd_ne _ _ ht] at h
        obtain ⟨p, hp', h1, h2⟩ := newHeap_ne s h
        exact ⟨p, by simp [hp'], h1, h2⟩

theorem normTm_get (s : List (Nat × Nat)) (live : List Nat) : ∀ (tm : List V) (i t : Nat), (normTm s live tm i)[t]? = (tm[t]?).map fun v => bif live.any (Nat.beq (i + t)) then ren s v else .undef
  | [], i, t => by simp [normTm]
  | v :: tm, i, 0 => by simp [normTm]
  | v :: tm, i, t + 1 => by
    simp only [normTm, List.getElem?_cons_succ]
    rw [normTm_get s live tm (i + 1) t]
    simp only [show i + 1 + t = i + (t + 1) by omega]

theorem normTm_len (s : List (Nat × Nat)) (live : List Nat) : ∀ (tm : List V) (i : Nat), (normTm s live tm i).length = tm.length
  | [], _ => rfl
  | v :: tm, i => by simp [normTm, normTm_len s live tm (i + 1)]

theorem CR.loose {A : Nat → Prop} {c : C} {v : Value} (h : CR w A c v) : CR w A (Vi.loose c) v := by
  cases c with
  | sl e xs t =>
    obtain ⟨a, cap, h1, h2, h3, h4⟩ := h
    exact ⟨a, cap, h1, h2, by simp, h4⟩
  | _ => exact h

theorem All2.loose {A : Nat → Prop} : ∀ {cs : List C} {vs : List Value}, All2 (CR w A) cs vs → All2 (CR w A) (cs.map Vi.loose) vs
  | [], [], _ => trivial
  | _ :: _, _ :: _, h => ⟨CR.loose h.1, All2.loose h.2⟩
  | [], _ :: _, h => h.elim
  | _ :: _, [], h => h.elim

theorem OwnSl.loose {i : Info} {n len : Nat} {nilE t : Bool} {win : Option (Nat × Nat)} {v : Value} (h : OwnSl i n len nilE win t v) : OwnSl i n len nilE win false v := by
  cases i with
  | emp => exact h
  | «at» b c =>
    cases win with
    | none => exact ⟨h.1, h.2.1, by simp⟩
    | some p =>
      obtain ⟨p, l⟩ := p
      obtain ⟨o, cap, h1, h2, h3, h4, h5, h6, h7⟩ := h
      exact ⟨o, cap, h1, h2, h3, h4, by simp, h6, h7⟩

/-- The state at a join is true if the state before it is. -/
theorem RS.norm (hr : RS x γ st a w) (live : List Nat) : ∃ γ', RS x γ' (Vi.norm live st) a w := by
  generalize hs : names st.tm live [] = s
  have hok : NamesOK s := hs ▸ names_ok st.tm live [] ⟨List.nodup_nil, List.nodup_nil, by simp⟩
  have hsw : ((s.map fun p => (p.2, p.1)).map (·.1)).Nodup := by
    rw [List.map_map]
    exact hok.snd
  have hold : ∀ k j, look s k = some j → oldKey s j = some k := fun k j h => in_look hsw (List.mem_map.2 ⟨(k, j), look_in h, rfl⟩)
  have hmem : ∀ k j, oldKey s j = some k → (k, j) ∈ s := by
    intro k j h
    obtain ⟨p, hp, he⟩ := List.mem_map.1 (look_in h)
    cases he
    exact hp
  have hold' : ∀ k j, oldKey s j = some k → look s k = some j := fun k j h => in_look hok.fst (hmem k j h)
  let γ' : Gam := fun j => (oldKey s j).bind γ
  let H' : Heap := newHeap st.hp s
  have hγ : ∀ j i, γ' j = some i → ∃ k, oldKey s j = some k ∧ γ k = some i := fun j i h => Option.bind_eq_some_iff.1 h
  have hH : ∀ j k ob, oldKey s j = some k → st.hp k = some ob → H' j = some ob := by
    intro j k ob h hk
    refine newHeap_get s (fun p hp hpj => ?_) (hmem k j h) hk
    have h1 : oldKey s j = some p.1 := in_look hsw (List.mem_map.2 ⟨p, hp, by rw [← hpj]⟩)
    rw [h] at h1
    cases h1
    rfl
  have hav : ∀ b, Av x γ w b → Av x γ' w b ∧ w.heap[b]? = w.heap[b]? := fun b hb => Av.del (fun k i hk => by
    obtain ⟨k', _, h⟩ := hγ k i hk
    exact ⟨k', h⟩) b hb
  have hnorm : Vi.norm live st = { tm := normTm s live st.tm 0, hp := H' } := by simp only [Vi.norm, hs, H']
  rw [hnorm]
  refine ⟨γ', ⟨⟨hr.inv.size, hr.inv.os, hr.inv.tape, hr.inv.output, hr.inv.blk, ?_, ?_, ?_, ?pin⟩, by rw [normTm_len]; exact hr.len, ?_, hr.nod⟩⟩
  case pin =>
    intro k i hp hHk
    have hlo := x.pinlo k i hp
    obtain ⟨p, hpm, h1, h2⟩ := newHeap_ne s hHk
    have h3 := hok.lo p hpm (.inr (by rw [h1]; exact hlo))
    have h4 : (k, k) ∈ s := by
      have : p = (k, k) := by
        cases p
        simp only at h1 h3
        subst h1
        rw [h3]
      rw [← this]
      exact hpm
    rw [h3.trans h1] at h2
    simp only [γ', hold k k (in_look hok.fst h4), Option.bind_some]
    exact hr.inv.pin k i hp h2
  · intro j i hj
    obtain ⟨k, h1, h2⟩ := hγ j i hj
    obtain ⟨ob, h3, h4⟩ := hr.inv.own k i h2
    exact ⟨ob, hH j k ob h1 h3, objR.mono hav ob i (fun _ _ _ => rfl) h4⟩
  · intro j b c hj
    obtain ⟨k, h1, h2⟩ := hγ j _ hj
    exact hr.inv.rng k b c h2
  · intro j j' b c c' hj hj'
    obtain ⟨k, h1, h2⟩ := hγ j _ hj
    obtain ⟨k', h1', h2'⟩ := hγ j' _ hj'
    have := hr.inv.inj k k' b c c' h2 h2'
    subst this
    have e1 := hold' k j h1
    have e2 := hold' k j' h1'
    rw [e1] at e2
    cases e2
    rfl
  · intro t v hv
    rw [normTm_get, Option.map_eq_some_iff] at hv
    obtain ⟨y, hy, hyv⟩ := hv
    cases hl : live.any (Nat.beq (0 + t)) with
    | false =>
      rw [hl] at hyv
      subst hyv
      trivial
    | true =>
      rw [hl] at hyv
      simp only [cond_true] at hyv
      have hVR := VR.mono hav y _ (hr.tm t y hy)
      have one : ∀ (y : V) (u : Value), VR1 γ w (Av x γ' w) st.hp y u → VR1 γ' w (Av x γ' w) H' (ren1 s y) u := by
        intro y u h
        cases y with
        | ptr k off =>
          simp only [ren1]
          split
          · rename_i j hj
            obtain ⟨b, c, h1, h2⟩ := h
            exact ⟨b, c, by simp only [γ', hold k j hj, Option.bind_some]; exact h1, h2⟩
          · trivial
        | own k win t =>
          simp only [ren1]
          split
          · rename_i j hj
            obtain ⟨i, e, xs, nilE, h1, h2, h3⟩ := h
            exact ⟨i, e, xs, nilE, by simp only [γ', hold k j hj, Option.bind_some]; exact h1, hH j k _ (hold k j hj) h2, OwnSl.loose h3⟩
          · trivial
        | map k =>
          simp only [ren1]
          split
          · rename_i j hj
            obtain ⟨b, c, h1, h2⟩ := h
            exact ⟨b, c, by simp only [γ', hold k j hj, Option.bind_some]; exact h1, h2⟩
          · trivial
        | c y => exact CR.loose h
        | agg cs =>
          obtain ⟨vs, h1, h2⟩ := h
          exact ⟨vs, h1, All2.loose h2⟩
        | iptr cs =>
          obtain ⟨b, o, cur, et, fz, h1, h2, h3, h4, h5⟩ := h
          refine ⟨b, o, cur, et, fz, h1, h2, h3, by simpa using h4, ?_⟩
          rw [List.length_map]
          exact All2.loose h5
        | _ => trivial
      have many : ∀ (ys : List V) (us : List Value), All2 (VR1 γ w (Av x γ' w) st.hp) ys us → All2 (VR1 γ' w (Av x γ' w) H') (renL s ys) us := by
        intro ys
        induction ys with
        | nil => intro us h; cases us <;> first | trivial | exact h.elim
        | cons y ys ih =>
          intro us h
          cases us with
          | nil => exact h.elim
          | cons u us => exact ⟨one y u h.1, ih us h.2⟩
      subst hyv
      cases y with
      | fn f caps =>
        obtain ⟨us, h1, h2⟩ := hVR
        exact ⟨us, h1, many caps us h2⟩
      | tup vs => trivial
      | undef => trivial
      | c y => exact VR1.up (one (.c y) _ hVR)
      | agg cs => exact VR1.up (one (.agg cs) _ hVR)
      | iptr cs => exact VR1.up (one (.iptr cs) _ hVR)
      | eptr _ _ _ _ => trivial
      | aptr _ _ _ _ _ => trivial
      | ptr k off => exact VR1.up (one (.ptr k off) _ hVR)
      | own k win t => exact VR1.up (one (.own k win t) _ hVR)
      | map k => exact VR1.up (one (.map k) _ hVR)

/-! ### Code -/

def exitOf (j : Nat) : Exit := if j < goff then .exit j else .goto (j - goff)

/-- Where the interpreter's continuations answer, the machine's do. -/
structure Posts (x : Cx) (k : St → Option ρ) (ex : Nat → St → Option ρ) (rt : St → Option ρ) (r : ρ) (Q : Exit → Act → World → Prop) : Prop where
  norm : ∀ st γ a w, k st = some r → RS x γ st a w → Q .normal a w
  exit : ∀ j st γ a w, ex j st = some r → RS x γ st a w → Q (exitOf j) a w
  ret : ∀ st γ a w, rt st = some r → RS x γ st a w → Q .ret a w

/-- A handler of scopes that is right. -/
def ScOK (P : Program) (x : Cx) (sc : Scp) : Prop :=
  ∀ (ρ : Type) (c : Code) (an : Ann) (k : St → Option ρ) (ex : Nat → St → Option ρ) (rt : St → Option ρ) (r : ρ) (Q : Exit → Act → World → Prop) (st : St) (γ : Gam) (a : Act) (w : World),
    sc ρ c an k ex rt st = some r → RS x γ st a w → Posts x k ex rt r Q → (Code.scope c).wp P Q a w

theorem runG_sound (hT : TabOK P E.T) (hE : EqsOK P E.T) (hphi : EnvOK P E) (hpar : EnvPar E) (hm : P.follows .mixedOrders = true) {sc : Scp} (hsc : ScOK P x sc) : ∀ (c : Code) (an : Ann) (k : St → Option ρ) (ex : Nat → St → Option ρ) (rt : St → Option ρ)
    (Q : Exit → Act → World → Prop) (st : St) (γ : Gam) (a : Act) (w : World), runG E sc c an k ex rt st = some r → RS x γ st a w → Posts x k ex rt r Q → c.wp P Q a w := by
  intro c
  induction c with
  | skip =>
    intro an k ex rt Q st γ a w h hr hp
    rw [runG] at h
    try simp only [normC_eq] at h
    exact wp_skip (hp.norm st γ a w h hr)
  | label l =>
    intro an k ex rt Q st γ a w h hr hp
    rw [runG] at h
    try simp only [normC_eq] at h
    exact wp_label (hp.norm st γ a w h hr)
  | region id ops draw =>
    intro an k ex rt Q st γ a w h hr hp
    rw [runG] at h
    try simp only [normC_eq] at h
    exact region_sound hT hE hphi hpar hm h hr fun st' γ' a' w' hk hr' => hp.norm st' γ' a' w' hk hr'
  | seq c d ihc ihd =>
    intro an k ex rt Q st γ a w h hr hp
    rw [runG] at h
    try simp only [normC_eq] at h
    refine wp_seq (ihc _ _ _ _ _ st γ a w h hr ⟨?_, ?_, ?_⟩)
    · intro st' γ' a' w' hk hr'
      exact ihd _ _ _ _ Q st' γ' a' w' (holdK_some hk) hr' hp
    · intro j st' γ' a' w' hk hr'
      have := hp.exit j st' γ' a' w' hk hr'
      unfold exitOf at this ⊢
      split at this
      · rename_i hj
        rw [if_pos hj]
        exact this
      · rename_i hj
        rw [if_neg hj]
        exact this
    · intro st' γ' a' w' hk hr'
      exact hp.ret st' γ' a' w' hk hr'
  | cond b c d ihc ihd =>
    intro an k ex rt Q st γ a w h hr hp
    rw [runG] at h
    try simp only [normC_eq] at h
    cases hb : getB st b with
    | none => rw [hb] at h; cases h
    | some t =>
      rw [hb] at h
      simp only at h
      have he : a.eval b = .bool t := VR_bool (hr.ops' _ _ (getB_some hb))
      have hp' : Posts x (fun s => k (Vi.norm an.lv s)) ex rt r Q := by
        refine ⟨fun st' γ' a' w' hk hr' => ?_, hp.exit, hp.ret⟩
        obtain ⟨γ2, hr2⟩ := hr'.norm an.lv
        exact hp.norm _ γ2 a' w' hk hr2
      refine wp_cond he ?_
      cases t with
      | true => exact ihc _ _ _ _ Q st γ a w h hr hp'
      | false => exact ihd _ _ _ _ Q st γ a w h hr hp'
  | block id c ihc =>
    intro an k ex rt Q st γ a w h hr hp
    rw [runG] at h
    try simp only [normC_eq] at h
    obtain ⟨hid, h⟩ := cond_some h rfl
    have hid : id < goff := Nat.le_of_ble_eq_true hid
    have hnorm : ∀ st' γ' a' w', k (Vi.norm an.lv st') = some r → RS x γ' st' a' w' → Q .normal a' w' := by
      intro st' γ' a' w' hk hr'
      obtain ⟨γ2, hr2⟩ := hr'.norm an.lv
      exact hp.norm _ γ2 a' w' hk hr2
    refine wp_block (ihc _ _ _ _ _ st γ a w h hr ⟨hnorm, ?_, fun st' γ' a' w' hk hr' => hp.ret st' γ' a' w' hk hr'⟩)
    intro j st' γ' a' w' hk hr'
    cases hj : Nat.beq j id with
    | true =>
      rw [hj] at hk
      have e := Nat.eq_of_beq_eq_true hj
      subst e
      have : exitOf j = .exit j := if_pos hid
      rw [this]
      simp only [Exit.inBlock, if_true]
      exact hnorm st' γ' a' w' hk hr'
    | false =>
      rw [hj] at hk
      have := hp.exit j st' γ' a' w' hk hr'
      have hne : j ≠ id := fun e => by rw [e, Nat.beq_refl] at hj; cases hj
      unfold exitOf at this ⊢
      split at this
      · rename_i hjg
        rw [if_pos hjg]
        simp only [Exit.inBlock, if_neg hne]
        exact this
      · rename_i hjg
        rw [if_neg hjg]
        exact this
  | loop c ihc =>
    intro an k ex rt Q st γ a w h hr hp
    rw [runG] at h
    try simp only [normC_eq] at h
    intro b kk cs
    have key : ∀ (n : Nat) (st : St) (γ : Gam) (a : Act) (w : World), loopN (fun K s => runG E sc c an.fst (fun s' => K (Vi.norm an.lv s')) ex rt s) n st = some r → RS x γ st a w →
        ∃ e a' w', Q e a' w' ∧ Arrives P (lone (b.at a (.code c :: .inLoop c :: kk)) cs w) b kk cs e a' w' := by
      intro n
      induction n with
      | zero => intro st γ a w h _; cases h
      | succ n ihn =>
        intro st γ a w h hr
        simp only [loopN] at h
        have hQ := ihc an.fst _ ex rt (Exit.then (fun a' w' => ∃ st' γ', loopN (fun K s => runG E sc c an.fst (fun s' => K (Vi.norm an.lv s')) ex rt s) n st' = some r ∧ RS x γ' st' a' w') Q) st γ a w h hr ⟨?_, ?_, ?_⟩
        · obtain ⟨e, a₁, w₁, hq, harr⟩ := hQ b (.inLoop c :: kk) cs
          cases e with
          | normal =>
            obtain ⟨st', γ', h1, h2⟩ := hq
            obtain ⟨e₂, a₂, w₂, hq₂, harr₂⟩ := ihn st' γ' a₁ w₁ h1 h2
            exact ⟨e₂, a₂, w₂, hq₂, .of_steps (Steps.trans harr (.one step_inLoop)) harr₂⟩
          | exit id => exact ⟨_, a₁, w₁, hq, .pass (x := .inLoop c) rfl (fun _ _ => .inl (by simp)) harr⟩
          | goto l => exact ⟨_, a₁, w₁, hq, .pass (x := .inLoop c) rfl (fun _ _ => .inl (by simp)) harr⟩
          | ret => exact ⟨_, a₁, w₁, hq, .pass (x := .inLoop c) rfl (fun _ _ => .inl (by simp)) harr⟩
          | panic ch => exact ⟨_, a₁, w₁, hq, .pass (x := .inLoop c) rfl (fun _ _ => .inl (by simp)) harr⟩
          | outgrown => exact ⟨_, a₁, w₁, hq, .pass (x := .inLoop c) rfl (fun _ _ => .inl (by simp)) harr⟩
        · intro st' γ' a' w' hk hr'
          obtain ⟨γ2, hr2⟩ := hr'.norm an.lv
          exact ⟨_, γ2, hk, hr2⟩
        · intro j st' γ' a' w' hk hr'
          have := hp.exit j st' γ' a' w' hk hr'
          unfold exitOf at this ⊢
          split at this
          · rename_i hj
            rw [if_pos hj]
            exact this
          · rename_i hj
            rw [if_neg hj]
            exact this
        · intro st' γ' a' w' hk hr'
          exact hp.ret st' γ' a' w' hk hr'
    obtain ⟨γ2, hr2⟩ := hr.norm an.lv
    obtain ⟨e, a', w', hq, harr⟩ := key E.fuel _ γ2 a w h hr2
    exact ⟨e, a', w', hq, .of_steps (.one step_loop) harr⟩
  | exit id =>
    intro an k ex rt Q st γ a w h hr hp
    rw [runG] at h
    try simp only [normC_eq] at h
    obtain ⟨hid, h⟩ := cond_some h rfl
    have hid : id < goff := Nat.le_of_ble_eq_true hid
    have := hp.exit id st γ a w h hr
    unfold exitOf at this
    rw [if_pos hid] at this
    exact wp_exit this
  | goto l =>
    intro an k ex rt Q st γ a w h hr hp
    rw [runG] at h
    try simp only [normC_eq] at h
    have := hp.exit (goff + l) st γ a w h hr
    unfold exitOf at this
    rw [if_neg (by omega), show goff + l - goff = l by omega] at this
    exact wp_goto this
  | ret =>
    intro an k ex rt Q st γ a w h hr hp
    rw [runG] at h
    try simp only [normC_eq] at h
    exact wp_ret (hp.ret st γ a w h hr)
  | scope c ihc =>
    intro an k ex rt Q st γ a w h hr hp
    rw [runG] at h
    try simp only [normC_eq] at h
    exact hsc _ c an k ex rt r Q st γ a w h hr hp
  | _ =>
    intro an k ex rt Q st γ a w h hr hp
    simp only [runG] at h
    cases h

theorem noScope_ok : ScOK P x noScope := by
  intro ρ c an k ex rt r Q st γ a w h hr hp
  cases h

theorem run_sound (hT : TabOK P E.T) (hE : EqsOK P E.T) (hphi : EnvOK P E) (hpar : EnvPar E) (hm : P.follows .mixedOrders = true) {c : Code} {an : Ann} {ex : Nat → St → Option ρ} {rt : St → Option ρ}
    (h : run E c an k ex rt st = some r) (hr : RS x γ st a w) (hp : Posts x k ex rt r Q) : c.wp P Q a w :=
  runG_sound hT hE hphi hpar hm noScope_ok c an k ex rt Q st γ a w h hr hp

end
end Go.Vi
