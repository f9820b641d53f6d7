/-
  Vi: operations that change what is the call's own: stores.
-/
import Derived.Test.YtombednapelokaaViP8
import Derived.Laws.CopyRow
set_option linter.unusedVariables false
set_option linter.unusedSimpArgs false
namespace Go.Vi
open Op

variable {P : Program} {E : Env} {o : Oper} {ρ : Type} {r : ρ} {x : Cx} {γ : Gam} {H : Heap} {w : World} {a : Act} {st : St} {K : St → Option ρ}

/-- An operation goes on to a state. -/
def Eff (P : Program) (o : Oper) (K : St → Option ρ) (r : ρ) (x : Cx) (a : Act) (w : World) : Prop :=
  ∃ st', K st' = some r ∧ OpTo P o a w fun u w' => ∃ γ', RS x γ' st' (a.put o.dst u) w'

/-- Of one shape: what names the one names the other. -/
def sameO : O → O → Prop
  | .box _, .box _ => True
  | .arr e xs n, .arr e' xs' n' => e' = e ∧ xs'.length = xs.length ∧ n' = n
  | .mp _ _ _, .mp _ _ _ => True
  | _, _ => False

theorem view_len {α β : Type} {win : Option (Nat × Nat)} {xs : List α} {ys : List β} (h : xs.length = ys.length) : (view win xs).length = (view win ys).length := by
  cases win with
  | none => exact h
  | some p => simp [view, h]

theorem upd_self (H : Heap) (k : Nat) (ob : O) : upd H k ob k = some ob := by simp [upd]
theorem upd_ne (H : Heap) {j k : Nat} (ob : O) (h : j ≠ k) : upd H k ob j = H j := by simp [upd, beq_false h]

theorem VR1.upd {A : Nat → Prop} {k : Nat} {ob ob' : O} (hH : H k = some ob) (hs : sameO ob ob') : ∀ (y : V) (u : Value), VR1 γ w A H y u → VR1 γ w A (upd H k ob') y u := by
  intro y u h
  cases y with
  | own j win t =>
    obtain ⟨i, e, xs, nilE, h1, h2, h3⟩ := h
    by_cases hj : j = k
    · subst hj
      rw [h2] at hH
      cases hH
      cases ob' with
      | arr e' xs' n' =>
        obtain ⟨rfl, hl, rfl⟩ := hs
        exact ⟨i, _, xs', _, h1, upd_self _ _ _, by rw [hl]; exact h3⟩
      | _ => exact hs.elim
    · exact ⟨i, e, xs, nilE, h1, (upd_ne H ob' hj).trans h2, h3⟩
  | eptr j win i off =>
    obtain ⟨b, c, e, xs, nilE, h1, h2, h3, h4, h5⟩ := h
    by_cases hj : j = k
    · subst hj
      rw [h2] at hH
      cases hH
      cases ob' with
      | arr e' xs' n' =>
        obtain ⟨rfl, hl, rfl⟩ := hs
        exact ⟨b, c, _, xs', _, h1, upd_self _ _ _, h3, by rw [view_len hl]; exact h4, h5⟩
      | _ => exact hs.elim
    · exact ⟨b, c, e, xs, nilE, h1, (upd_ne H ob' hj).trans h2, h3, h4, h5⟩
  | ptr j off => exact h
  | aptr j off n e i => exact h
  | map j => exact h
  | undef => trivial
  | c y => exact h
  | agg cs => exact h
  | iptr cs => exact h
  | tup vs => exact h
  | fn f vs => exact h

theorem VR.upd {A : Nat → Prop} {k : Nat} {ob ob' : O} (hH : H k = some ob) (hs : sameO ob ob') (y : V) (u : Value) (h : VR γ w A H y u) : VR γ w A (upd H k ob') y u := by
  cases y with
  | tup vs => obtain ⟨us, h1, h2⟩ := h; exact ⟨us, h1, h2.mono (VR1.upd hH hs)⟩
  | fn f caps => obtain ⟨us, h1, h2⟩ := h; exact ⟨us, h1, h2.mono (VR1.upd hH hs)⟩
  | _ => simp only [VR] at h ⊢; exact VR1.upd hH hs _ _ h

/-- The one block of an own thing turns. -/
structure Turns (b : Nat) (w w' : World) : Prop where
  size : w'.heap.size = w.heap.size
  os : w'.os = w.os
  tape : w'.tape = w.tape
  output : w'.output = w.output
  blk : ∀ j, j ≠ b → w'.heap[j]? = w.heap[j]?

theorem Turns.setRow (w : World) (b : Nat) (cs : Array Value) : Turns b w (w.setRow b cs) :=
  ⟨setRow_size w b cs, rfl, rfl, rfl, fun j hj => setRow_other w b j cs hj⟩

theorem Inv.upd {w' : World} {k b c : Nat} {ob ob' : O} (hi : Inv x γ H w) (hk : γ k = some (.at b c)) (hH : H k = some ob) (hs : sameO ob ob') (ht : Turns b w w')
    (hob : objR w' (Av x γ w') ob' (.at b c)) :
    Inv x γ (Vi.upd H k ob') w' ∧ ∀ y u, VR γ w (Av x γ w) H y u → VR γ w' (Av x γ w') (Vi.upd H k ob') y u := by
  have hav : ∀ j, Av x γ w j → Av x γ w' j ∧ w'.heap[j]? = w.heap[j]? := fun j hj =>
    ⟨⟨by rw [ht.size]; exact hj.1, hj.2.1, hj.2.2⟩, ht.blk j fun e => hj.2.2 k c (e ▸ hk)⟩
  refine ⟨⟨by rw [ht.size]; exact hi.size, ht.os.trans hi.os, ht.tape.trans hi.tape, ht.output.trans hi.output, ?_, ?_, ?_, hi.inj, ?pin⟩, fun y u h => VR.upd hH hs y u (VR.mono hav y u h)⟩
  case pin =>
    intro j i hp hHj
    refine hi.pin j i hp ?_
    by_cases hjk : j = k
    · subst hjk
      rw [hH]
      simp
    · rwa [upd_ne H ob' hjk] at hHj
  · intro j hj hm
    refine (ht.blk j fun e => ?_).trans (hi.blk j hj hm)
    subst e
    rcases (hi.rng k j c hk).1 with h | h
    · omega
    · exact hm h
  · intro j i hj
    by_cases hjk : j = k
    · subst hjk
      rw [hk] at hj
      cases hj
      exact ⟨ob', upd_self _ _ _, hob⟩
    · obtain ⟨ob2, h1, h2⟩ := hi.own j i hj
      refine ⟨ob2, (upd_ne H ob' hjk).trans h1, objR.mono hav _ _ (fun b' c' hb => ht.blk b' fun e => ?_) h2⟩
      subst e
      exact hjk (hi.inj j k b' c' c (hb ▸ hj) hk)
  · intro j b' c' hj
    rw [ht.size]
    exact hi.rng j b' c' hj

theorem RS.upd {w' : World} {k b c : Nat} {ob ob' : O} {v : V} {u : Value} {dst : Option Tmp} (h : RS x γ st a w) (hk : γ k = some (.at b c)) (hH : st.hp k = some ob) (hs : sameO ob ob') (ht : Turns b w w')
    (hob : objR w' (Av x γ w') ob' (.at b c)) (hv : VR γ w' (Av x γ w') (Vi.upd st.hp k ob') v u) : RS x γ (hset (put st dst v) k ob') (a.put dst u) w' := by
  obtain ⟨h1, h2⟩ := h.inv.upd hk hH hs ht hob
  refine ⟨?_, ?_, ?_, ?_⟩
  · cases dst <;> exact h1
  · rw [put_size, ← h.len]
    cases dst <;> simp [put, hset]
  · intro t y hy
    have e : (hset (put st dst v) k ob').hp = Vi.upd st.hp k ob' := by cases dst <;> rfl
    rw [e]
    cases dst with
    | none => exact h2 y _ (h.tm t y hy)
    | some d =>
      rw [put_getD]
      simp only [hset, put, List.getElem?_set] at hy
      split at hy
      · rename_i hdt
        split at hy
        · rename_i hlt
          cases hy
          rw [if_pos ⟨hdt.symm, by rw [← h.len]; exact hlt⟩]
          exact hv
        · cases hy
      · rename_i hdt
        rw [if_neg (fun e => hdt e.1.symm)]
        exact h2 y _ (h.tm t y hy)
  · rw [put_defers]; exact h.nod

/-- What the state says, for an operation. -/
theorem RS.ops (h : RS x γ st a w) (hc : ∀ v y, constV v = some y → VR γ w (Av x γ w) st.hp y v) (hf : ∀ f, VR γ w (Av x γ w) st.hp (.fn f []) (a.eval (.func f))) : Ops (opV st) st.hp x γ w a := by
  intro y v hy
  cases y with
  | tmp t => exact h.tm t v hy
  | const u => exact hc u v hy
  | «global» g => cases hy
  | func f => cases hy; exact hf f

theorem constC_CR {A : Nat → Prop} : ∀ {v : Value} {y : C}, constC v = some y → CR w A y v := by
  intro v y h
  cases v <;> simp [constC] at h <;> subst h <;> rfl

theorem constCs_CR {A : Nat → Prop} : ∀ {vs : List Value} {ys : List C}, constCs vs = some ys → All2 (CR w A) ys vs
  | [], ys, h => by simp [constCs] at h; subst h; trivial
  | v :: vs, ys, h => by
    simp only [constCs] at h
    split at h
    · rename_i c cs h1 h2
      cases h
      exact ⟨constC_CR h1, constCs_CR h2⟩
    · cases h

theorem constV_VR {A : Nat → Prop} {v : Value} {y : V} (h : constV v = some y) : VR γ w A H y v := by
  unfold constV at h
  split at h
  · rename_i cs
    obtain ⟨ys, h1, rfl⟩ := Option.map_eq_some_iff.1 h
    exact ⟨cs.toList, by simp, constCs_CR h1⟩
  · obtain ⟨z, h1, rfl⟩ := Option.map_eq_some_iff.1 h
    exact constC_CR h1

theorem RS.ops' (h : RS x γ st a w) : Ops (opV st) st.hp x γ w a :=
  h.ops (fun _ _ hc => constV_VR hc) fun f => ⟨[], rfl, trivial⟩

/-- The pure ones. -/
theorem E_pure {Kp : V → List (Nat × O) → Option ρ} (hK : ∀ v obs, Kp v obs = some r → obs.all (fun p => dead st o.dst p.1) = true ∧ K { tm := (put st o.dst v).tm, hp := updAll st.hp obs } = some r)
    (hg : Good P o st.hp Kp r x γ w a) (h : RS x γ st a w) : Eff P o K r x a w := by
  obtain ⟨v, obs, h1, h2⟩ := hg
  obtain ⟨hd, h3⟩ := hK v obs h1
  exact ⟨_, h3, h2.mono fun u w' hr => h.step hd hr⟩

/-! ### Stores -/

theorem splice_get {α : Type} (L us : List α) (p q : Nat) (h : p + us.length ≤ L.length) :
    (L.take p ++ us ++ L.drop (p + us.length))[q]? = if q < p then L[q]? else if q < p + us.length then us[q - p]? else L[q]? := by
  have hl : (L.take p).length = p := by simp; omega
  rw [List.append_assoc, List.getElem?_append, hl]
  split
  · rename_i hq
    rw [List.getElem?_take, if_pos hq]
  · rename_i hq
    rw [List.getElem?_append]
    by_cases hq2 : q < p + us.length
    · rw [if_pos hq2, if_pos (by omega)]
    · rw [if_neg hq2, if_neg (by omega), List.getElem?_drop]
      congr 1
      omega

theorem win_get {α : Type} (L : List α) (s n q : Nat) : ((L.drop s).take n)[q]? = if q < n then L[s + q]? else none := by
  rw [List.getElem?_take]
  split
  · rw [List.getElem?_drop]
  · rfl

theorem splice_other {α : Type} (L us : List α) {n m j off : Nat} (h1 : off + us.length ≤ n) (h2 : m * n + n ≤ L.length) (hj : j ≠ m) :
    (((L.take (m * n + off) ++ us ++ L.drop (m * n + off + us.length))).drop (j * n)).take n = (L.drop (j * n)).take n := by
  apply List.ext_getElem?
  intro q
  rw [win_get, win_get]
  split
  · rename_i hq
    rw [splice_get _ _ _ _ (by omega)]
    rcases Nat.lt_or_gt_of_ne hj with hlt | hgt
    · have := Nat.mul_le_mul_right n (show j + 1 ≤ m from hlt)
      rw [Nat.add_mul, Nat.one_mul] at this
      rw [if_pos (by omega)]
    · have := Nat.mul_le_mul_right n (show m + 1 ≤ j from hgt)
      rw [Nat.add_mul, Nat.one_mul] at this
      rw [if_neg (by omega), if_neg (by omega)]
  · rfl

theorem splice_same {α : Type} (L us : List α) {n m off : Nat} (h1 : off + us.length ≤ n) (h2 : m * n + n ≤ L.length) :
    (((L.take (m * n + off) ++ us ++ L.drop (m * n + off + us.length))).drop (m * n)).take n =
      ((L.drop (m * n)).take n).take off ++ us ++ ((L.drop (m * n)).take n).drop (off + us.length) := by
  have hl : ((L.drop (m * n)).take n).length = n := by simp; omega
  apply List.ext_getElem?
  intro q
  rw [win_get, splice_get _ _ off q (by omega), win_get]
  by_cases hq : q < n
  · rw [if_pos hq, if_pos hq, splice_get _ _ _ _ (by omega)]
    by_cases h3 : q < off
    · rw [if_pos (by omega), if_pos h3]
    · rw [if_neg (by omega), if_neg h3]
      by_cases h4 : q < off + us.length
      · rw [if_pos (by omega), if_pos h4]
        congr 1
        omega
      · rw [if_neg (by omega), if_neg h4]
  · rw [if_neg hq, if_neg hq, if_neg (by omega), if_neg (by omega)]

theorem replaceR {w : World} {A : Nat → Prop} {cs vs : List C} {us ws : List Value} (h : All2 (CR w A) cs us) (hv : All2 (CR w A) vs ws) (off : Nat) :
    All2 (CR w A) (replace cs off vs) (us.take off ++ ws ++ us.drop (off + ws.length)) := by
  unfold Vi.replace
  rw [hv.length]
  exact ((h.take off).append hv).append (h.drop _)

theorem run_storeAt_shape {t : TypeId} {s : Sh} (hs : Base P t s) {b off : Nat} {cur : Array Value} {et : TypeId} {u : Value} (h : w.heap[b]? = some (.cells cur et (0, 0))) (hl : u.cells.toList.length = s.nc)
    (hn : off + s.nc ≤ cur.size) (h1 : ∀ v ∈ u.cells.toList, v.oneCell' = true) :
    (Instr.storeAt t (.pointer (some ⟨b, off, none⟩)) u).run P w = .ok () (w.setRow b (cur.toList.take off ++ u.cells.toList ++ cur.toList.drop (off + u.cells.toList.length)).toArray) := by
  obtain ⟨i, d, z, hi, hd, hsz, hby, hz, hzz, ha⟩ := hs.ex
  have hc : u.cells.size = i.size := by rw [hsz, ← hl]; simp
  have h2 := run_storeCells_at P b off et u.cells.toList 0 cur w h (by rw [hl]; omega) h1
  simp only [Nat.add_zero] at h2
  simp only [Instr.storeAt, Instr.sureAddr, storeVar, Sem.run_bind, Sem.run_pure, Result.andThen_ok, run_sizeOf' hi, hc, ne_eq, not_true_eq_false, if_false, h2]

theorem E_store {t : TypeId} {p y : Operand} (hT : TabOK P E.T) (ho : o.op = .store t p y) (h : evalE E o st ρ K = some r) (hr : RS x γ st a w) : Eff P o K r x a w := by
  have hv := hr.ops'
  simp only [evalE, ho] at h
  split at h
  · rename_i s k off vs h1 h2 h3
    obtain ⟨b, c, hg, he⟩ := hv _ _ h2
    obtain ⟨yv, g1, g2⟩ := Option.bind_eq_some_iff.1 h3
    have hc := cellsOf_VR g2 (hv _ _ g1)
    split at h
    · rename_i cs hH
      obtain ⟨hd, h⟩ := cond_some h rfl
      simp only [Bool.and_eq_true, decide_eq_true_eq] at hd
      obtain ⟨ob, hob, hR⟩ := hr.inv.own k _ hg
      rw [hH] at hob
      cases hob
      obtain ⟨cur, et, hb, hcs⟩ := hR
      have hl := hcs.length
      have hl2 := hc.length
      refine ⟨_, h, .inr (.inl ⟨w.setRow b (cur.toList.take off ++ (a.eval y).cells.toList ++ cur.toList.drop (off + (a.eval y).cells.toList.length)).toArray, ?_, γ, RS.upd (v := .undef) (u := undef) hr hg hH trivial (Turns.setRow w b _) ?_ trivial⟩)⟩
      · have hrun := run_storeAt_shape (P := P) (w := w) (off := off) (hT.sh t s h1).base hb (by omega) (by simp at hl; omega) hc.oneCell
        simp only [execOp, ho, he, Sem.run_bind, hrun, Result.andThen_ok, Sem.run_pure]
      · refine ⟨_, et, setRow_heap w b cur _ et _ hb, ?_⟩
        have hav : ∀ j, Av x γ w j → Av x γ (w.setRow b (cur.toList.take off ++ (a.eval y).cells.toList ++ cur.toList.drop (off + (a.eval y).cells.toList.length)).toArray) j ∧
            (w.setRow b (cur.toList.take off ++ (a.eval y).cells.toList ++ cur.toList.drop (off + (a.eval y).cells.toList.length)).toArray).heap[j]? = w.heap[j]? := fun j hj =>
          ⟨⟨by rw [setRow_size]; exact hj.1, hj.2.1, hj.2.2⟩, setRow_other w b j _ fun e => hj.2.2 k c (e ▸ hg)⟩
        exact (replaceR hcs hc off).mono (CR.mono hav)
    · cases h
  · rename_i s k win i off vs h1 h2 h3
    obtain ⟨b, c, e, xs, nilE, hg, hH, hi0, hi1, he⟩ := hv _ _ h2
    obtain ⟨yv, g1, g2⟩ := Option.bind_eq_some_iff.1 h3
    have hc := cellsOf_VR g2 (hv _ _ g1)
    have hl2 := hc.length
    split at h
    · rename_i e' xs' n' hH'
      rw [hH] at hH'
      cases hH'
      obtain ⟨hd, h⟩ := cond_some h rfl
      simp only [Bool.and_eq_true, decide_eq_true_eq] at hd
      obtain ⟨z, hz, h⟩ := Option.bind_eq_some_iff.1 h
      split at h
      · rename_i yy hy
        obtain ⟨i0, i1, i2⟩ := idx_some hz
        obtain ⟨g3, g4⟩ := view_get i2
        obtain ⟨ob, hob, hR⟩ := hr.inv.own k _ hg
        rw [hH] at hob
        cases hob
        obtain ⟨hne, hxc, cur, et, hb, hsz, hel⟩ := hR
        have hlt : wo win + i.toNat < xs.length := (List.getElem?_eq_some_iff.1 g3).1
        have hmul : (wo win + i.toNat) * e.nc + e.nc ≤ c * e.nc := by
          have := Nat.mul_le_mul_right e.nc (show wo win + i.toNat + 1 ≤ c by omega)
          rwa [Nat.add_mul, Nat.one_mul] at this
        have hset : setW win xs i yy = xs.set (wo win + i.toNat) yy := by
          cases win with
          | none => simp [setW, wo]
          | some p => rfl
        rw [hset] at h
        have hlen : cur.toList.length = cur.size := by simp
        refine ⟨_, h, .inr (.inl ⟨w.setRow b (cur.toList.take ((wo win + i.toNat) * e.nc + off) ++ (a.eval y).cells.toList ++ cur.toList.drop ((wo win + i.toNat) * e.nc + off + (a.eval y).cells.toList.length)).toArray, ?_, γ, RS.upd (v := .undef) (u := undef) hr hg hH ⟨rfl, by simp, rfl⟩ (Turns.setRow w b _) ?_ trivial⟩)⟩
        · have hrun := run_storeAt_shape (P := P) (w := w) (off := (wo win + i.toNat) * e.nc + off) (hT.sh t s h1).base hb (by omega) (by omega) hc.oneCell
          simp only [execOp, ho, he, Sem.run_bind, hrun, Result.andThen_ok, Sem.run_pure]
        · have hav : ∀ j, Av x γ w j → Av x γ (w.setRow b (cur.toList.take ((wo win + i.toNat) * e.nc + off) ++ (a.eval y).cells.toList ++ cur.toList.drop ((wo win + i.toNat) * e.nc + off + (a.eval y).cells.toList.length)).toArray) j ∧
              (w.setRow b (cur.toList.take ((wo win + i.toNat) * e.nc + off) ++ (a.eval y).cells.toList ++ cur.toList.drop ((wo win + i.toNat) * e.nc + off + (a.eval y).cells.toList.length)).toArray).heap[j]? = w.heap[j]? := fun j hj =>
            ⟨⟨by rw [setRow_size]; exact hj.1, hj.2.1, hj.2.2⟩, setRow_other w b j _ fun e => hj.2.2 k c (e ▸ hg)⟩
          refine ⟨fun hn => ?_, by simpa using hxc, _, et, setRow_heap w b cur _ et _ hb, ?_, ?_⟩
          · have := hne hn
            intro h0
            exact this (by simpa using congrArg List.length h0)
          · simp
            omega
          · intro j q hq
            rw [List.toList_toArray]
            by_cases hj : j = wo win + i.toNat
            · subst hj
              rw [splice_same _ _ (by omega) (by omega)]
              rw [List.getElem?_set, if_pos rfl, if_pos hlt] at hq
              cases hq
              have h5 := replaceR (CR.of_VRs e z _ (hel _ _ g3)) hc off
              exact VRs.of_ofC e _ _ _ hy (h5.mono (CR.mono hav))
            · rw [splice_other _ _ (by omega) (by omega) hj]
              rw [List.getElem?_set, if_neg (fun e => hj e.symm)] at hq
              exact VRs.mono hav e q _ (hel j q hq)
      · cases h
    · cases h
  · cases h

end Go.Vi
