/-
  Vi: operations that change nothing that is there. Part 7: look-ups, append to a tight slice, calls.
-/
import Derived.Test.YtombednapelokaaViP6
import Derived.Deep.AppendSrc
set_option linter.unusedVariables false
set_option linter.unusedSimpArgs false
namespace Go.Vi

section
variable {P : Program} {E : Env} {o : Oper} {ρv : Val} {H : Heap} {ρ : Type} {K : V → List (Nat × O) → Option ρ} {r : ρ} {x : Cx} {γ : Gam} {w : World} {a : Act}

/-! ## Maps -/

def valR (w : World) (A : Nat → Prop) (e : Sh) (y : e.den) (u : Value) : Prop := if e.agg = true then ∃ vs : List Value, u = .agg vs.toArray ∧ VRs w A e y vs else VRs w A e y [u]

theorem findNow_some {A : Nat → Prop} {kk : IntKind} {e : Sh} {n : Int} : ∀ (m : List (Int × e.den)) (es : List MapEntry) (i : Nat), All2 (entR w A kk e) m es →
    (∀ y, alook m n = some y → ∃ j u, Instr.findNow (.int kk) (.int kk n) es i = some (some (j, u)) ∧ valR w A e y u) ∧
    (alook m n = none → Instr.findNow (.int kk) (.int kk n) es i = some none)
  | [], [], i, _ => ⟨fun y h => by simp [alook] at h, fun _ => rfl⟩
  | p :: m, en :: es, i, h => by
    have hk : en.key = .int kk p.1 := h.1.1
    have ih := findNow_some (n := n) m es (i + 1) h.2
    by_cases hp : p.1 = n
    · have h1 : alook (p :: m) n = some p.2 := by simp [alook, List.find?, hp]
      refine ⟨fun y hy => ?_, fun hn => by rw [h1] at hn; cases hn⟩
      rw [h1] at hy
      cases hy
      refine ⟨i, en.val, ?_, h.1.2⟩
      simp [Instr.findNow, hk, Instr.sameNow, hp]
    · have h1 : alook (p :: m) n = alook m n := by
        have : (p.1 == n) = false := by simpa using hp
        simp [alook, List.find?, this]
      have h2 : Instr.findNow (.int kk) (.int kk n) (en :: es) i = Instr.findNow (.int kk) (.int kk n) es (i + 1) := by
        have : (n == p.1) = false := by simpa using fun e => hp e.symm
        simp [Instr.findNow, hk, Instr.sameNow, this]
      rw [h1, h2]
      exact ih
  | [], _ :: _, _, h => h.elim
  | _ :: _, [], _, h => h.elim

theorem run_checkKey' {kt : TypeId} {kk : IntKind} {n : Int} {b : Bool} (d : Nat) (hk : P.underlying kt = some (.int kk)) : (Instr.checkKey b (d + 1) kt (.int kk n)).run P w = .ok () w := by
  simp only [Instr.checkKey, Sem.run_bind, run_underlying hk, Result.andThen_ok, Sem.run_pure]

theorem run_checkKey {kt : TypeId} {kk : IntKind} {n : Int} {b : Bool} (hk : P.underlying kt = some (.int kk)) : (Instr.checkKey b 10000 kt (.int kk n)).run P w = .ok () w := by
  have h := run_checkKey' (w := w) (n := n) (b := b) 9999 hk
  exact h

theorem run_findKey {A : Nat → Prop} {kt : TypeId} {kk : IntKind} {e : Sh} {n : Int} {m : List (Int × e.den)} {es : List MapEntry} (hk : P.underlying kt = some (.int kk)) (h : All2 (entR w A kk e) m es) :
    (∀ y, alook m n = some y → ∃ j u, (Instr.findKey kt (.int kk n) es).run P w = .ok (some (j, u)) w ∧ valR w A e y u) ∧
    (alook m n = none → (Instr.findKey kt (.int kk n) es).run P w = .ok none w) := by
  obtain ⟨h1, h2⟩ := findNow_some (n := n) m es 0 h
  refine ⟨fun y hy => ?_, fun hn => ?_⟩
  · obtain ⟨j, u, h3, h4⟩ := h1 y hy
    exact ⟨j, u, by simp [Instr.findKey, run_underlying hk, h3], h4⟩
  · simp [Instr.findKey, run_underlying hk, h2 hn]

theorem valR_VR {A : Nat → Prop} {e : Sh} {y : e.den} {u : Value} {v : V} (h : valR w A e y u) (hm : mkV e (cells e y) = some v) : VR γ w A H v u := by
  unfold valR at h
  by_cases ha : e.agg = true
  · rw [if_pos ha] at h
    obtain ⟨vs, rfl, h2⟩ := h
    have := mkV_VR (γ := γ) (H := H) hm (CR.of_VRs e y vs h2)
    rwa [if_pos ha] at this
  · rw [if_neg ha] at h
    have := mkV_VR (γ := γ) (H := H) hm (CR.of_VRs e y [u] h)
    rwa [if_neg ha] at this

theorem zero_valR {A : Nat → Prop} {et : TypeId} {e : Sh} (hb : Base P et e) : ∃ z, (zeroValue et).run P w = .ok z w ∧ valR w A e (zero e) z := by
  obtain ⟨i, d, z, hi, hd, hsz, hby, hz, hzz, ha⟩ := hb.ex
  have hzv := hb.zag i z hi hz
  refine ⟨z, by simp [zeroValue, typeInfo, hi, hz], ?_⟩
  have h1 := VRs.of_ofC (w := w) (A := A) e _ _ _ (VRs_zero (A := A) e) (zeroB_all2 hzz)
  unfold valR
  split
  · rename_i hag
    rw [hag] at hzv
    cases z <;> simp [isAggV] at hzv
    rename_i cs
    exact ⟨cs.toList, by simp, by simpa [Value.cells] using h1⟩
  · rename_i hag
    have : isAggV z = false := by rw [hzv]; simpa using hag
    have hc : z.cells.toList = [z] := by cases z <;> simp_all [isAggV, Value.cells]
    rwa [hc] at h1

theorem VR_one {v : V} {u : Value} {A : Nat → Prop} {e : Sh} {cs : List C} (hm : mkV e cs = some v) (h : VR γ w A H v u) : VR1 γ w A H v u := by
  unfold mkV at hm
  cases ha : e.agg <;> rw [ha] at hm
  · simp only [cond_false] at hm
    split at hm
    · cases hm
      exact h
    · cases hm
  · simp only [cond_true, Option.some.injEq] at hm
    subst hm
    exact h

theorem P_lookup {t : TypeId} {y z : Operand} {ok : Bool} (hT : TabOK P E.T) (ho : o.op = .lookup t y z ok) (h : evalP E o ρv H ρ K = some r) (hi : Inv x γ H w) (hv : Ops ρv H x γ w a) : Good P o H K r x γ w a := by
  simp only [evalP, ho] at h
  split at h
  · rename_i k kk n kk2 e2 h1 h2 hm
    obtain ⟨b, c, hg, e1⟩ := hv _ _ h1
    have e3 := VR_int (hv _ _ h2)
    split at h
    · rename_i kk' e m hH
      obtain ⟨hd, h0⟩ := cond_some h rfl
      clear h
      simp only [Bool.and_eq_true, decide_eq_true_eq] at hd
      obtain ⟨⟨d1, d2⟩, d3⟩ := hd
      subst d1
      subst d2
      subst d3
      split at h0
      · rename_i v hmv
        obtain ⟨ob, hob, hR⟩ := hi.own k _ hg
        rw [hH] at hob
        cases hob
        obtain ⟨es, clock, hb, hes⟩ := hR
        obtain ⟨kt, et, hu, hk, hbe⟩ := hT.maps t kk2 e2 hm
        have hget : (getObj b).run P w = .ok (.map es clock) w := by simp [getObj, Sem.run, hb]
        obtain ⟨f1, f2⟩ := run_findKey (P := P) (w := w) (n := n) hk hes
        have key : ∃ u, (execOp a.eval o).run P w = .ok (.value (if ok = true then .tuple #[u, .bool (alook m n).isSome] else u)) w ∧ valR w (Av x γ w) e2 ((alook m n).getD (zero e2)) u := by
          cases hl : alook m n with
          | some q =>
            obtain ⟨j, u, g1, g2⟩ := f1 q hl
            refine ⟨u, ?_, g2⟩
            simp only [execOp, ho, Instr.lookup, e1, e3, Sem.run_bind, run_underlying hu, Result.andThen_ok, hget, Sem.run_pure, run_checkKey hk, g1]
            cases ok <;> rfl
          | none =>
            obtain ⟨z0, g1, g2⟩ := zero_valR (w := w) (A := Av x γ w) hbe
            refine ⟨z0, ?_, g2⟩
            simp only [execOp, ho, Instr.lookup, e1, e3, Sem.run_bind, run_underlying hu, Result.andThen_ok, hget, Sem.run_pure, run_checkKey hk, f2 hl, g1]
            cases ok <;> rfl
        obtain ⟨u, hrun, hval⟩ := key
        have hvr := valR_VR (γ := γ) (H := H) hval hmv
        cases ok with
        | true =>
          refine good_same h0 hi hrun ⟨[u, .bool (alook m n).isSome], rfl, VR_one hmv hvr, rfl, trivial⟩
        | false => exact good_same h0 hi hrun hvr
      · cases h0
    · cases h
  · cases h

/-! ## The cells of a slice -/

theorem elems_cells {v : V} {u : Value} {e : Sh} {xs : List e.den} (hnc : 0 < e.nc) (hi : Inv x γ H w) (hv : VR γ w (Av x γ w) H v u) (h : elems H v = some ⟨e, xs⟩) :
    ∃ ad cap cs, u = .slice ad xs.length cap ∧ xs.length ≤ cap ∧ RowsR w (Av x γ w) e xs cs ∧
      (xs = [] ∨ ∃ b oo cur et fz, ad = some ⟨b, oo, none⟩ ∧ w.heap[b]? = some (.cells cur et fz) ∧ oo + xs.length * e.nc ≤ cur.size ∧ cs = (cur.toList.drop oo).take (xs.length * e.nc)) := by
  have rows : ∀ (b oo : Nat) (cur : Array Value) (ys : List e.den), oo + ys.length * e.nc ≤ cur.size → (∀ i y, ys[i]? = some y → VRs w (Av x γ w) e y ((cur.toList.drop (oo + i * e.nc)).take e.nc)) →
      RowsR w (Av x γ w) e ys ((cur.toList.drop oo).take (ys.length * e.nc)) := by
    intro b oo cur ys hl hel
    refine ⟨by simp; omega, fun i y hy => ?_⟩
    have hin := (List.getElem?_eq_some_iff.1 hy).1
    have hb : i * e.nc + e.nc ≤ ys.length * e.nc := by
      have := Nat.mul_le_mul_right e.nc (show i + 1 ≤ ys.length by omega)
      rwa [Nat.add_mul, Nat.one_mul] at this
    rw [List.drop_take, List.take_take, Nat.min_eq_left (by omega), List.drop_drop]
    exact hel i y hy
  unfold elems at h
  split at h
  · rename_i k win tt
    split at h
    · rename_i xe xs0 n hH
      obtain ⟨i, e0, xs1, nilE, hg, hH', hsl⟩ := hv
      rw [hH] at hH'
      cases hH'
      cases h
      obtain ⟨ob, hob, hR⟩ := hi.own k _ hg
      rw [hH] at hob
      cases hob
      cases i with
      | emp =>
        obtain ⟨ad, e1, _, h0, h1⟩ := hsl
        have hx : view win xs0 = [] := by
          apply List.eq_nil_of_length_eq_zero
          cases win <;> simp [view, h0]
        refine ⟨ad, 0, [], by rw [hx]; exact e1, by rw [hx]; exact Nat.le_refl _, by rw [hx]; exact ⟨by simp, by simp⟩, .inl hx⟩
      | «at» b c =>
        obtain ⟨_, hxc, cur, et, hb, hsz, hel⟩ := hR
        cases win with
        | none =>
          obtain ⟨g1, g2, g3⟩ := hsl
          have hle : 0 + xs0.length * e.nc ≤ cur.size := by
            have := Nat.mul_le_mul_right e.nc hxc
            omega
          refine ⟨_, _, _, g1, g2, rows b 0 cur xs0 hle (fun i y hy => by rw [Nat.zero_add]; exact hel i y hy), .inr ⟨b, 0, cur, et, (0, 0), rfl, hb, hle, rfl⟩⟩
        | some p =>
          obtain ⟨p, l⟩ := p
          obtain ⟨oo, cap, g1, g2, g3, g4, g5, g6, g7⟩ := hsl
          have hl : (view (some (p, l)) xs0).length = l := by simp [view]; omega
          by_cases hl0 : l = 0
          · have hx : view (some (p, l)) xs0 = [] := List.eq_nil_of_length_eq_zero (by omega)
            refine ⟨_, cap, [], by rw [hl]; exact g1, by omega, by rw [hx]; exact ⟨by simp, by simp⟩, .inl hx⟩
          · have hoo := g6 (by omega)
            have hle : oo + (view (some (p, l)) xs0).length * e.nc ≤ cur.size := by
              rw [hl, hoo, ← Nat.add_mul]
              have := Nat.mul_le_mul_right e.nc (show p + l ≤ c by omega)
              omega
            refine ⟨_, cap, _, by rw [hl]; exact g1, by omega, rows b oo cur _ hle (fun i y hy => ?_), .inr ⟨b, oo, cur, et, (0, 0), rfl, hb, hle, rfl⟩⟩
            obtain ⟨v1, v2⟩ := view_get hy
            rw [hoo, ← Nat.add_mul]
            exact hel _ y v1
    · cases h
  · cases h
    obtain ⟨ad, cap, h1, h2, _, hrow⟩ := hv
    rcases hrow with rfl | ⟨b, oo, cur, et, fz, rfl, hA, hb, hl, hel⟩
    · exact ⟨ad, cap, [], h1, h2, ⟨by simp, by simp⟩, .inl rfl⟩
    · exact ⟨_, cap, _, h1, h2, rows b oo cur _ hl hel, .inr ⟨b, oo, cur, et, fz, rfl, hb, hl, rfl⟩⟩
  · cases h

theorem RowsR.one {A : Nat → Prop} {e : Sh} {xs : List e.den} {cs : List Value} (h : RowsR w A e xs cs) : ∀ u ∈ cs, u.oneCell' = true := by
  intro u hu
  obtain ⟨j, hj⟩ := List.getElem?_of_mem hu
  rcases Nat.eq_zero_or_pos e.nc with h0 | h0
  · have := h.1
    rw [h0, Nat.mul_zero] at this
    have := (List.getElem?_eq_some_iff.1 hj).1
    omega
  · have hlt := (List.getElem?_eq_some_iff.1 hj).1
    rw [h.1] at hlt
    have hq : j / e.nc < xs.length := Nat.div_lt_of_lt_mul (by rwa [Nat.mul_comm] at hlt)
    have hr := h.2 (j / e.nc) xs[j / e.nc] (by simp [hq])
    refine All2.oneCell (CR.of_VRs e _ _ hr) u ?_
    have hdm : j / e.nc * e.nc + j % e.nc = j := by rw [Nat.mul_comm]; exact Nat.div_add_mod j e.nc
    have : ((cs.drop (j / e.nc * e.nc)).take e.nc)[j % e.nc]? = some u := by
      rw [List.getElem?_take, if_pos (Nat.mod_lt _ h0), List.getElem?_drop, hdm]
      exact hj
    exact List.mem_of_getElem? this

theorem src_of {A : Nat → Prop} {e : Sh} {xs : List e.den} {ad : Option Addr} {cap : Nat} {cs : List Value} {tx ex : TypeId} (hk : P.underlying tx = some (.slice ex)) (hr : RowsR w A e xs cs)
    (hc : xs = [] ∨ ∃ b oo cur et fz, ad = some ⟨b, oo, none⟩ ∧ w.heap[b]? = some (.cells cur et fz) ∧ oo + xs.length * e.nc ≤ cur.size ∧ cs = (cur.toList.drop oo).take (xs.length * e.nc)) :
    Src P e.nc tx (.slice ad xs.length cap) xs.length cs w := by
  rcases hc with rfl | ⟨b, oo, cur, et, fz, rfl, hb, hl, rfl⟩
  · have hcs : cs = [] := List.eq_nil_of_length_eq_zero (by have := hr.1; simpa using this)
    subst hcs
    cases ad with
    | none => exact Src.ofNil w hk cap
    | some ad => exact Src.ofSlice w hk ad 0 cap [] (by simp) (by simp) (by simp)
  · refine Src.ofSlice w hk ⟨b, oo, none⟩ xs.length cap _ (by simp; omega) (fun j u hj => ?_) hr.one
    rw [add_eq, cell_row hb]
    rw [List.getElem?_take] at hj
    split at hj
    · simpa using hj
    · cases hj

theorem castL_eq {e e' : Sh} {xs : List e'.den} {ys : List e.den} (h : castL e' e xs = some ys) : ∃ he : e' = e, he ▸ xs = ys := by
  unfold castL at h
  split at h
  · rename_i he
    exact ⟨he, Option.some.inj h⟩
  · cases h

theorem elemsAs_eq {e : Sh} {v : V} {xs : List e.den} (h : elemsAs e H v = some xs) : elems H v = some ⟨e, xs⟩ := by
  unfold elemsAs at h
  split at h
  · rename_i e' xs' h1
    obtain ⟨he, h2⟩ := castL_eq h
    subst he
    subst h2
    exact h1
  · cases h

theorem RowsR.append {A : Nat → Prop} {e : Sh} {xs ys : List e.den} {cs ds : List Value} (h : RowsR w A e xs cs) (h' : RowsR w A e ys ds) : RowsR w A e (xs ++ ys) (cs ++ ds) := by
  refine ⟨by rw [List.length_append, List.length_append, h.1, h'.1, Nat.add_mul], fun i y hy => ?_⟩
  rw [List.getElem?_append] at hy
  split at hy
  · rename_i hlt
    have hb : i * e.nc + e.nc ≤ cs.length := by
      rw [h.1]
      have := Nat.mul_le_mul_right e.nc (show i + 1 ≤ xs.length by omega)
      rwa [Nat.add_mul, Nat.one_mul] at this
    rw [List.drop_append_of_le_length (by omega), List.take_append_of_le_length (by simp; omega)]
    exact h.2 i y hy
  · rename_i hge
    have hb : cs.length ≤ i * e.nc := by
      rw [h.1]
      exact Nat.mul_le_mul_right e.nc (by omega)
    have : (cs ++ ds).drop (i * e.nc) = ds.drop ((i - xs.length) * e.nc) := by
      rw [List.drop_append, List.drop_of_length_le hb, List.nil_append]
      congr 1
      rw [h.1, Nat.sub_mul]
    rw [this]
    exact h'.2 _ y hy

/-- A row that an append makes anew. -/
theorem grow_res {e : Sh} {xs ys : List e.den} {ad : Option Addr} {cap : Nat} {cs ds : List Value} {t tx ty et ex : TypeId} {uy : Value} (hnc : 0 < e.nc) (hu : P.underlying t = some (.slice et)) (hbe : Base P et e)
    (hxs : RowsR w (Av x γ w) e xs cs) (hc : xs = [] ∨ ∃ b oo cur et fz, ad = some ⟨b, oo, none⟩ ∧ w.heap[b]? = some (.cells cur et fz) ∧ oo + xs.length * e.nc ≤ cur.size ∧ cs = (cur.toList.drop oo).take (xs.length * e.nc))
    (hys : RowsR w (Av x γ w) e ys ds) (hs : Src P e.nc tx uy ys.length ds w) (hlim : xs.length + ys.length ≤ lim) (hgrow : cap < xs.length + ys.length) :
    ∃ c' w', (Builtin.append_ #[t, tx] ty #[.slice ad xs.length cap, uy]).run P w = .ok (.slice (some ⟨w.heap.size, 0, none⟩) (xs.length + ys.length) c') w' ∧ Grows w w' ∧ w.heap.size < w'.heap.size ∧
      ∃ cur, w'.heap[w.heap.size]? = some (.cells cur et (0, 0)) ∧ xs.length + ys.length ≤ c' ∧ c' * e.nc ≤ cur.size ∧ ∀ i y, (xs ++ ys)[i]? = some y → VRs w (Av x γ w) e y ((cur.toList.drop (i * e.nc)).take e.nc) := by
  obtain ⟨ii, d, zz, hii, hd, hsz, hby, hz, hzz, hag⟩ := hbe.ex
  have hlim' : xs.length + ys.length ≤ 1073741824 := hlim
  have hzl : zz.cells.size = e.nc := by
    have := (zeroB_all2 (w := w) (A := fun _ => True) hzz).length
    rw [cells_length] at this
    simpa using this.symm
  have hold : (Builtin.firstCells ii.size xs.length (.slice ad xs.length cap)).run P w.drew = .ok cs.toArray w.drew := by
    rw [hsz]
    exact (src_of (cap := cap) hu hxs hc).cellsD
  rw [← hsz] at hs
  have hfit : Builtin.nextslicecap (xs.length + ys.length) cap * ii.bytes ≤ 281474976710656 := by
    refine growslice_fits hgrow ?_
    have := Nat.mul_le_mul hlim' hby
    omega
  have hrun := run_append_grow_src (P := P) w t tx ty et ii zz hu hii hz ad xs.length cap cs hold uy ys.length ds hs hgrow (by omega) hfit
  have hge := grownCap_ge w (xs.length + ys.length) cap et
  refine ⟨_, _, hrun, (Grows.drew w).trans (Grows.alloc _ _), by simp, _, heap_new w.drew _, hge, ?_, fun i y hy => ?_⟩
  · simp only [Array.size_append, List.size_toArray, List.length_append, hxs.1, hys.1, size_zeroCells, hzl, ← Nat.add_mul]
    exact Nat.mul_le_mul_right _ (by omega)
  · have hin := (List.getElem?_eq_some_iff.1 hy).1
    simp only [List.length_append] at hin
    have hb : i * e.nc + e.nc ≤ (cs ++ ds).length := by
      rw [List.length_append, hxs.1, hys.1, ← Nat.add_mul]
      have := Nat.mul_le_mul_right e.nc (show i + 1 ≤ xs.length + ys.length by omega)
      rwa [Nat.add_mul, Nat.one_mul] at this
    simp only [Array.toList_append]
    rw [List.drop_append_of_le_length (by omega), List.take_append_of_le_length (by simp at hb ⊢; omega)]
    exact (hxs.append hys).2 i y hy

theorem P_append {c : Call} (hT : TabOK P E.T) (ho : o.op = .call c) (hc : c.callee = .builtin .append) (h : evalP E o ρv H ρ K = some r) (hi : Inv x γ H w) (hv : Ops ρv H x γ w a) : Good P o H K r x γ w a := by
  simp only [evalP, ho, hc] at h
  split at h
  · rename_i y z t tx hargs htys
    have hargs' : c.args.map a.eval = #[a.eval y, a.eval z] := by
      apply Array.ext'
      simp [hargs]
    have htys' : c.argTypes = #[t, tx] := by
      apply Array.ext'
      simp [htys]
    split at h
    · rename_i e ex0 e2 ys2 hs hsx hz
      obtain ⟨vz, hvz, hez⟩ := Option.bind_eq_some_iff.1 hz
      obtain ⟨et, hu, hbe, hnc⟩ := (hT.sh t _ hs).sl e rfl
      obtain ⟨ext, hux, _⟩ := (hT.sh tx _ hsx).sl _ rfl
      split at h
      · rename_i ys vy hcast hvy
        obtain ⟨he, hys⟩ := castL_eq hcast
        subst he
        have hys : ys2 = ys := hys
        subst hys
        obtain ⟨adz, capz, ds, ez, hcz, hrz, hlz⟩ := elems_cells hnc hi (hv _ _ hvz) hez
        have hsrc : Src P e2.nc tx (a.eval z) ys2.length ds w := by rw [ez]; exact src_of hux hrz hlz
        -- what the two kinds of a tight slice have in common
        have main : ∀ (xs : List e2.den) (ad : Option Addr) (cs : List Value), a.eval y = .slice ad xs.length xs.length → RowsR w (Av x γ w) e2 xs cs →
            (xs = [] ∨ ∃ b oo cur et fz, ad = some ⟨b, oo, none⟩ ∧ w.heap[b]? = some (.cells cur et fz) ∧ oo + xs.length * e2.nc ≤ cur.size ∧ cs = (cur.toList.drop oo).take (xs.length * e2.nc)) →
            (bif decide (xs.length + ys2.length ≤ lim) && (xs.isEmpty || !ys2.isEmpty) then K (.own (dstKey o.dst) none false) [(dstKey o.dst, .arr e2 (xs ++ ys2) false)] else none) = some r → Good P o H K r x γ w a := by
          intro xs ad cs ey hrx hlx hk
          obtain ⟨hd, hk⟩ := cond_some hk rfl
          simp only [Bool.and_eq_true, decide_eq_true_eq] at hd
          obtain ⟨d1, d2⟩ := hd
          by_cases hye : ys2 = []
          · subst hye
            have hxe : xs = [] := by simpa using d2
            subst hxe
            have hds : ds = [] := List.eq_nil_of_length_eq_zero (by have := hrz.1; simpa using this)
            subst hds
            have hrun : (execOp a.eval o).run P w = .ok (.value (.slice ad 0 0)) w := by
              obtain ⟨ii, d, zz, hii, hd, hsz, _⟩ := hbe.ex
              refine exec_builtin ho hc ?_
              have hcells := hsrc.cells
              rw [hargs', htys', ey]
              simp only [List.length_nil] at hcells ⊢
              cases ad with
              | none => simp [builtin, Builtin.append_, run_underlying hu, run_underlying hux, run_sizeOf' hii, hsrc.len, hsz, hcells]
              | some ad => simp [builtin, Builtin.append_, run_underlying hu, run_underlying hux, run_sizeOf' hii, hsrc.len, hsz, hcells, storeCells]
            refine ⟨_, _, hk, .inl ⟨_, w, hrun, Res.new (i := .emp) hi (Grows.refl w) (by simp) rfl ?_⟩⟩
            exact ⟨.emp, e2, [] ++ [], false, by simp [gset], by simp [upd], ad, rfl, by simp, rfl, by simp⟩
          · have hgrow : xs.length < xs.length + ys2.length := by
              have := List.length_pos_iff.2 hye
              omega
            obtain ⟨c', w', hrun, hg, hlt, cur, hb, hc', hcs, hel⟩ := grow_res (ty := o.type) (tx := tx) (ex := ext) hnc hu hbe hrx hlx hrz hsrc d1 hgrow
            have hrun' : (execOp a.eval o).run P w = .ok (.value (.slice (some ⟨w.heap.size, 0, none⟩) (xs.length + ys2.length) c')) w' := by
              refine exec_builtin ho hc ?_
              rw [hargs', htys', ey]
              simp only [builtin, Sem.run_bind, hrun, Result.andThen_ok, Sem.run_pure]
            refine ⟨_, _, hk, .inl ⟨_, _, hrun', Res.new (i := .at w.heap.size c') hi hg (by simpa using hlt) ?_ ?_⟩⟩
            · refine ⟨by simp, by simpa using hc', cur, et, hb, hcs, fun i q hq => VRs.mono (Av.set (by simp) hg) e2 q _ (hel i q hq)⟩
            · exact ⟨.at w.heap.size c', e2, xs ++ ys2, false, by simp [gset], by simp [upd], by simp, by simpa using hc', by simp⟩
        split at h
        · rename_i k win
          split at h
          · rename_i xs hxs
            obtain ⟨ad, cap, cs, e1, e2', e3, e4⟩ := elems_cells hnc hi (hv _ _ hvy) (elemsAs_eq hxs)
            have htight : cap = xs.length := by
              obtain ⟨i, e0, xs0, nilE, hg, hH, hsl⟩ := hv _ _ hvy
              have hel := elemsAs_eq hxs
              simp only [elems, hH, Option.some.injEq] at hel
              cases hel
              cases i with
              | emp =>
                obtain ⟨ad', g1, _, g3, g4⟩ := hsl
                rw [e1] at g1
                simp only [Value.slice.injEq] at g1
                omega
              | «at» b c =>
                cases win with
                | none =>
                  obtain ⟨g1, g2, g3⟩ := hsl
                  rw [e1] at g1
                  simp only [Value.slice.injEq] at g1
                  have := g3 rfl
                  show cap = xs0.length
                  omega
                | some p =>
                  obtain ⟨p, l⟩ := p
                  obtain ⟨oo, cap', g1, g2, g3, g4, g5, _⟩ := hsl
                  rw [e1] at g1
                  simp only [Value.slice.injEq] at g1
                  have := g5 rfl
                  omega
            rw [htight] at e1
            exact main xs ad cs e1 e3 e4 h
          · cases h
        · rename_i e' xs'
          split at h
          · rename_i xs hxs
            obtain ⟨he, hx⟩ := castL_eq hxs
            subst he
            have hx : xs' = xs := hx
            subst hx
            obtain ⟨ad, cap, cs, e1, e2', e3, e4⟩ := elems_cells (v := .c (.sl e' xs' true)) hnc hi (hv _ _ hvy) rfl
            obtain ⟨ad', cap', g1, g2, g3, _⟩ := hv _ _ hvy
            have htight : cap = xs'.length := by
              rw [e1] at g1
              simp only [Value.slice.injEq] at g1
              have := g3 rfl
              omega
            rw [htight] at e1
            exact main xs' ad cs e1 e3 e4 h
          · cases h
        · cases h
      · cases h
    · cases h
  · cases h

end
end Go.Vi
