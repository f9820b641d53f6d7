/-
  Vi: operations that change what is the call's own: an own slice is appended to.
-/
import Derived.Test.YtombednapelokaaViE2
import Derived.Deep.AppendSrc
set_option linter.unusedVariables false
set_option linter.unusedSimpArgs false
namespace Go.Vi
open Op

variable {P : Program} {E : Env} {o : Oper} {ρ : Type} {r : ρ} {x : Cx} {γ : Gam} {H : Heap} {w : World} {a : Act} {st : St} {K : St → Option ρ}

theorem inv_renew {w' : World} {k key b c c' : Nat} {ob' : O} (hi : Inv x γ H w) (hlo : key < pinLo) (hk : γ k = some (.at b c)) (ht : Turns b w w') (hob : objR w' (Av x γ w') ob' (.at b c')) :
    Inv x (gset (gdel γ [k]) key (.at b c')) (upd (eraAll H [k]) key ob') w' ∧
    ∀ y u, refs k y = false → refs key y = false → VR γ w (Av x γ w) H y u →
      VR (gset (gdel γ [k]) key (.at b c')) w' (Av x (gset (gdel γ [k]) key (.at b c')) w') (upd (eraAll H [k]) key ob') y u := by
  have hg : ∀ j i, gset (gdel γ [k]) key (.at b c') j = some i → (j = key ∧ i = .at b c') ∨ (j ≠ key ∧ j ≠ k ∧ γ j = some i) := by
    intro j i hj
    unfold gset at hj
    split at hj
    · rename_i h1
      cases hj
      exact .inl ⟨h1, rfl⟩
    · rename_i h1
      obtain ⟨h2, h3⟩ := gdel_some hj
      exact .inr ⟨h1, by simpa using h2, h3⟩
  have hav0 : ∀ j, Av x γ w' j → Av x (gset (gdel γ [k]) key (.at b c')) w' j := fun j hj => ⟨hj.1, hj.2.1, fun k' c'' hk' => by
    rcases hg k' _ hk' with ⟨h1, h2⟩ | ⟨h1, h2, h3⟩
    · cases h2
      exact hj.2.2 k c hk
    · exact hj.2.2 k' c'' h3⟩
  have hav : ∀ j, Av x γ w j → Av x (gset (gdel γ [k]) key (.at b c')) w' j ∧ w'.heap[j]? = w.heap[j]? := fun j hj =>
    ⟨hav0 j ⟨by rw [ht.size]; exact hj.1, hj.2.1, hj.2.2⟩, ht.blk j fun e => hj.2.2 k c (e ▸ hk)⟩
  have hH : ∀ j, j ≠ key → j ≠ k → upd (eraAll H [k]) key ob' j = H j := fun j h1 h2 => by
    rw [upd_ne _ _ h1, eraAll_get, if_neg (by simpa using h2)]
  have hgn : ∀ j, j ≠ key → j ≠ k → gset (gdel γ [k]) key (.at b c') j = γ j := fun j h1 h2 => by
    unfold gset
    rw [if_neg h1, gdel_ne (by simpa using h2)]
  refine ⟨⟨by rw [ht.size]; exact hi.size, ht.os.trans hi.os, ht.tape.trans hi.tape, ht.output.trans hi.output, ?_, ?_, ?_, ?_, ?pin⟩, ?_⟩
  case pin =>
    intro j i hp hHj
    have hjk : j ≠ key := fun e => by
      have := x.pinlo j i hp
      omega
    by_cases hj2 : j = k
    · subst hj2
      rw [upd_ne _ _ hjk, eraAll_get, if_pos (by simp)] at hHj
      exact absurd rfl hHj
    · rw [hH j hjk hj2] at hHj
      rw [hgn j hjk hj2]
      exact hi.pin j i hp hHj
  · intro j hj hm
    refine (ht.blk j fun e => ?_).trans (hi.blk j hj hm)
    subst e
    rcases (hi.rng k j c hk).1 with h | h
    · omega
    · exact hm h
  · intro j i hj
    rcases hg j i hj with ⟨rfl, rfl⟩ | ⟨h1, h2, h3⟩
    · exact ⟨ob', upd_self _ _ _, objR.mono (fun q hq => ⟨hav0 q hq, rfl⟩) _ _ (fun _ _ _ => rfl) hob⟩
    · obtain ⟨ob2, h4, h5⟩ := hi.own j i h3
      refine ⟨ob2, (hH j h1 h2).trans h4, objR.mono hav _ _ (fun b' c'' hb => ht.blk b' fun e => ?_) h5⟩
      subst e
      exact h2 (hi.inj j k b' c'' c (hb ▸ h3) hk)
  · intro j b' c'' hj
    rw [ht.size]
    rcases hg j _ hj with ⟨_, h2⟩ | ⟨_, _, h3⟩
    · cases h2
      exact hi.rng k b c hk
    · exact hi.rng j b' c'' h3
  · intro j j' b' c1 c2 hj hj'
    rcases hg j _ hj with ⟨h1, h2⟩ | ⟨h1, h2, h3⟩ <;> rcases hg j' _ hj' with ⟨g1, g2⟩ | ⟨g1, g2, g3⟩
    · exact h1.trans g1.symm
    · cases h2
      exact absurd (hi.inj j' k b c2 c g3 hk) g2
    · cases g2
      exact absurd (hi.inj j k b c1 c h3 hk) h2
    · exact hi.inj j j' b' c1 c2 h3 g3
  · intro y u h1 h2 hv
    refine VR.key (ks := [key, k]) (fun j hj => ?_) (fun j hj => ?_) y u (fun q hq => ?_) (VR.mono hav y u hv)
    · simp only [List.mem_cons, List.not_mem_nil, or_false, not_or] at hj
      exact hgn j hj.1 hj.2
    · simp only [List.mem_cons, List.not_mem_nil, or_false, not_or] at hj
      exact hH j hj.1 hj.2
    · simp only [List.mem_cons, List.not_mem_nil, or_false] at hq
      rcases hq with rfl | rfl
      · exact h2
      · exact h1

theorem rs_renew {w' : World} {k key b c c' : Nat} {ob' : O} {v : V} {u : Value} {dst : Option Tmp} (h : RS x γ st a w) (hk : γ k = some (.at b c)) (ht : Turns b w w') (hob : objR w' (Av x γ w') ob' (.at b c'))
    (hd : dead (drop st [k]) dst key = true)
    (hv : VR (gset (gdel γ [k]) key (.at b c')) w' (Av x (gset (gdel γ [k]) key (.at b c')) w') (upd (eraAll st.hp [k]) key ob') v u) :
    RS x (gset (gdel γ [k]) key (.at b c')) { tm := (put (drop st [k]) dst v).tm, hp := updAll (drop st [k]).hp [(key, ob')] } (a.put dst u) w' := by
  obtain ⟨hlo, hd⟩ := dead_spec hd
  obtain ⟨h1, h2⟩ := inv_renew (key := key) h.inv hlo hk ht hob
  have old : ∀ t y, (drop st [k]).tm[t]? = some y → refs key y = false →
      VR (gset (gdel γ [k]) key (.at b c')) w' (Av x (gset (gdel γ [k]) key (.at b c')) w') (upd (eraAll st.hp [k]) key ob') y (a.tmps.getD t undef) := by
    intro t y hy hr
    simp only [Vi.drop, cleanTm_get, Option.map_eq_some_iff] at hy
    obtain ⟨z, hz, hzy⟩ := hy
    cases hzk : anyRefs [k] z with
    | true =>
      rw [hzk] at hzy
      simp only [cond_true] at hzy
      subst hzy
      trivial
    | false =>
      rw [hzk] at hzy
      simp only [cond_false] at hzy
      subst hzy
      exact h2 z _ (by simpa [anyRefs] using hzk) hr (h.tm t z hz)
  have hlen : (drop st [k]).tm.length = st.tm.length := by simp [Vi.drop, cleanTm_length]
  refine ⟨h1, ?_, ?_, ?_⟩
  · rw [put_size, ← h.len, ← hlen]
    cases dst <;> simp [put]
  · intro t y hy
    cases dst with
    | none =>
      simp only [put] at hy
      exact old t y hy (noRef_get (by simpa [put] using hd) hy)
    | some d =>
      rw [put_getD]
      simp only [put, List.getElem?_set] at hy
      split at hy
      · rename_i hdt
        split at hy
        · rename_i hlt
          cases hy
          rw [if_pos ⟨hdt.symm, by rw [← h.len, ← hlen]; exact hlt⟩]
          exact hv
        · cases hy
      · rename_i hdt
        rw [if_neg (fun e => hdt e.1.symm)]
        refine old t y hy (noRef_get (tm := (drop st [k]).tm.set d .undef) (by simpa [put] using hd) (t := t) ?_)
        rw [List.getElem?_set, if_neg hdt]
        exact hy
  · rw [put_defers]; exact h.nod

theorem cells_eq_row {b off : Nat} {cur : Array Value} {et : TypeId} (P : Program) (h : w.heap[b]? = some (.cells cur et (0, 0))) (ds : List Value) (hl : off + ds.length ≤ cur.size) (h1 : ∀ v ∈ ds, v.oneCell' = true) :
    w.setCells b off ds = w.setRow b (cur.toList.take off ++ ds ++ cur.toList.drop (off + ds.length)).toArray ∧ (∀ j, j < ds.length → (w.cell? ⟨b, off + j, none⟩).isSome = true) ∧ (∀ j, j < ds.length → w.frozen? ⟨b, off + j, none⟩ = false) := by
  have hc : ∀ j, j < ds.length → (w.cell? ⟨b, off + j, none⟩).isSome = true := fun j hj => by
    rw [cell_row h]
    simp
    omega
  have hf : ∀ j, j < ds.length → w.frozen? ⟨b, off + j, none⟩ = false := fun j hj => by simp [World.frozen?, h]
  refine ⟨?_, hc, hf⟩
  have h2 := run_storeCells_at P b off et ds 0 cur w h (by omega) h1
  have h3 := run_storeCells_cells (P := P) b off ds 0 w (by simpa using hc) (by simpa using hf) h1
  rw [h2] at h3
  simp only [Nat.add_zero, Result.ok.injEq, true_and] at h3
  exact h3.symm

theorem E_append {c : Call} (hT : TabOK P E.T) (ho : o.op = .call c) (hc : c.callee = .builtin .append) (h : evalE E o st ρ K = some r) (hr : RS x γ st a w) : Eff P o K r x a w := by
  have hv := hr.ops'
  simp only [evalE, ho, hc] at h
  split at h
  · rename_i y z t tx hargs htys
    have hargs' : c.args.map a.eval = #[a.eval y, a.eval z] := by
      apply Array.ext'
      simp [hargs]
    have htys' : c.argTypes = #[t, tx] := by
      apply Array.ext'
      simp [htys]
    split at h
    · rename_i e ex0 e2 ys2 hs hsx hz
      obtain ⟨vz, hvz, hez⟩ := Option.bind_eq_some_iff.1 hz
      obtain ⟨et, hu, hbe, hnc⟩ := (hT.sh t _ hs).sl e rfl
      obtain ⟨ext, hux, _⟩ := (hT.sh tx _ hsx).sl _ rfl
      split at h
      · rename_i ys k win hcast hvy
        obtain ⟨he, hys⟩ := castL_eq hcast
        subst he
        have hys : ys2 = ys := hys
        subst hys
        split at h
        · rename_i e' xs' nilE hH
          split at h
          · rename_i xs hxs
            obtain ⟨he, hx⟩ := castL_eq hxs
            subst he
            have hx : view win xs' = xs := hx
            subst hx
            obtain ⟨hd, h⟩ := cond_some h rfl
            simp only [Bool.and_eq_true, decide_eq_true_eq] at hd
            obtain ⟨⟨d1, d3⟩, d2⟩ := hd
            have hvr := hv _ _ hvy
            obtain ⟨adz, capz, ds, ez, hcz, hrz, hlz⟩ := elems_cells hnc hr.inv (hv _ _ hvz) hez
            have hsrc : Src P e'.nc tx (a.eval z) ys2.length ds w := by rw [ez]; exact src_of hux hrz hlz
            obtain ⟨ad, cap, cs, e1, e2, e3, e4⟩ := elems_cells (v := .own k win false) (xs := view win xs') hnc hr.inv hvr (by simp only [elems, hH])
            obtain ⟨i, e0, xs0, nilE0, hg, hH', hsl⟩ := hvr
            rw [hH] at hH'
            cases hH'
            rw [hset_put] at h
            have hdrop := hr.drop [k]
            have hA : ∀ b, Av x γ w b → Av x (gdel γ [k]) w b := fun b hb => A0k_del hr.inv (.inl hb)
            by_cases hroom : cap < (view win xs').length + ys2.length
            · -- a new row
              obtain ⟨c', w', hrun, hgw, hlt, cur, hb, hc', hcs, hel⟩ := grow_res (ty := o.type) (tx := tx) (ex := ext) hnc hu hbe e3 e4 hrz hsrc d2 hroom
              have hrun' : (execOp a.eval o).run P w = .ok (.value (.slice (some ⟨w.heap.size, 0, none⟩) ((view win xs').length + ys2.length) c')) w' := by
                refine exec_builtin ho hc ?_
                rw [hargs', htys', e1]
                simp only [builtin, Sem.run_bind, hrun, Result.andThen_ok, Sem.run_pure]
              refine ⟨_, h, .inl ⟨_, _, hrun', hdrop.step (by simpa using d1) (Res.new (i := .at w.heap.size c') hdrop.inv hgw (by simpa using hlt) ?_ ?_)⟩⟩
              · refine ⟨fun hn h0 => ?_, by simpa using hc', cur, et, hb, hcs, fun i q hq => VRs.mono (fun j hj => Av.set (by simp) hgw j (hA j hj)) e' q _ (hel i q hq)⟩
                have := congrArg List.length h0
                simp only [List.length_append, List.length_nil] at this
                cases i with
                | emp =>
                  obtain ⟨ad', g1, g2, g3, g4⟩ := hsl
                  rw [e1] at g1
                  simp only [Value.slice.injEq] at g1
                  omega
                | «at» b c =>
                  omega
              · exact ⟨.at w.heap.size c', e', view win xs' ++ ys2, _, by simp [gset], upd_self _ _ _, by simp, by simpa using hc', by simp⟩
            · cases i with
              | emp =>
                -- nothing is appended to nothing
                obtain ⟨ad', g1, g2, g3, g4⟩ := hsl
                rw [e1] at g1
                simp only [Value.slice.injEq] at g1
                obtain ⟨rfl, g5, g6⟩ := g1
                have hxe : view win xs' = [] := List.eq_nil_of_length_eq_zero g5
                have hye : ys2 = [] := List.eq_nil_of_length_eq_zero (by omega)
                subst hye
                rw [hxe] at h e1 hroom
                subst g6
                have hds : ds = [] := List.eq_nil_of_length_eq_zero (by have := hrz.1; simpa using this)
                subst hds
                have hrun : (execOp a.eval o).run P w = .ok (.value (.slice ad 0 0)) w := by
                  obtain ⟨ii, d, zz, hii, hd, hsz, _⟩ := hbe.ex
                  refine exec_builtin ho hc ?_
                  have hcells := hsrc.cells
                  rw [hargs', htys', e1]
                  simp only [List.length_nil] at hcells ⊢
                  cases ad with
                  | none => simp [builtin, Builtin.append_, run_underlying hu, run_underlying hux, run_sizeOf' hii, hsrc.len, hsz, hcells]
                  | some ad => simp [builtin, Builtin.append_, run_underlying hu, run_underlying hux, run_sizeOf' hii, hsrc.len, hsz, hcells, storeCells]
                refine ⟨_, h, .inl ⟨_, w, hrun, hdrop.step (by simpa using d1) (Res.new (i := .emp) hdrop.inv (Grows.refl w) (by simp) rfl ?_)⟩⟩
                refine ⟨.emp, e', [] ++ [], _, by simp [gset], upd_self _ _ _, ad, rfl, fun hn => ?_, rfl, by simp⟩
                simp only [Bool.and_eq_true] at hn
                exact g2 hn.1
              | «at» b c0 =>
                -- there is room
                have hsl' : ad = some ⟨b, 0, none⟩ ∧ wo win = 0 ∧ cap ≤ c0 ∧ (win = none → cap = c0) := by
                  cases win with
                  | none =>
                    obtain ⟨g1, g2, g3⟩ := hsl
                    rw [e1] at g1
                    simp only [Value.slice.injEq] at g1
                    exact ⟨g1.1, rfl, by omega, fun _ => g1.2.2⟩
                  | some p =>
                    obtain ⟨p, l⟩ := p
                    obtain ⟨oo, cap', g1, g2, g3, g4, g5, g6, g7⟩ := hsl
                    rw [e1] at g1
                    simp only [Value.slice.injEq] at g1
                    have hp : p = 0 := Nat.eq_of_beq_eq_true d3
                    have := g7 hp
                    subst this
                    exact ⟨g1.1, hp, by omega, fun h => by cases h⟩
                obtain ⟨rfl, hw0, hcc, _⟩ := hsl'
                obtain ⟨ob, hob, hR⟩ := hr.inv.own k _ hg
                rw [hH] at hob
                cases hob
                obtain ⟨hne, hxc, cur, et', hb, hsz, hel⟩ := hR
                obtain ⟨ii, d, zz, hii, hd', hsz', _⟩ := hbe.ex
                have hdl := hrz.1
                have hcap : cap * e'.nc ≤ cur.size := Nat.le_trans (Nat.mul_le_mul_right _ hcc) hsz
                have hfit : (view win xs').length * e'.nc + ds.length ≤ cur.size := by
                  have := Nat.mul_le_mul_right e'.nc (show (view win xs').length + ys2.length ≤ cap by omega)
                  rw [Nat.add_mul] at this
                  omega
                obtain ⟨q1, q2, q3⟩ := cells_eq_row (off := (view win xs').length * e'.nc) P hb ds hfit hrz.one
                have hrun := run_append_room_src (P := P) (w := w) t tx o.type et ii hu hii b 0 (view win xs').length cap (a.eval z) ys2.length ds (by rw [hsz']; exact hsrc) (by omega)
                  (by simpa [hsz'] using q2) (by simpa [hsz'] using q3)
                simp only [Nat.zero_add, hsz', q1] at hrun
                have hrun' : (execOp a.eval o).run P w = .ok (.value (.slice (some ⟨b, 0, none⟩) ((view win xs').length + ys2.length) cap)) (w.setRow b (cur.toList.take ((view win xs').length * e'.nc) ++ ds ++ cur.toList.drop ((view win xs').length * e'.nc + ds.length)).toArray) := by
                  refine exec_builtin ho hc ?_
                  rw [hargs', htys', e1]
                  simp only [builtin, Sem.run_bind, hrun, Result.andThen_ok, Sem.run_pure]
                have hav : ∀ (row : Array Value) j, Av x γ w j → Av x γ (w.setRow b row) j ∧ (w.setRow b row).heap[j]? = w.heap[j]? := fun row j hj =>
                  ⟨⟨by rw [setRow_size]; exact hj.1, hj.2.1, hj.2.2⟩, setRow_other w b j _ fun e => hj.2.2 k c0 (e ▸ hg)⟩
                refine ⟨_, h, .inl ⟨_, _, hrun', _, rs_renew hr hg (Turns.setRow w b _) (c' := cap) ?_ d1 ?_⟩⟩
                · refine ⟨fun hn h0 => ?_, by simp; omega, _, et', setRow_heap w b cur _ et' _ hb, ?_, fun j q hq => ?_⟩
                  · simp only [Bool.and_eq_true] at hn
                    have hwn : win = none := by simpa using hn.2
                    subst hwn
                    have h00 := congrArg List.length h0
                    simp only [List.length_append, List.length_nil] at h00
                    exact hne hn.1 (List.eq_nil_of_length_eq_zero (by simp only [view] at h00; omega))
                  · simp only [List.size_toArray, List.length_append, List.length_take, List.length_drop, Array.length_toList]
                    omega
                  · rw [List.toList_toArray]
                    refine VRs.mono (hav _) e' q _ ?_
                    have hrows : RowsR w (Av x γ w) e' (view win xs' ++ ys2) (cs ++ ds) := e3.append hrz
                    have hq' := hrows.2 j q hq
                    have hcs : cs = cur.toList.take ((view win xs').length * e'.nc) := by
                      rcases e4 with h0 | ⟨b1, o1, cur1, et1, fz1, f1, f2, f3, f4⟩
                      · have := e3.1
                        rw [h0] at this ⊢
                        simp only [List.length_nil, Nat.zero_mul, List.take_zero] at this ⊢
                        exact List.eq_nil_of_length_eq_zero this
                      · simp only [Option.some.injEq, Addr.mk.injEq] at f1
                        obtain ⟨rfl, rfl, _⟩ := f1
                        rw [hb] at f2
                        cases f2
                        simpa using f4
                    rw [← hcs]
                    have hin := (List.getElem?_eq_some_iff.1 hq).1
                    simp only [List.length_append] at hin
                    have hbnd : j * e'.nc + e'.nc ≤ (cs ++ ds).length := by
                      rw [hrows.1, List.length_append]
                      have := Nat.mul_le_mul_right e'.nc (show j + 1 ≤ (view win xs').length + ys2.length by omega)
                      rwa [Nat.add_mul, Nat.one_mul] at this
                    rw [List.drop_append_of_le_length (by omega), List.take_append_of_le_length (by simp at hbnd ⊢; omega)]
                    exact hq'
                · exact ⟨.at b cap, e', view win xs' ++ ys2, _, by simp [gset], upd_self _ _ _, by simp, by simp; omega, by simp⟩
          · cases h
        · cases h
      · cases h
    · cases h
  · cases h

end Go.Vi
