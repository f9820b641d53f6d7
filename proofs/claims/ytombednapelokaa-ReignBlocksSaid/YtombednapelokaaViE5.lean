/-
  Vi: operations that change what is the call's own: copy.
-/
import Derived.Test.YtombednapelokaaViE4
set_option linter.unusedVariables false
set_option linter.unusedSimpArgs false
namespace Go.Vi
open Op

variable {P : Program} {E : Env} {o : Oper} {ρ : Type} {r : ρ} {x : Cx} {γ : Gam} {H : Heap} {w : World} {a : Act} {st : St} {K : St → Option ρ}

theorem splice_out {α : Type} (L us : List α) {p s n : Nat} (h : p + us.length ≤ L.length) (hs : s + n ≤ p ∨ p + us.length ≤ s) :
    (((L.take p ++ us ++ L.drop (p + us.length))).drop s).take n = (L.drop s).take n := by
  apply List.ext_getElem?
  intro q
  rw [win_get, win_get]
  split
  · rw [splice_get _ _ _ _ h]
    rcases hs with hs | hs
    · rw [if_pos (by omega)]
    · rw [if_neg (by omega), if_neg (by omega)]
  · rfl

theorem splice_in {α : Type} (L us : List α) {p s n : Nat} (h : p + us.length ≤ L.length) (h1 : p ≤ s) (h2 : s + n ≤ p + us.length) :
    (((L.take p ++ us ++ L.drop (p + us.length))).drop s).take n = (us.drop (s - p)).take n := by
  apply List.ext_getElem?
  intro q
  rw [win_get, win_get]
  split
  · rw [splice_get _ _ _ _ h, if_neg (by omega), if_pos (by omega)]
    congr 1
    omega
  · rfl

theorem upd_same {k : Nat} {ob : O} (h : H k = some ob) : upd H k ob = H := by
  funext j
  by_cases hj : j = k
  · subst hj
    rw [upd_self, h]
  · exact upd_ne H ob hj

theorem E_copy {c : Call} (hT : TabOK P E.T) (ho : o.op = .call c) (hc : c.callee = .builtin .copy) (h : evalE E o st ρ K = some r) (hr : RS x γ st a w) : Eff P o K r x a w := by
  have hv := hr.ops'
  simp only [evalE, ho, hc] at h
  split at h
  · rename_i y z t ts hargs htys
    have hargs' : c.args.map a.eval = #[a.eval y, a.eval z] := by
      apply Array.ext'
      simp [hargs]
    have htys' : c.argTypes[0]? = some t := by rw [← Array.getElem?_toList, htys]; rfl
    have ha0 : (#[a.eval y, a.eval z] : Array Value)[0]? = some (a.eval y) := rfl
    have ha1 : (#[a.eval y, a.eval z] : Array Value)[1]? = some (a.eval z) := rfl
    split at h
    · rename_i e0 k win tt e2 ys2 hs hvy hz
      obtain ⟨vz, hvz, hez⟩ := Option.bind_eq_some_iff.1 hz
      split at h
      · rename_i e xs nilE hH
        split at h
        · rename_i ys hcast
          obtain ⟨he, hys⟩ := castL_eq hcast
          subst he
          have hys : ys2 = ys := hys
          subst hys
          obtain ⟨hd, h⟩ := cond_some h rfl
          have hd := of_decide_eq_true hd
          subst hd
          obtain ⟨et, hu, hbe, hnc⟩ := (hT.sh t _ hs).sl e0 rfl
          obtain ⟨ii, d, zz, hii, hd', hsz, _⟩ := hbe.ex
          obtain ⟨adz, capz, ds, ez, hcz, hrz, hlz⟩ := elems_cells hnc hr.inv (hv _ _ hvz) hez
          have hvr := hv _ _ hvy
          obtain ⟨ad, cap, cs, e1, e2, e3, e4⟩ := elems_cells (v := .own k win tt) (xs := view win xs) hnc hr.inv hvr (by simp only [elems, hH])
          obtain ⟨i, ee, xs0, nilE0, hg, hH', hsl⟩ := hvr
          rw [hH] at hH'
          cases hH'
          generalize hn : min ys2.length (view win xs).length = n at h
          have hnmin : Nat.min ys2.length (view win xs).length = n := hn
          have hvl : wo win + (view win xs).length ≤ xs.length ∨ (view win xs).length = 0 := by
            cases win with
            | none => exact .inl (by simp [wo, view])
            | some p =>
              simp only [wo, view, List.length_take, List.length_drop]
              omega
          by_cases hn0 : n = 0
          · -- nothing is copied
            subst hn0
            have hcell : (Builtin.firstCells ii.size 0 (a.eval z)).run P w = .ok #[] w := by
              rw [ez]
              cases adz with
              | none => rfl
              | some q => simp [Builtin.firstCells, loadCells, loadCellsFrom]
            have hrun : (Builtin.copy_ c.argTypes o.type #[a.eval y, a.eval z]).run P w = .ok (goInt 0) w := by
              simp only [Builtin.copy_, htys', ha0, ha1]
              rw [e1]
              simp only [Sem.run_bind, run_underlying hu, Result.andThen_ok, run_sizeOf' hii]
              rw [ez] at hcell ⊢
              simp only [Builtin.lenOf, Sem.run_pure, Result.andThen_ok, hnmin, hcell]
              cases ad <;> simp [storeCells]
            simp only [List.take_zero, List.append_nil, Nat.add_zero, List.take_append_drop] at h
            rw [hset_put] at h
            have hup : updAll st.hp [(k, O.arr e0 xs nilE)] = st.hp := upd_same hH
            rw [hup] at h
            refine ⟨_, h, .inl ⟨goInt 0, w, ?_, hr.step (obs := []) (by rfl) (Res.same hr.inv rfl)⟩⟩
            refine exec_builtin ho hc ?_
            rw [hargs']
            simp only [builtin, Sem.run_bind, hrun, Result.andThen_ok, Sem.run_pure]
          · -- there is something
            have hnl : n ≤ ys2.length ∧ n ≤ (view win xs).length := by omega
            have hwl : wo win + (view win xs).length ≤ xs.length := by omega
            cases i with
            | emp =>
              obtain ⟨ad', g1, g2, g3, g4⟩ := hsl
              omega
            | «at» b c0 =>
              have hsl' : ad = some ⟨b, wo win * e0.nc, none⟩ := by
                cases win with
                | none =>
                  obtain ⟨g1, g2, g3⟩ := hsl
                  rw [e1] at g1
                  simp only [Value.slice.injEq] at g1
                  simp only [wo, Nat.zero_mul]
                  exact g1.1
                | some p =>
                  obtain ⟨p, l⟩ := p
                  obtain ⟨oo, cap', g1, g2, g3, g4, g5, g6, g7⟩ := hsl
                  rw [e1] at g1
                  simp only [Value.slice.injEq] at g1
                  have := g6 (by omega)
                  subst this
                  exact g1.1
              subst hsl'
              obtain ⟨ob, hob, hR⟩ := hr.inv.own k _ hg
              rw [hH] at hob
              cases hob
              obtain ⟨hne, hxc, cur, et', hb, hszc, hel⟩ := hR
              have hdl := hrz.1
              have hnm : n * e0.nc ≤ ys2.length * e0.nc := Nat.mul_le_mul_right _ hnl.1
              have htl : (ds.take (n * e0.nc)).length = n * e0.nc := by simp; omega
              have hcell : (Builtin.firstCells ii.size n (a.eval z)).run P w = .ok (ds.take (n * e0.nc)).toArray w := by
                rw [ez, hsz]
                rcases hlz with h0 | ⟨b1, o1, cur1, et1, fz1, f1, f2, f3, f4⟩
                · rw [h0] at hnl
                  simp at hnl
                  omega
                · subst f1
                  have hk := run_cells (P := P) (o := o1) f2 (n * e0.nc) (by omega)
                  simp only [Builtin.firstCells, hk]
                  rw [f4, List.take_take, Nat.min_eq_left hnm]
              have h1c : ∀ v ∈ ds.take (n * e0.nc), v.oneCell' = true := fun v hv' => hrz.one v (List.mem_of_mem_take hv')
              have hfit : wo win * e0.nc + n * e0.nc ≤ cur.size := by
                rw [← Nat.add_mul]
                exact Nat.le_trans (Nat.mul_le_mul_right _ (by omega)) hszc
              have hst := run_storeCells_at P b (wo win * e0.nc) et' (ds.take (n * e0.nc)) 0 cur w hb (by rw [htl]; omega) h1c
              simp only [Nat.add_zero] at hst
              have hrun : (Builtin.copy_ c.argTypes o.type #[a.eval y, a.eval z]).run P w = .ok (goInt n) (w.setRow b (cur.toList.take (wo win * e0.nc) ++ ds.take (n * e0.nc) ++ cur.toList.drop (wo win * e0.nc + (ds.take (n * e0.nc)).length)).toArray) := by
                simp only [Builtin.copy_, htys', ha0, ha1]
                rw [e1]
                simp only [Sem.run_bind, run_underlying hu, Result.andThen_ok, run_sizeOf' hii]
                rw [ez] at hcell ⊢
                simp only [Builtin.lenOf, Sem.run_pure, Result.andThen_ok, hnmin, hcell, Sem.run_bind, hst]
              refine ⟨_, h, .inl ⟨goInt n, w.setRow b (cur.toList.take (wo win * e0.nc) ++ ds.take (n * e0.nc) ++ cur.toList.drop (wo win * e0.nc + (ds.take (n * e0.nc)).length)).toArray, ?_, γ, RS.upd hr hg hH ⟨rfl, ?_, rfl⟩ (Turns.setRow w b _) ?_ rfl⟩⟩
              · refine exec_builtin ho hc ?_
                rw [hargs']
                simp only [builtin, Sem.run_bind, hrun, Result.andThen_ok, Sem.run_pure]
              · simp only [List.length_append, List.length_take, List.length_drop]
                omega
              · refine ⟨fun hnn h0 => ?_, ?_, _, et', setRow_heap w b cur _ et' _ hb, ?_, fun j q hq => ?_⟩
                · have := congrArg List.length h0
                  simp only [List.length_append, List.length_take, List.length_drop, List.length_nil] at this
                  omega
                · simp only [List.length_append, List.length_take, List.length_drop]
                  omega
                · simp only [List.size_toArray, List.length_append, List.length_take, List.length_drop, Array.length_toList]
                  omega
                · rw [List.toList_toArray]
                  refine VRs.mono (Turns.av (Turns.setRow w b _) hg) e0 q _ ?_
                  have hle : wo win * e0.nc + (ds.take (n * e0.nc)).length ≤ cur.toList.length := by rw [htl]; simpa using hfit
                  rw [List.append_assoc, List.getElem?_append] at hq
                  have hwl2 : (xs.take (wo win)).length = wo win := by simp; omega
                  rw [hwl2] at hq
                  have mul : ∀ p q : Nat, p + 1 ≤ q → p * e0.nc + e0.nc ≤ q * e0.nc := fun p q hpq => by
                    have := Nat.mul_le_mul_right e0.nc hpq
                    rwa [Nat.add_mul, Nat.one_mul] at this
                  split at hq
                  · rename_i hj
                    rw [List.getElem?_take, if_pos hj] at hq
                    rw [splice_out _ _ hle (.inl (mul j (wo win) hj))]
                    exact hel j q hq
                  · rename_i hj
                    have hyl : (ys2.take n).length = n := by simp; omega
                    rw [List.getElem?_append, hyl] at hq
                    split at hq
                    · rename_i hj2
                      rw [List.getElem?_take, if_pos hj2] at hq
                      have h7 := mul j (wo win + n) (by omega)
                      rw [Nat.add_mul] at h7
                      rw [splice_in _ _ hle (Nat.mul_le_mul_right _ (by omega)) (by rw [htl]; exact h7)]
                      rw [← Nat.sub_mul, List.drop_take, List.take_take]
                      have h8 := mul (j - wo win) n (by omega)
                      rw [Nat.min_eq_left (by omega)]
                      exact hrz.2 _ q hq
                    · rename_i hj2
                      rw [List.getElem?_drop] at hq
                      have h9 : (wo win + n) * e0.nc ≤ j * e0.nc := Nat.mul_le_mul_right _ (by omega)
                      rw [Nat.add_mul] at h9
                      rw [splice_out _ _ hle (.inr (by rw [htl]; exact h9))]
                      refine hel j q ?_
                      rw [← hq]
                      congr 1
                      omega
        · cases h
      · cases h
    · cases h
  · cases h

theorem E_del {c : Call} {f : Operand} (hT : TabOK P E.T) (hf : isDelF E.T f = true) (ho : o.op = .call c) (hc : c.callee = .value f) (h : evalDel o c st ρ K = some r) (hr : RS x γ st a w) : Eff P o K r x a w := by
  have hv := hr.ops'
  cases f with
  | func g =>
    obtain ⟨hcall, hrun⟩ := hT.del g (memN_mem hf)
    simp only [evalDel] at h
    split at h
    · rename_i y z u hargs
      split at h
      · rename_i k i j hy hz hu
        split at h
        · rename_i xs nilE hH
          obtain ⟨hd, h⟩ := cond_some h rfl
          simp only [Bool.and_eq_true, decide_eq_true_eq] at hd
          obtain ⟨⟨⟨⟨d1, d2⟩, d3⟩, d4⟩, d5⟩ := hd
          have d4 : j ≤ (xs.length : Int) := d4
          rw [hset_put] at h
          obtain ⟨i0, e0, xs0, nilE0, hg, hH', hsl⟩ := hv _ _ hy
          rw [hH] at hH'
          cases hH'
          cases i0 with
          | emp =>
            obtain ⟨ad', g1, g2, g3, g4⟩ := hsl
            omega
          | «at» b cap =>
            obtain ⟨g1, g2, _⟩ := hsl
            obtain ⟨ob, hob, hR⟩ := hr.inv.own k _ hg
            rw [hH] at hob
            cases hob
            obtain ⟨_, hxc, cur, et, hb, hsz, hel⟩ := hR
            have hz1 : a.eval z = .int .i64 i := hv _ _ hz
            have hu1 : a.eval u = .int .i64 j := hv _ _ hu
            have hargs' : c.args.map a.eval = #[.slice (some ⟨b, 0, none⟩) xs.length cap, .int .i64 (i.toNat : Int), .int .i64 (j.toNat : Int)] := by
              apply Array.ext'
              rw [Array.toList_map, hargs, List.map_cons, List.map_cons, List.map_cons, g1, hz1, hu1, Int.toNat_of_nonneg d2, Int.toNat_of_nonneg (by omega)]
              rfl
            simp only [Sh.nc, Nat.mul_one] at hsz hel
            have hcells : ∀ (t : Nat) q, xs[t]? = some q → cur.toList[t]? = some (.int .i64 q) := fun t q hq => by
              have h1 : (cur.toList.drop t).take 1 = [.int .i64 q] := hel t q hq
              have h2 := congrArg (fun l => l[0]?) h1
              simpa using h2
            refine ⟨_, h, .inr (.inr ⟨g, c.args.map a.eval, w, ?_, ?_⟩)⟩
            · simp only [execOp, ho, resolve, hc, Act.eval, Deferred.ofValue, Sem.run_bind, Sem.run_pure, Result.andThen_ok, invoke]
              simpa using hcall _ w
            · rw [hargs']
              refine (hrun b cap i.toNat j.toNat xs w cur et hb hsz hcells g2 d5 (by omega) (by omega)).mono fun e w' he => ?_
              obtain ⟨rfl, ⟨t1, t2, t3, t4, t5⟩, cur', hb', hsz', hel'⟩ := he
              have hlen : (xs.take i.toNat ++ xs.drop j.toNat).length = xs.length - (j.toNat - i.toNat) := by
                simp only [List.length_append, List.length_take, List.length_drop]
                omega
              have hob' : objR w' (Av x γ w') (.arr (.int .i64) (xs.take i.toNat ++ xs.drop j.toNat) false) (.at b cap) := by
                refine ⟨fun hn => (by cases hn), (by rw [hlen]; omega), cur', et, hb', (by simp only [Sh.nc, Nat.mul_one]; omega), fun t q hq => ?_⟩
                simp only [Sh.nc, Nat.mul_one]
                have h1 := hel' t q hq
                obtain ⟨hlt, h2⟩ := List.getElem?_eq_some_iff.1 h1
                show (cur'.toList.drop t).take 1 = [.int .i64 q]
                rw [List.drop_eq_getElem_cons hlt, h2]
                rfl
              refine ⟨_, rs_renew hr hg ⟨t1, t2, t3, t4, t5⟩ hob' d1 ?_⟩
              exact ⟨.at b cap, .int .i64, xs.take i.toNat ++ xs.drop j.toNat, _, by simp [gset], upd_self _ _ _, by rw [hlen], by rw [hlen]; omega, by simp⟩
        · cases h
      · cases h
    · cases h
  | _ => cases hf

end Go.Vi
