/- Texts of this claim, joined: ViM to G79. -/
import Derived.BigRegion
import Derived.Carry
import Derived.ChangeAlike
import Derived.Deep.RegionWith
import Derived.JoinedCond
import Derived.KernelRfl
import Derived.LaidLaws
import Derived.Lib.Hide
import Derived.LoopIn
import Derived.LoopNIn
import Derived.LoopTactic
import Derived.OpenShut
import Derived.Outline
import Derived.OwnWalkIn
import Derived.ProofKit
import Derived.RangeFuncBound
import Derived.RangeFuncBox
import Derived.RangeFuncCalls
import Derived.RangeFuncLeaves
import Derived.RangeFuncNested
import Derived.RegionTactic
import Derived.Shelf.Abstract
import Derived.StillTailTactics
import Derived.TacticsInMore
import Derived.Test.YtkfkbebinhkdlaaDoorProg
import Derived.Test.YtkfkbebinhkdlaaDoorRows
import Derived.WalkKit
import Derived.Test.YtkfkbebinhkdlaaDoorQTopRoomsCard4
/-
  Vi: functions: scopes; parameters and results; a function's contract out of its run.
-/
set_option linter.unusedVariables false
set_option linter.unusedSimpArgs false
namespace Go.Vi
open Op
section
variable {P : Program} {E : Env} {x : Cx} {γ γ' : Gam} {w w0 : World} {a : Act} {st st' : St} {A A0 A1 : Nat → Prop}
variable {Q : Exit → Act → World → Prop} {H H' : Heap} {ρ : Type} {k : St → Option ρ} {r : ρ}
/-! ### Scopes -/
/-! ### Results -/
theorem nagg_one {s : Sh} (h : s.agg = false) : s.nc = 1 := by cases s <;> first | rfl | cases h
theorem mk1_R {s : Sh} {y : s.den} {u : Value} {vs : List Value} (h : VRs w A s y vs) (hA : ∀ b, A b → A1 b) (hu : u = if s.agg = true then .agg vs.toArray else vs.headD undef) : RetR1 w0 w A1 (mk1 s y) .emp u := by
  have hc := CR.of_VRs s y vs h
  have hA' : ∀ b, A b → A1 b ∧ w.heap[b]? = w.heap[b]? := fun b hb => ⟨hA b hb, rfl⟩
  unfold mk1
  cases hs : s.agg with
  | true =>
    rw [hs] at hu
    simp only [cond_true]
    exact ⟨vs, by simpa using hu, hc.mono (CR.mono hA')⟩
  | false =>
    rw [hs] at hu
    simp only [cond_false]
    have hl := cells_length s y
    rw [nagg_one hs] at hl
    match hcs : cells s y, hl with
    | [c], _ =>
      rw [hcs] at hc
      obtain ⟨v, rfl, hv⟩ := hc.one
      simp at hu
      subst hu
      exact CR.mono hA' c _ hv
theorem valOf_VRs {s : Sh} {v : V} {y : s.den} {u : Value} (h : valOf s v = some y) (hv : VR γ w A H v u) : ∃ vs, VRs w A s y vs ∧ u = if s.agg = true then .agg vs.toArray else vs.headD undef := by
  unfold valOf at h
  split at h
  · rename_i c
    obtain ⟨hs, h⟩ := cond_none h rfl
    refine ⟨[u], VRs.of_ofC s _ y [u] h ⟨hv, trivial⟩, ?_⟩
    rw [hs]
    rfl
  · rename_i cs
    obtain ⟨hs, h⟩ := cond_some h rfl
    obtain ⟨vs, rfl, hc⟩ := hv
    refine ⟨vs, VRs.of_ofC s _ y vs h hc, ?_⟩
    rw [hs]
    rfl
  · cases h
def resF (tmps : Array Value) : ResultVar → Sem Value
  | .tmp t => pure (tmps.getD t undef)
  | .cell a t => do loadVar t (← asAddr (tmps.getD a undef))
theorem results_run {fn : Func} {us : List Value} (h : (fn.results.toList.mapM (resF a.tmps)).run P w = .ok us w) : (results fn a.tmps).run P w = .ok (retVal us) w := by
  have e : (fn.results.mapM (resF a.tmps)).run P w = .ok us.toArray w := by
    rw [Array.mapM_eq_mapM_toList, Sem.run_map, h]
    rfl
  have e2 : results fn a.tmps = fn.results.mapM (resF a.tmps) >>= fun vs => pure (if h : vs.size = 1 then vs[0] else .tuple vs) := by
    unfold results
    congr 1
  rw [e2, Sem.run_bind, e]
  simp only [Result.andThen_ok, Sem.run_pure]
  congr 1
  match us with
  | [] => rfl
  | [u] => rfl
  | u :: u' :: us =>
    unfold retVal
    rw [dif_neg (by simp)]
/-- What a result stands for in the call's own. -/
def RK.info (γ : Gam) (st : St) : RK → Info
  | .own _ t =>
    match (st.tm[t]? : Option V) with
    | some (.own k _ _) => (γ k).getD .emp
    | _ => .emp
  | .ownN _ t =>
    match (st.tm[t]? : Option V) with
    | some (.own k _ _) => (γ k).getD .emp
    | _ => .emp
  | _ => .emp
theorem castL_some {e' e : Sh} {xs : List e'.den} {ys : List e.den} (h : castL e' e xs = some ys) : ∃ he : e' = e, ys = he ▸ xs := by
  unfold castL at h
  split at h
  · rename_i he
    cases h
    exact ⟨he, rfl⟩
  · cases h
theorem OwnSl.weak {i : Info} {n len : Nat} {nilE t : Bool} {v : Value} (h : OwnSl i n len nilE none t v) : OwnSl i n len false none false v := by
  cases i with
  | emp =>
    obtain ⟨a, h1, h2, h3, h4⟩ := h
    exact ⟨a, h1, by simp, h3, h4⟩
  | «at» b c =>
    obtain ⟨h1, h2, h3⟩ := h
    exact ⟨h1, h2, by simp⟩
theorem OwnSl.weakT {i : Info} {n len : Nat} {nilE t : Bool} {v : Value} (h : OwnSl i n len nilE none t v) : OwnSl i n len nilE none false v := by
  cases i with
  | emp =>
    obtain ⟨a, h1, h2, h3, h4⟩ := h
    exact ⟨a, h1, h2, h3, h4⟩
  | «at» b c =>
    obtain ⟨h1, h2, h3⟩ := h
    exact ⟨h1, h2, by simp⟩
theorem objR.weak {e : Sh} {xs : List e.den} {nilE : Bool} {i : Info} (h : objR w A (.arr e xs nilE) i) : objR w A (.arr e xs false) i := by
  cases i with
  | emp => exact h
  | «at» b c => exact ⟨by simp, h.2⟩
/-- One result. -/
theorem RK_get (hT : TabOK P E.T) (hr : RS x γ st a w) {rv : ResultVar} {rk : RK} (hok : rksOK E.T [rv] [rk] = true) {y : rk.den} (hg : rk.get st = some y) (hA : ∀ b, Av x γ w b → A1 b)
    (hO : ∀ k ∈ rk.ownK st, ∀ b c, γ k = some (.at b c) → w0.heap.size ≤ b) (hS : ∀ k ∈ rk.slK st, ∀ b c, γ k = some (.at b c) → A1 b) : ∃ u, (resF a.tmps rv).run P w = .ok u w ∧ RetR1 w0 w A1 (rk.ret y) (rk.info γ st) u := by
  have hA' : ∀ b, Av x γ w b → A1 b ∧ w.heap[b]? = w.heap[b]? := fun b hb => ⟨hA b hb, rfl⟩
  cases rk with
  | own e t =>
    cases rv with
    | cell _ _ => cases hok
    | tmp t' =>
      simp only [rksOK, Bool.and_true] at hok
      have := Nat.eq_of_beq_eq_true hok
      subst this
      refine ⟨_, rfl, ?_⟩
      simp only [RK.get, rOwn] at hg
      split at hg
      · rename_i k b hv
        obtain ⟨i, e', xs, nilE, h1, h2, h3⟩ := hr.tm _ _ hv
        simp only [elemsAs, elems, h2, view] at hg
        obtain ⟨rfl, rfl⟩ := castL_some hg
        obtain ⟨ob, h4, h5⟩ := hr.inv.own k i h1
        rw [h2] at h4
        cases h4
        simp only [RK.info, hv, h1, Option.getD_some]
        refine ⟨(objR.mono hA' _ i (fun _ _ _ => rfl) h5).weak, h3.weak, fun b c hi => ?_⟩
        have h6 := hr.inv.rng k b c (hi ▸ h1)
        exact ⟨hO k (by simp [RK.ownK, hv]) b c (hi ▸ h1), h6.2⟩
      · cases hg
  | sl e t =>
    cases rv with
    | cell _ _ => cases hok
    | tmp t' =>
      simp only [rksOK, Bool.and_true] at hok
      have := Nat.eq_of_beq_eq_true hok
      subst this
      refine ⟨_, rfl, ?_⟩
      simp only [RK.get, rSl] at hg
      split at hg
      · rename_i v hv
        have hVR := hr.tm _ _ hv
        have key : ∀ (keys : List Nat), (∀ k ∈ v.ownKey, k ∈ keys) → (∀ k ∈ keys, ∀ b c, γ k = some (.at b c) → A1 b) → ∀ tt, gnd st.hp v = some (.c (.sl e y tt)) → RetR1 w0 w A1 (.val (.sl e y false)) .emp (a.tmps.getD t' undef) := by
          intro keys hk hkA tt hgn
          have := gnd_VR hr.inv hgn hVR hk
          obtain ⟨ad, cap, c1, c2, c3, c4⟩ : CR w (A0k x γ w keys) (.sl e y tt) (a.tmps.getD t' undef) := this
          have hA2 : ∀ b, A0k x γ w keys b → A1 b ∧ w.heap[b]? = w.heap[b]? := by
            rintro b (hb | ⟨k, hk, c, hc⟩)
            · exact hA' b hb
            · exact ⟨hkA k hk b c hc, rfl⟩
          exact ⟨ad, cap, c1, c2, by simp, c4.mono hA2 fun x us hx => VRs.mono hA2 e x us hx⟩
        simp only [elemsAs] at hg
        split at hg
        · rename_i e' xs he
          obtain ⟨rfl, rfl⟩ := castL_some hg
          cases v with
          | own k win tt =>
            simp only [elems] at he
            split at he
            · rename_i e2 xs2 n2 hH
              cases he
              refine key [k] (by simp [V.ownKey]) ?_ tt (by simp only [gnd, gnd1, hH])
              intro k' hk' b c hc
              rw [List.mem_singleton.1 hk'] at hc
              exact hS k (by simp [RK.slK, hv]) b c hc
            · cases he
          | c y' =>
            cases y' with
            | sl e2 xs2 tt =>
              cases he
              exact key [] (by simp [V.ownKey]) (by simp) tt rfl
            | _ => simp [elems] at he
          | _ => simp [elems] at he
        · cases hg
      · cases hg
  | c s t =>
    cases rv with
    | cell _ _ => cases hok
    | tmp t' =>
      simp only [rksOK, Bool.and_true] at hok
      have := Nat.eq_of_beq_eq_true hok
      subst this
      refine ⟨_, rfl, ?_⟩
      simp only [RK.get] at hg
      split at hg
      · rename_i v hv
        obtain ⟨vs, h1, h2⟩ := valOf_VRs hg (hr.tm _ _ hv)
        exact mk1_R h1 hA h2
      · cases hg
  | box s t =>
    cases rv with
    | tmp _ => cases hok
    | cell t' ty =>
      simp only [rksOK, Bool.and_true, Bool.and_eq_true] at hok
      have := Nat.eq_of_beq_eq_true hok.1
      subst this
      have hty := of_decide_eq_true hok.2
      simp only [RK.get, rBox] at hg
      split at hg
      · rename_i k off hv
        obtain ⟨b, c, h1, h2⟩ := hr.tm _ _ hv
        split at hg
        · rename_i cs hH
          obtain ⟨ob, h3, h4⟩ := hr.inv.own k _ h1
          rw [hH] at h3
          cases h3
          obtain ⟨cur, et, h5, h6⟩ := h4
          obtain ⟨hd, hg⟩ := cond_some hg rfl
          have hd := of_decide_eq_true hd
          have hV := VRs.of_ofC s _ y _ hg ((h6.drop off).take s.nc)
          have hl2 := h6.length
          simp only [Array.length_toList] at hl2
          refine ⟨if s.agg = true then .agg ((cur.toList.drop off).take s.nc).toArray else ((cur.toList.drop off).take s.nc).headD undef, ?_, mk1_R hV hA rfl⟩
          have hsh := hT.sh ty s hty
          have hnc : s.agg = false → s.nc = 1 := nagg_one
          have hle : off + s.nc ≤ cur.size := by omega
          have hrun := run_load_shape (P := P) (w := w) hsh.base h5 hle hnc
          simp only [Instr.loadAt, Instr.sureAddr, Sem.run_bind, Sem.run_pure, Result.andThen_ok] at hrun
          simp only [resF, h2, asAddr, Sem.run_bind, Sem.run_pure, Result.andThen_ok]
          rw [hrun]
          congr 1
          split
          · rfl
          · rename_i hag
            have h1 := hnc (by simpa using hag)
            rw [h1]
            have hlt : off < cur.size := by omega
            simp [List.getD, List.take_one, List.head?_drop, hlt]
        · cases hg
      · cases hg
  | lay e t => cases rv <;> cases hok
  | ownN e t =>
    cases rv with
    | cell _ _ => cases hok
    | tmp t' =>
      simp only [rksOK, Bool.and_true] at hok
      have := Nat.eq_of_beq_eq_true hok
      subst this
      refine ⟨_, rfl, ?_⟩
      simp only [RK.get, rOwnN] at hg
      split at hg
      · rename_i k b hv
        obtain ⟨i, e', xs, nilE, h1, h2, h3⟩ := hr.tm _ _ hv
        split at hg
        · rename_i e2 xs2 hH
          rw [h2] at hH
          cases hH
          simp only [elemsAs, elems, h2, view] at hg
          obtain ⟨rfl, rfl⟩ := castL_some hg
          obtain ⟨ob, h4, h5⟩ := hr.inv.own k i h1
          rw [h2] at h4
          cases h4
          simp only [RK.info, hv, h1, Option.getD_some]
          refine ⟨objR.mono hA' _ i (fun _ _ _ => rfl) h5, h3.weakT, fun b c hi => ?_⟩
          have h6 := hr.inv.rng k b c (hi ▸ h1)
          exact ⟨hO k (by simp [RK.ownK, hv]) b c (hi ▸ h1), h6.2⟩
        · cases hg
      · cases hg
theorem info_at {rk : RK} {b c : Nat} (h : rk.info γ st = .at b c) : ∃ k ∈ rk.ownK st, γ k = some (.at b c) := by
  cases rk with
  | own e t =>
    simp only [RK.info] at h
    split at h
    · rename_i k _ _ hv
      cases hg : γ k with
      | none => rw [hg] at h; cases h
      | some i =>
        rw [hg] at h
        simp only [Option.getD_some] at h
        exact ⟨k, by simp [RK.ownK, hv], by rw [hg, h]⟩
    · cases h
  | ownN e t =>
    simp only [RK.info] at h
    split at h
    · rename_i k _ _ hv
      cases hg : γ k with
      | none => rw [hg] at h; cases h
      | some i =>
        rw [hg] at h
        simp only [Option.getD_some] at h
        exact ⟨k, by simp [RK.ownK, hv], by rw [hg, h]⟩
    · cases h
  | _ => cases h
theorem rksOK_cons {T : Tab} {rv : ResultVar} {rk : RK} {rvs : List ResultVar} {rks : List RK} (h : rksOK T (rv :: rvs) (rk :: rks) = true) : rksOK T [rv] [rk] = true ∧ rksOK T rvs rks = true := by
  cases rv <;> cases rk <;> simp only [rksOK, Bool.and_eq_true, Bool.and_true] at h ⊢ <;> first | exact h | cases h
/-- All results. -/
theorem RKs_get (hT : TabOK P E.T) (hr : RS x γ st a w) (hA : ∀ b, Av x γ w b → A1 b) : ∀ (rks : List RK) (rvs : List ResultVar) (y : rksDen rks), rksOK E.T rvs rks = true → rtL st rks = some y →
    (rks.flatMap (RK.ownK st)).Nodup → (∀ k ∈ rks.flatMap (RK.ownK st), ∀ b c, γ k = some (.at b c) → w0.heap.size ≤ b) → (∀ k ∈ rks.flatMap (RK.slK st), ∀ b c, γ k = some (.at b c) → A1 b) →
    ∃ us, (rvs.mapM (resF a.tmps)).run P w = .ok us w ∧ RetRs w0 w A1 (rets rks y) (rks.map (RK.info γ st)) us := by
  intro rks
  induction rks with
  | nil =>
    intro rvs y hok h hnd hO hS
    cases rvs with
    | nil => exact ⟨[], rfl, trivial⟩
    | cons rv rvs => cases rv <;> cases hok
  | cons rk rks ih =>
    intro rvs y hok h hnd hO hS
    cases rvs with
    | nil => cases rk <;> cases hok
    | cons rv rvs =>
      obtain ⟨hok1, hok2⟩ := rksOK_cons hok
      rw [List.flatMap_cons, List.nodup_append] at hnd
      have hO1 : ∀ k ∈ rk.ownK st, ∀ b c, γ k = some (.at b c) → w0.heap.size ≤ b := fun k hk => hO k (by rw [List.flatMap_cons]; exact List.mem_append.2 (.inl hk))
      have hO2 : ∀ k ∈ rks.flatMap (RK.ownK st), ∀ b c, γ k = some (.at b c) → w0.heap.size ≤ b := fun k hk => hO k (by rw [List.flatMap_cons]; exact List.mem_append.2 (.inr hk))
      have hS1 : ∀ k ∈ rk.slK st, ∀ b c, γ k = some (.at b c) → A1 b := fun k hk => hS k (by rw [List.flatMap_cons]; exact List.mem_append.2 (.inl hk))
      have hS2 : ∀ k ∈ rks.flatMap (RK.slK st), ∀ b c, γ k = some (.at b c) → A1 b := fun k hk => hS k (by rw [List.flatMap_cons]; exact List.mem_append.2 (.inr hk))
      have dis : ∀ b c, rk.info γ st = .at b c → ∀ j ∈ rks.map (RK.info γ st), ∀ c', j ≠ .at b c' := by
        intro b c hi j hj c' he
        obtain ⟨k, hk, hg⟩ := info_at hi
        obtain ⟨rk', hm, rfl⟩ := List.mem_map.1 hj
        obtain ⟨k', hk', hg'⟩ := info_at he
        have := hr.inv.inj k k' b c c' hg hg'
        subst this
        exact hnd.2.2 k hk k (List.mem_flatMap.2 ⟨rk', hm, hk'⟩) rfl
      cases rks with
      | nil =>
        obtain ⟨u, h1, h2⟩ := RK_get hT hr hok1 (y := y) h hA hO1 hS1
        cases rvs with
        | nil =>
          refine ⟨[u], ?_, h2, dis, trivial⟩
          simp only [List.mapM_cons, List.mapM_nil, Sem.run_bind, h1, Result.andThen_ok, Sem.run_pure]
        | cons rv' rvs => cases rv' <;> cases hok2
      | cons rk' rks =>
        obtain ⟨y1, h1, h⟩ := Option.bind_eq_some_iff.1 h
        obtain ⟨y2, h2, h⟩ := Option.bind_eq_some_iff.1 h
        cases h
        obtain ⟨u, h3, h4⟩ := RK_get hT hr hok1 h1 hA hO1 hS1
        obtain ⟨us, h5, h6⟩ := ih rvs y2 hok2 h2 hnd.2.1 hO2 hS2
        refine ⟨u :: us, ?_, h4, dis, h6⟩
        simp only [List.mapM_cons, Sem.run_bind, h3, Result.andThen_ok, h5, Sem.run_pure]
theorem rtG_RetR (hT : TabOK P E.T) (hr : RS x γ st a w) (hB : x.B = w0.heap.size) (hM : ∀ b, ¬ x.M b) {fn : Func} {rks : List RK} {y : rksDen rks} (hok : rksOK E.T fn.results.toList rks = true) (h : rtG rks st = some y) :
    ∃ u, (results fn a.tmps).run P w = .ok u w ∧ RetR w0 w x.A0 (rets rks y) u := by
  unfold rtG at h
  obtain ⟨hk, h⟩ := cond_some h rfl
  simp only [rkOK, Bool.and_eq_true] at hk
  have hnd := nodupB_spec hk.1
  let A1 : Nat → Prop := newA w0 w x.A0 (rks.map (RK.info γ st))
  have hA : ∀ b, Av x γ w b → A1 b := by
    intro b hb
    refine ⟨hb.1, fun hlt => hb.2.1 (by omega), fun i hi c he => ?_⟩
    obtain ⟨rk, _, rfl⟩ := List.mem_map.1 hi
    obtain ⟨k, _, hg⟩ := info_at he
    exact hb.2.2 k c hg
  have hS : ∀ k ∈ rks.flatMap (RK.slK st), ∀ b c, γ k = some (.at b c) → A1 b := by
    intro k hkm b c hg
    have h1 := hr.inv.rng k b c hg
    have h2 := h1.1.resolve_right (hM b)
    refine ⟨h1.2, fun hlt => by omega, fun i hi c' he => ?_⟩
    obtain ⟨rk, hm, rfl⟩ := List.mem_map.1 hi
    obtain ⟨k', hk', hg'⟩ := info_at he
    have := hr.inv.inj k k' b c c' hg hg'
    subst this
    have h3 := List.all_eq_true.1 hk.2 k hkm
    rw [mem_memN.2 (List.mem_flatMap.2 ⟨rk, hm, hk'⟩)] at h3
    cases h3
  obtain ⟨us, h1, h2⟩ := RKs_get hT hr hA rks fn.results.toList y hok h hnd (fun k _ b c hg => by rw [← hB]; exact (hr.inv.rng k b c hg).1.resolve_right (hM b)) hS
  exact ⟨retVal us, results_run h1, rks.map (RK.info γ st), us, rfl, h2⟩
/-! ### Parameters -/
theorem aPtr_VR1 {s : Sh} {v : V} {y : s.den} {u : Value} (h : aPtr s v = some y) (hv : VR1 γ w A H v u) : VR1 γ w A H (.iptr (cells s y)) u := by
  unfold aPtr at h
  split at h
  · rename_i cs
    obtain ⟨b, o, cur, et, fz, h1, h2, h3, h4, h5⟩ := hv
    have hV := VRs.of_ofC s _ y _ h (h5.take s.nc)
    have hl := hV.length
    simp only [List.length_take, List.length_drop, Array.length_toList] at hl
    have hC := CR.of_VRs s y _ hV
    refine ⟨b, o, cur, et, fz, h1, h2, h3, by rw [cells_length]; omega, ?_⟩
    rw [cells_length]
    rw [List.take_take, Nat.min_eq_left (by omega)] at hC
    exact hC
  · cases h
theorem capsArg_VR1 : ∀ (l : List Sh) (vs : List V) (us : List Value) (y : capsDen l), capsArg l vs = some y → All2 (VR1 γ w A H) vs us → All2 (VR1 γ w A H) (capsV l y) us
  | [], [], us, y, h, hv => hv
  | s :: l, v :: vs, [], y, h, hv => hv.elim
  | s :: l, v :: vs, u :: us, y, h, hv => by
    simp only [capsArg] at h
    obtain ⟨y1, h1, h⟩ := Option.bind_eq_some_iff.1 h
    obtain ⟨y2, h2, h⟩ := Option.bind_eq_some_iff.1 h
    cases h
    exact ⟨aPtr_VR1 h1 hv.1, capsArg_VR1 l vs us y2 h2 hv.2⟩
  | [], _ :: _, _, _, h, _ => by cases h
  | _ :: _, [], _, _, h, _ => by cases h
theorem PK.arg_val {pk : PK} {v : V} {y : pk.den} {u : Value} (h : pk.arg v = some y) (hv : VR γ w A H v u) : VR γ w A H (pk.val y) u := by
  cases pk with
  | c s =>
    obtain ⟨vs, h1, h2⟩ := valOf_VRs h hv
    have hc := CR.of_VRs s y vs h1
    simp only [PK.val]
    cases hs : s.agg with
    | true =>
      rw [hs] at h2
      exact ⟨vs, by simpa using h2, hc⟩
    | false =>
      rw [hs] at h2
      simp only [cond_false]
      have hl := cells_length s y
      rw [nagg_one hs] at hl
      match hcs : cells s y, hl with
      | [z], _ =>
        rw [hcs] at hc
        obtain ⟨v', rfl, hv'⟩ := hc.one
        simp at h2
        subst h2
        exact hv'
  | p s =>
    have : VR1 γ w A H v u := by
      simp only [PK.arg, aPtr] at h
      split at h
      · exact hv
      · cases h
    exact aPtr_VR1 h this
  | f g caps =>
    simp only [PK.arg] at h
    split at h
    · rename_i g' vs
      obtain ⟨hg, h⟩ := cond_some h rfl
      have := Nat.eq_of_beq_eq_true hg
      subst this
      obtain ⟨us, h1, h2⟩ := hv
      exact ⟨us, h1, capsArg_VR1 caps vs us y h h2⟩
    · cases h
theorem pksV_len : ∀ (l : List PK) (xs : pksDen l), (pksV l xs).length = l.length
  | [], _ => rfl
  | _ :: l, xs => by simp [pksV, pksV_len l]
theorem pksArg_VR : ∀ (l : List PK) (vs : List V) (us : List Value) (xs : pksDen l), pksArg l vs = some xs → All2 (VR γ w A H) vs us → All2 (VR γ w A H) (pksV l xs) us
  | [], [], us, xs, h, hv => hv
  | s :: l, v :: vs, [], y, h, hv => hv.elim
  | s :: l, v :: vs, u :: us, y, h, hv => by
    simp only [pksArg] at h
    obtain ⟨y1, h1, h⟩ := Option.bind_eq_some_iff.1 h
    obtain ⟨y2, h2, h⟩ := Option.bind_eq_some_iff.1 h
    cases h
    exact ⟨PK.arg_val h1 hv.1, pksArg_VR l vs us y2 h2 hv.2⟩
  | [], _ :: _, _, _, h, _ => by cases h
  | _ :: _, [], _, _, h, _ => by cases h
/-! ### A function's contract -/
/-- The state in which a call begins. -/
theorem RS.start {pks : List PK} {xs : pksDen pks} {vs : List V} {args : List Value} {n : Nat} (hds : [] = x.ds) (hx : x.w0 = w) (hxB : x.B = w.heap.size) (hpin : ∀ k, x.pin k = none) (hA0 : ∀ b, x.A0 b → b < w.heap.size) (hv : pksArg pks vs = some xs)
    (hargs : All2 (VR noGam w x.A0 emp) vs args) : RS x noGam (st0 pks xs n) { tmps := args.toArray ++ Array.replicate (n - args.toArray.size) undef, defers := [] } w := by
  have h1 := pksArg_VR pks vs args xs hv hargs
  have hlen := h1.length
  rw [pksV_len] at hlen
  have hav : ∀ b, x.A0 b → Av x noGam w b ∧ w.heap[b]? = w.heap[b]? := fun b hb => ⟨⟨hA0 b hb, fun _ => hb, fun k c h => by cases h⟩, rfl⟩
  refine ⟨⟨by omega, by rw [hx], by rw [hx], by rw [hx], fun b _ _ => by rw [hx], fun k i h => (by cases h), fun k b c h => (by cases h), fun k k' b c c' h => (by cases h), fun k i h => by (rw [hpin k] at h; cases h), fun k cs off b c ob h1 h2 h3 h4 => by cases h3⟩, ?_, ?_, hds⟩
  · simp only [st0, List.length_append, pksV_len, List.length_replicate, Array.size_append, List.size_toArray, Array.size_replicate]
    omega
  · intro t v hv'
    simp only [st0, List.getElem?_append] at hv'
    split at hv'
    · rename_i hlt
      obtain ⟨u, hu, hvr⟩ := h1.get hv'
      have : (args.toArray ++ Array.replicate (n - args.toArray.size) undef).getD t undef = u := by
        have hta : t < args.length := (List.getElem?_eq_some_iff.1 hu).1
        rw [Array.getD_eq_getD_getElem?, Array.getElem?_append_left (by simpa using hta)]
        simp [hu]
      rw [this]
      exact VR.mono hav v u hvr
    · rw [List.getElem?_replicate] at hv'
      split at hv'
      · cases hv'
        trivial
      · cases hv'
theorem FC.of_runG (hT : TabOK P E.T) (hE : EqsOK P E.T) (hphi : EnvOK P E) (hpar : EnvPar E) (hm : P.follows .mixedOrders = true) {sc : Scp} {g : FuncId} {fn : Func} {c : Code} {an : Ann} (hsc : ∀ x, ∀ p ∈ occ c an, ScAt P x sc p.1 p.2) {pks : List PK} {rks : List RK} {xs : pksDen pks} {vs : List V}
    {r : rksDen rks} (hf : P.funcs[g]? = some fn) (hb : fn.body = some c) (hrk : rksOK E.T fn.results.toList rks = true) (hv : pksArg pks vs = some xs) (h : runG E sc c an (rtG rks) (fun _ _ => none) (rtG rks) (st0 pks xs fn.ntmps) = some r) : FC P g vs (rets rks r) := by
  intro w A0 args hA0 hargs hgl
  let x : Cx := { B := w.heap.size, M := fun _ => False, A0 := A0, w0 := w, ma := fun _ h => h.elim, glob := ⟨rfl, hgl⟩, gM := fun _ _ _ h => h }
  have hr := RS.start (x := x) (n := fn.ntmps) rfl rfl rfl (fun _ => rfl) hA0 hv hargs
  have fin : ∀ st γ a w', rtG rks st = some r → RS x γ st a w' → a.defers = [] ∧ ∃ v, (results fn a.tmps).run P w' = .ok v w' ∧ (Grows w w' ∧ RetR w w' A0 (rets rks r) v) := by
    intro st γ a w' hrt hr'
    obtain ⟨u, h1, h2⟩ := rtG_RetR (w0 := w) hT hr' rfl (fun _ h => h) hrk hrt
    exact ⟨hr'.nod, u, h1, ⟨hr'.inv.size, hr'.inv.os, hr'.inv.tape, hr'.inv.output, fun b hb => hr'.inv.blk b hb (fun h => h)⟩, h2⟩
  refine calls_of_wp hf hb (runG_sound hT hE hphi hpar hm c an (hsc x) _ _ _ _ _ _ _ _ h hr ⟨?_, ?_, ?_⟩)
  · intro st γ a w' hrt hr'
    exact fin st γ a w' hrt hr'
  · intro j st γ a w' hrt hr'
    cases hrt
  · intro st γ a w' hrt hr'
    exact fin st γ a w' hrt hr'
/-- A callee's place in what is called. -/
def FCs (P : Program) (g : FuncId) (F : List V → (ρ : Type) → (Ret → Option ρ) → Option ρ) : Prop :=
  ∀ vs ρ (K : Ret → Option ρ) r, F vs ρ K = some r → ∃ ret, K ret = some r ∧ FC P g vs ret
def Par1 (F : List V → (ρ : Type) → (Ret → Option ρ) → Option ρ) : Prop :=
  ∀ vs (ρ : Type) (K : Ret → Option ρ) r, F vs ρ K = some r → ∃ ret, K ret = some r ∧ ∀ (ρ' : Type) (K' : Ret → Option ρ'), F vs ρ' K' = K' ret
def CallOK (P : Program) (g : FuncId) : Prop := ∀ args w, (callFunc g args).run P w = .ok (.enter g args) w
theorem callOK_of {g : FuncId} {fn : Func} (hf : P.funcs[g]? = some fn) (hn : (fn.name == "runtime.NumGoroutine") = false) (hb : fn.body.isNone = false) : CallOK P g := by
  intro args w
  unfold callFunc
  simp only [Sem.run_bind]
  have : (program : Sem Program).run P w = .ok P w := rfl
  rw [this]
  simp only [Result.andThen_ok, hf, hn, hb, Bool.false_eq_true, if_false, Sem.run_pure]
theorem phiOf_FCs {g : FuncId} {pks : List PK} {rks : List RK} {S : pksDen pks → Option (rksDen rks)} (h : ∀ xs r, S xs = some r → ∀ vs, pksArg pks vs = some xs → FC P g vs (rets rks r)) : FCs P g (phiOf pks rks S) := by
  intro vs ρ K r hk
  unfold phiOf at hk
  obtain ⟨xs, h1, hk⟩ := Option.bind_eq_some_iff.1 hk
  obtain ⟨y, h2, hk⟩ := Option.bind_eq_some_iff.1 hk
  exact ⟨_, hk, h xs y h2 vs h1⟩
theorem phiOf_Par1 {pks : List PK} {rks : List RK} {S : pksDen pks → Option (rksDen rks)} : Par1 (phiOf pks rks S) := by
  intro vs ρ K r hk
  unfold phiOf at hk
  obtain ⟨xs, h1, hk⟩ := Option.bind_eq_some_iff.1 hk
  obtain ⟨y, h2, hk⟩ := Option.bind_eq_some_iff.1 hk
  refine ⟨_, hk, fun ρ' K' => ?_⟩
  simp only [phiOf, h1, Option.bind_some, h2]
def noPhi : Phi := fun _ _ _ _ => none
theorem noPhi_ok : PhiOK P noPhi := by intro g vs ρ K r h; cases h
theorem noPhi_par : PhiPar noPhi := by intro g vs ρ K r h; cases h
/-- One callee more. -/
def consPhi (g : FuncId) (q : List V → Bool) (F : List V → (ρ : Type) → (Ret → Option ρ) → Option ρ) (phi : Phi) : Phi := fun g' vs ρ K => bif Nat.beq g' g && q vs then F vs ρ K else phi g' vs ρ K
theorem consPhi_ok {g : FuncId} {q : List V → Bool} {F : List V → (ρ : Type) → (Ret → Option ρ) → Option ρ} {phi : Phi} (hF : FCs P g F) (hc : CallOK P g) (h : PhiOK P phi) : PhiOK P (consPhi g q F phi) := by
  intro g' vs ρ K r hk
  unfold consPhi at hk
  cases hb : Nat.beq g' g && q vs with
  | true =>
    rw [hb] at hk
    rw [Bool.and_eq_true] at hb
    have := Nat.eq_of_beq_eq_true hb.1
    subst this
    obtain ⟨ret, h1, h2⟩ := hF vs ρ K r hk
    exact ⟨ret, h1, h2, hc⟩
  | false =>
    rw [hb] at hk
    exact h g' vs ρ K r hk
theorem consPhi_par {g : FuncId} {q : List V → Bool} {F : List V → (ρ : Type) → (Ret → Option ρ) → Option ρ} {phi : Phi} (hF : Par1 F) (h : PhiPar phi) : PhiPar (consPhi g q F phi) := by
  intro g' vs ρ K r hk
  unfold consPhi at hk ⊢
  cases hb : Nat.beq g' g && q vs with
  | true =>
    rw [hb] at hk
    exact hF vs ρ K r hk
  | false =>
    rw [hb] at hk
    exact h g' vs ρ K r hk
theorem eqsB_ok {T : Tab} (h : T.eqs.all (eqsB P) = true) : EqsOK P T :=
  ⟨fun t s hl => List.all_eq_true.1 h _ (look_mem hl)⟩
end
end Go.Vi
/-
  Vi: functions that write what they are handed: a contract out of a run.
-/
set_option linter.unusedVariables false
set_option linter.unusedSimpArgs false
namespace Go.Vi
open Op
section
variable {P : Program} {E : Env} {x : Cx} {γ γ' : Gam} {w w0 : World} {a : Act} {st st' : St} {A A0 A1 : Nat → Prop}
variable {Q : Exit → Act → World → Prop} {H H' : Heap} {ρ : Type} {k : St → Option ρ} {r : ρ}
theorem updAll_in {H : Heap} : ∀ {L : List (Nat × O)} {k : Nat} {ob : O}, (L.map (·.1)).Nodup → (k, ob) ∈ L → updAll H L k = some ob
  | [], _, _, _, h => by cases h
  | (k', ob') :: L, k, ob, hn, h => by
    obtain ⟨h1, h2⟩ := List.nodup_cons.1 hn
    simp only [updAll]
    rcases List.mem_cons.1 h with h | h
    · cases h
      exact upd_self _ _ _
    · have hne : k ≠ k' := fun e => h1 (by
        simp only
        rw [← e]
        exact List.mem_map.2 ⟨(k, ob), h, rfl⟩)
      rw [upd_ne _ _ hne]
      exact updAll_in h2 h
def qksCnt : List QK → Nat
  | [] => 0
  | k :: r => k.cnt + qksCnt r
theorem boxes_keys : ∀ (n : Nat) (l : List Sh) (y : capsDen l), (boxes n l y).map (·.1) = List.range' (pinLo + n) l.length
  | _, [], _ => rfl
  | n, s :: r, y => by
    simp only [boxes, List.map_cons, List.length_cons, List.range'_succ]
    rw [boxes_keys (n + 1) r y.2, Nat.add_assoc]
theorem objs_keys (n : Nat) (k : QK) (y : k.den) : (k.objs n y).map (·.1) = List.range' (pinLo + n) k.cnt := by
  cases k with
  | pl k => rfl
  | oa e => rfl
  | ob s => rfl
  | «of» g caps => exact boxes_keys n caps y
  | fp g caps => exact boxes_keys n caps y
  | sf f cds => rfl
theorem qksH_keys : ∀ (n : Nat) (l : List QK) (y : qksDen l), (qksH n l y).map (·.1) = List.range' (pinLo + n) (qksCnt l)
  | _, [], _ => rfl
  | n, k :: r, y => by
    simp only [qksH, List.map_append, objs_keys, qksH_keys (n + k.cnt) r, qksCnt]
    rw [← Nat.add_assoc, List.range'_append_1]
theorem boxOf_io {s : Sh} {v : V} {y : s.den} {i : Info} {u : Value} (h : boxOf s v = some y) (hv : IoV w A0 v i u) : (∃ b c, i = .at b c ∧ u = .pointer (some ⟨b, 0, none⟩)) ∧ objR w A0 (.box (cells s y)) i := by
  unfold boxOf at h
  split at h
  · rename_i cs
    obtain ⟨⟨b, c, rfl, hu⟩, cur, et, h1, h2⟩ := hv
    exact ⟨⟨b, c, rfl, hu⟩, cur, et, h1, CR.of_VRs s y _ (VRs.of_ofC s cs y _ h h2)⟩
  · cases h
/-- The things that are handed in, one by one: the value in the slot, and what it stands for. -/
theorem boxes_VR : ∀ (n : Nat) (l : List Sh) (vs : List V) (is : List Info) (us : List Value) (y : capsDen l), boxesOf l vs = some y → IoL w A0 vs is us → (∀ j i, is[j]? = some i → γ (pinLo + (n + j)) = some i) →
    All2 (VR1 γ w A H) (ptrs n l) us ∧ is.length = l.length ∧ ∀ j i, is[j]? = some i → ∃ ob, (pinLo + (n + j), ob) ∈ boxes n l y ∧ objR w A0 ob i
  | n, [], [], [], [], y, h, hv, hg => ⟨trivial, rfl, by simp⟩
  | n, s :: l, v :: vs, i :: is, u :: us, y, h, hv, hg => by
    simp only [boxesOf] at h
    obtain ⟨y1, h1, h⟩ := Option.bind_eq_some_iff.1 h
    obtain ⟨y2, h2, h⟩ := Option.bind_eq_some_iff.1 h
    cases h
    obtain ⟨⟨b, c, hi, hu⟩, ho⟩ := boxOf_io h1 hv.1
    obtain ⟨i1, i2, i3⟩ := boxes_VR (n + 1) l vs is us y2 h2 hv.2 fun j i' hj => by
      have := hg (j + 1) i' (by simpa using hj)
      rwa [show n + 1 + j = n + (j + 1) by omega]
    refine ⟨⟨⟨b, c, by rw [← hi]; exact hg 0 i (by simp), hu⟩, i1⟩, by simp [i2], fun j i' hj => ?_⟩
    cases j with
    | zero =>
      simp at hj
      subst hj
      exact ⟨_, by simp [boxes], ho⟩
    | succ j =>
      obtain ⟨ob, hm, hr⟩ := i3 j i' (by simpa using hj)
      rw [show n + 1 + j = n + (j + 1) by omega] at hm
      exact ⟨ob, by simp [boxes, hm], hr⟩
  | _, [], _ :: _, _, _, _, h, _, _ => by cases h
  | _, _ :: _, [], _, _, _, h, _, _ => by cases h
  | _, [], [], _ :: _, _, _, _, h, _ => by exact h.elim
  | _, [], [], [], _ :: _, _, _, h, _ => h.elim
  | _, _ :: _, _ :: _, [], _, _, _, h, _ => h.elim
  | _, _ :: _, _ :: _, _ :: _, [], _, _, h, _ => h.elim
theorem PK.val_refs (pk : PK) (y : pk.den) (k : Nat) : refs k (pk.val y) = false := by
  cases pk with
  | c s =>
    simp only [PK.val]
    cases hs : s.agg with
    | true => rfl
    | false =>
      simp only [cond_false]
      split <;> rfl
  | p s => rfl
  | f g caps =>
    have : ∀ (l : List Sh) (y : capsDen l), refsAny k (capsV l y) = false := by
      intro l
      induction l with
      | nil => intro _; rfl
      | cons s l ih => intro y; exact ih y.2
    exact this caps y
theorem PtrR.gam (hG : ∀ k i, γ k = some i → γ' k = some i) : ∀ (k : Nat) (u : Value), PtrR γ k u → PtrR γ' k u := by
  rintro k u ⟨b, c, h1, h2⟩
  exact ⟨b, c, hG k _ h1, h2⟩
theorem CDR.gam (hG : ∀ k i, γ k = some i → γ' k = some i) {b : Nat} : ∀ (c : CD) (u : Value), CDR γ w A b c u → CDR γ' w A b c u := by
  intro c u h
  cases c with
  | b k => exact PtrR.gam hG k u h
  | s => exact h
  | v g ks =>
    obtain ⟨b', us, h1, h2, h3⟩ := h
    exact ⟨b', us, h1, h2, h3.mono (PtrR.gam hG)⟩
theorem ptrs_CDR {b : Nat} : ∀ (n : Nat) (l : List Sh) (us : List Value), All2 (VR1 γ w A H) (ptrs n l) us → All2 (CDR γ w A b) (pinBs n l) us
  | _, [], [], _ => trivial
  | n, _ :: l, u :: us, h => ⟨h.1, ptrs_CDR (n + 1) l us h.2⟩
  | _, [], _ :: _, h => h.elim
  | _, _ :: _, [], h => h.elim
theorem qks_VR {is0 : List Info} (hG : ∀ k i, pinG is0 k = some i → γ k = some i) (hA : ∀ b, A0 b → A b) (hH : ∀ k ob, (k, ob) ∈ (qksH 0 ([] : List QK) ()) → H k = some ob) : ∀ (l : List QK) (n : Nat) (vs : List V) (is : List Info) (us : List Value) (y : qksDen l), qksArg l vs = some y → IoRel w A0 is0 (l.map QK.flag) vs is us →
    (∀ j i, is[j]? = some i → γ (pinLo + (n + j)) = some i) → (∀ p ∈ qksH n l y, H p.1 = some p.2) →
    All2 (VR γ w A H) (qksV n l y) us ∧ is.length = qksCnt l ∧ ∀ j i, is[j]? = some i → ∃ ob, (pinLo + (n + j), ob) ∈ qksH n l y ∧ objR w A0 ob i
  | [], n, [], [], [], y, h, hv, hg, hH => ⟨trivial, rfl, by simp⟩
  | .pl k :: l, n, v :: vs, is, u :: us, y, h, hv, hg, hH => by
    simp only [qksArg] at h
    obtain ⟨y1, h1, h⟩ := Option.bind_eq_some_iff.1 h
    obtain ⟨y2, h2, h⟩ := Option.bind_eq_some_iff.1 h
    cases h
    obtain ⟨hv1, hv2⟩ := hv
    obtain ⟨i1, i2, i3⟩ := qks_VR hG hA (fun _ _ h => by cases h) l (n + 0) vs is us y2 h2 hv2 hg fun p hp => hH p (by simpa [qksH, QK.objs, QK.cnt] using hp)
    refine ⟨⟨?_, i1⟩, by simp [qksCnt, QK.cnt, i2], fun j i hj => ?_⟩
    · have h3 : VR (pinG is0) w A0 emp (k.val y1) u := PK.arg_val h1 hv1
      refine VR.keyr _ _ (fun q hq => by
        have hq' : refs q (k.val y1) = true := hq
        rw [PK.val_refs] at hq'
        cases hq') (VR.mono (fun b hb => ⟨hA b hb, rfl⟩) _ _ h3)
    · obtain ⟨ob, hm, hr⟩ := i3 j i hj
      exact ⟨ob, by simpa [qksH, QK.objs, QK.cnt] using hm, hr⟩
  | .oa e :: l, n, v :: vs, [], u :: us, y, h, hv, hg, hH => by
    cases v with
    | fn g caps => simp only [qksArg, QK.arg, Option.bind_none] at h; cases h
    | fpb g caps => simp only [qksArg, QK.arg, Option.bind_none] at h; cases h
    | _ => exact hv.elim
  | .oa e :: l, n, v :: vs, i :: is, u :: us, y, h, hv, hg, hH => by
    simp only [qksArg] at h
    obtain ⟨y1, h1, h⟩ := Option.bind_eq_some_iff.1 h
    obtain ⟨y2, h2, h⟩ := Option.bind_eq_some_iff.1 h
    cases h
    simp only [QK.arg] at h1
    split at h1
    · rename_i e' xs t
      obtain ⟨he, rfl⟩ := castL_eq' h1
      subst he
      obtain ⟨hv1, hv2⟩ : IoV w A0 (.c (.sl e' xs t)) i u ∧ IoRel w A0 is0 (l.map QK.flag) vs is us := hv
      obtain ⟨i1, i2, i3⟩ := qks_VR hG hA (fun _ _ h => by cases h) l (n + 1) vs is us y2 h2 hv2 (fun j i' hj => by
        have := hg (j + 1) i' (by simpa using hj)
        rwa [show n + 1 + j = n + (j + 1) by omega]) fun p hp => hH p (by simp only [qksH, QK.cnt, List.mem_append]; exact .inr hp)
      refine ⟨⟨⟨i, e', xs, false, hg 0 i (by simp), hH (pinLo + n, .arr e' xs false) (by simp [qksH, QK.objs]), hv1.1⟩, i1⟩, by simp [qksCnt, QK.cnt, i2]; omega, fun j i' hj => ?_⟩
      cases j with
      | zero =>
        simp at hj
        subst hj
        exact ⟨_, by simp [qksH, QK.objs], hv1.2⟩
      | succ j =>
        obtain ⟨ob, hm, hr⟩ := i3 j i' (by simpa using hj)
        rw [show n + 1 + j = n + (j + 1) by omega] at hm
        exact ⟨ob, by simp only [qksH, QK.cnt, List.mem_append]; exact .inr hm, hr⟩
    · cases h1
  | .ob s :: l, n, v :: vs, [], u :: us, y, h, hv, hg, hH => by
    cases v with
    | fn g caps => simp only [qksArg, QK.arg, boxOf, Option.bind_none] at h; cases h
    | fpb g caps => simp only [qksArg, QK.arg, boxOf, Option.bind_none] at h; cases h
    | _ => exact hv.elim
  | .ob s :: l, n, v :: vs, i :: is, u :: us, y, h, hv, hg, hH => by
    simp only [qksArg] at h
    obtain ⟨y1, h1, h⟩ := Option.bind_eq_some_iff.1 h
    obtain ⟨y2, h2, h⟩ := Option.bind_eq_some_iff.1 h
    cases h
    obtain ⟨cs, rfl⟩ : ∃ cs, v = .iptr cs := by
      simp only [QK.arg, boxOf] at h1
      split at h1
      · exact ⟨_, rfl⟩
      · cases h1
    obtain ⟨hv1, hv2⟩ : IoV w A0 (.iptr cs) i u ∧ IoRel w A0 is0 (l.map QK.flag) vs is us := hv
    obtain ⟨⟨b, c, hi, hu⟩, ho⟩ := boxOf_io (s := s) (y := y1) (v := .iptr cs) h1 hv1
    obtain ⟨i1, i2, i3⟩ := qks_VR hG hA (fun _ _ h => by cases h) l (n + 1) vs is us y2 h2 hv2 (fun j i' hj => by
      have := hg (j + 1) i' (by simpa using hj)
      rwa [show n + 1 + j = n + (j + 1) by omega]) fun p hp => hH p (by simp only [qksH, QK.cnt, List.mem_append]; exact .inr hp)
    refine ⟨⟨⟨b, c, by rw [← hi]; exact hg 0 i (by simp), hu⟩, i1⟩, by simp [qksCnt, QK.cnt, i2]; omega, fun j i' hj => ?_⟩
    cases j with
    | zero =>
      simp at hj
      subst hj
      exact ⟨_, by simp [qksH, QK.objs], ho⟩
    | succ j =>
      obtain ⟨ob, hm, hr⟩ := i3 j i' (by simpa using hj)
      rw [show n + 1 + j = n + (j + 1) by omega] at hm
      exact ⟨ob, by simp only [qksH, QK.cnt, List.mem_append]; exact .inr hm, hr⟩
  | .of g caps :: l, n, v :: vs, is, u :: us, y, h, hv, hg, hH => by
    simp only [qksArg] at h
    obtain ⟨y1, h1, h⟩ := Option.bind_eq_some_iff.1 h
    obtain ⟨y2, h2, h⟩ := Option.bind_eq_some_iff.1 h
    cases h
    simp only [QK.arg] at h1
    split at h1
    · rename_i g' vs'
      obtain ⟨hgg, h1⟩ := cond_some h1 rfl
      have := Nat.eq_of_beq_eq_true hgg
      subst this
      obtain ⟨is1, is2, us', rfl, hu, hv1, hv2⟩ := hv
      obtain ⟨j1, j2, j3⟩ := boxes_VR (γ := γ) (A := A) (H := H) n caps vs' is1 us' y1 h1 hv1 fun j i hj => hg j i (by
        rw [List.getElem?_append_left (List.getElem?_eq_some_iff.1 hj).1]
        exact hj)
      obtain ⟨i1, i2, i3⟩ := qks_VR hG hA (fun _ _ h => by cases h) l (n + caps.length) vs is2 us y2 h2 hv2 (fun j i' hj => by
        have := hg (caps.length + j) i' (by
          rw [List.getElem?_append_right (by omega), j2, show caps.length + j - caps.length = j by omega]
          exact hj)
        rwa [show n + caps.length + j = n + (caps.length + j) by omega]) fun p hp => hH p (by simp only [qksH, QK.cnt, List.mem_append]; exact .inr hp)
      refine ⟨⟨⟨us', hu, j1⟩, i1⟩, by simp [qksCnt, QK.cnt, i2, j2], fun j i' hj => ?_⟩
      rcases Nat.lt_or_ge j is1.length with hlt | hge
      · rw [List.getElem?_append_left hlt] at hj
        obtain ⟨ob, hm, hr⟩ := j3 j i' hj
        exact ⟨ob, by simp only [qksH, QK.objs, List.mem_append]; exact .inl hm, hr⟩
      · rw [List.getElem?_append_right hge] at hj
        obtain ⟨ob, hm, hr⟩ := i3 (j - is1.length) i' hj
        rw [show n + caps.length + (j - is1.length) = n + j by omega] at hm
        exact ⟨ob, by simp only [qksH, QK.cnt, List.mem_append]; exact .inr hm, hr⟩
    · cases h1
  | .fp g caps :: l, n, v :: vs, is, u :: us, y, h, hv, hg, hH => by
    simp only [qksArg] at h
    obtain ⟨y1, h1, h⟩ := Option.bind_eq_some_iff.1 h
    obtain ⟨y2, h2, h⟩ := Option.bind_eq_some_iff.1 h
    cases h
    simp only [QK.arg] at h1
    split at h1
    · rename_i g' css
      obtain ⟨hgg, h1⟩ := cond_some h1 rfl
      have := Nat.eq_of_beq_eq_true hgg
      subst this
      obtain ⟨is1, is2, us', b, rfl, hu, hbox, hv1, hv2⟩ := hv
      obtain ⟨j1, j2, j3⟩ := boxes_VR (γ := γ) (A := A) (H := H) n caps (css.map .iptr) is1 us' y1 h1 hv1 fun j i hj => hg j i (by
        rw [List.getElem?_append_left (List.getElem?_eq_some_iff.1 hj).1]
        exact hj)
      obtain ⟨i1, i2, i3⟩ := qks_VR hG hA (fun _ _ h => by cases h) l (n + caps.length) vs is2 us y2 h2 hv2 (fun j i' hj => by
        have := hg (caps.length + j) i' (by
          rw [List.getElem?_append_right (by omega), j2, show caps.length + j - caps.length = j by omega]
          exact hj)
        rwa [show n + caps.length + j = n + (caps.length + j) by omega]) fun p hp => hH p (by simp only [qksH, QK.cnt, List.mem_append]; exact .inr hp)
      refine ⟨⟨⟨b, us', hu, hbox.mono (fun b hb => ⟨hA b hb, rfl⟩), ptrs_CDR n caps us' j1⟩, i1⟩, by simp [qksCnt, QK.cnt, i2, j2], fun j i' hj => ?_⟩
      rcases Nat.lt_or_ge j is1.length with hlt | hge
      · rw [List.getElem?_append_left hlt] at hj
        obtain ⟨ob, hm, hr⟩ := j3 j i' hj
        exact ⟨ob, by simp only [qksH, QK.objs, List.mem_append]; exact .inl hm, hr⟩
      · rw [List.getElem?_append_right hge] at hj
        obtain ⟨ob, hm, hr⟩ := i3 (j - is1.length) i' hj
        rw [show n + caps.length + (j - is1.length) = n + j by omega] at hm
        exact ⟨ob, by simp only [qksH, QK.cnt, List.mem_append]; exact .inr hm, hr⟩
    · cases h1
  | .sf f cds :: l, n, v :: vs, is, u :: us, y, h, hv, hg, hH => by
    simp only [qksArg] at h
    obtain ⟨y1, h1, h⟩ := Option.bind_eq_some_iff.1 h
    obtain ⟨y2, h2, h⟩ := Option.bind_eq_some_iff.1 h
    cases h
    obtain ⟨hv1, hv2⟩ := hv
    obtain ⟨i1, i2, i3⟩ := qks_VR hG hA (fun _ _ h => by cases h) l (n + 0) vs is us y2 h2 hv2 hg fun p hp => hH p (by simpa [qksH, QK.objs, QK.cnt] using hp)
    refine ⟨⟨?_, i1⟩, by simp [qksCnt, QK.cnt, i2], fun j i hj => ?_⟩
    · simp only [QK.arg] at h1
      split at h1
      · rename_i f' cds'
        obtain ⟨hd, h1⟩ := cond_some h1 rfl
        rw [Bool.and_eq_true, decide_eq_true_eq] at hd
        obtain ⟨hd1, rfl⟩ := hd
        have := Nat.eq_of_beq_eq_true hd1
        subst this
        obtain ⟨b, us', e1, e2, e3⟩ := hv1
        have hA' : ∀ b, A0 b → A b ∧ w.heap[b]? = w.heap[b]? := fun b hb => ⟨hA b hb, rfl⟩
        exact ⟨b, us', e1, e2.mono hA', (e3.mono (CDR.mono hA')).mono (CDR.gam hG)⟩
      · cases h1
    · obtain ⟨ob, hm, hr⟩ := i3 j i hj
      exact ⟨ob, by simpa [qksH, QK.objs, QK.cnt] using hm, hr⟩
  | [], _, _ :: _, _, _, _, h, _, _, _ => by cases h
  | _ :: _, _, [], _, _, _, h, _, _, _ => by cases h
  | [], _, [], _ :: _, _, _, _, h, _, _ => h.elim
  | [], _, [], [], _ :: _, _, _, h, _, _ => h.elim
  | .pl _ :: _, _, _ :: _, [], [], _, _, h, _, _ => h.elim
  | .pl _ :: _, _, _ :: _, _ :: _, [], _, _, h, _, _ => h.elim
  | .oa _ :: _, _, v :: _, [], [], _, _, h, _, _ => by cases v <;> exact h.elim
  | .oa _ :: _, _, v :: _, _ :: _, [], _, _, h, _, _ => by cases v <;> exact h.elim
  | .ob _ :: _, _, v :: _, [], [], _, _, h, _, _ => by cases v <;> exact h.elim
  | .ob _ :: _, _, v :: _, _ :: _, [], _, _, h, _, _ => by cases v <;> exact h.elim
  | .of _ _ :: _, _, v :: _, [], [], _, _, h, _, _ => by cases v <;> exact h.elim
  | .of _ _ :: _, _, v :: _, _ :: _, [], _, _, h, _, _ => by cases v <;> exact h.elim
  | .fp _ _ :: _, _, v :: _, [], [], _, _, h, _, _ => by cases v <;> exact h.elim
  | .fp _ _ :: _, _, v :: _, _ :: _, [], _, _, h, _, _ => by cases v <;> exact h.elim
  | .sf _ _ :: _, _, _ :: _, [], [], _, _, h, _, _ => h.elim
  | .sf _ _ :: _, _, _ :: _, _ :: _, [], _, _, h, _, _ => h.elim
theorem qksV_len : ∀ (n : Nat) (l : List QK) (xs : qksDen l), (qksV n l xs).length = l.length
  | _, [], _ => rfl
  | n, k :: l, xs => by simp [qksV, qksV_len (n + k.cnt) l]
theorem qksCnt_ods : ∀ (l : List QK), (l.flatMap QK.ods).length = qksCnt l
  | [] => rfl
  | k :: l => by
    rw [List.flatMap_cons, List.length_append, qksCnt_ods l, qksCnt]
    congr 1
    cases k <;> simp [QK.ods, QK.cnt]
theorem OD.get_R {d : OD} {ob : O} {y : d.den} {i : Info} (h : d.get ob = some y) (ho : objR w A ob i) (hA : ∀ b, A b → A1 b) : OutR w A1 (d.out y) i := by
  have hA' : ∀ b, A b → A1 b ∧ w.heap[b]? = w.heap[b]? := fun b hb => ⟨hA b hb, rfl⟩
  cases d with
  | a e =>
    cases ob with
    | arr e' ys n =>
      obtain ⟨he, rfl⟩ := castL_eq' h
      subst he
      exact (objR.mono hA' _ i (fun _ _ _ => rfl) ho).weak
    | _ => cases h
  | b s =>
    cases ob with
    | box cs =>
      cases i with
      | emp => exact ho.elim
      | «at» b c =>
        obtain ⟨cur, et, h1, h2⟩ := ho
        exact ⟨cur, et, h1, (CR.of_VRs s y _ (VRs.of_ofC s cs y _ h h2)).mono (CR.mono hA')⟩
    | _ => cases h
theorem odsGet_R (hr : RS x γ st a w) (hA : ∀ b, Av x γ w b → A1 b) : ∀ (l : List OD) (n : Nat) (is : List Info) (y : odsDen l), odsGet st.hp n l = some y → is.length = l.length → (∀ j i, is[j]? = some i → x.pin (pinLo + (n + j)) = some i) →
    All2 (OutR w A1) (outsOf l y) is ∧ ∀ j i, is[j]? = some i → γ (pinLo + (n + j)) = some i
  | [], n, [], y, h, hl, hp => ⟨trivial, by simp⟩
  | d :: l, n, i :: is, y, h, hl, hp => by
    simp only [odsGet] at h
    split at h
    · rename_i ob hob
      obtain ⟨y1, h1, h⟩ := Option.bind_eq_some_iff.1 h
      obtain ⟨y2, h2, h⟩ := Option.bind_eq_some_iff.1 h
      cases h
      have hpin := hr.inv.pin (pinLo + n) i (hp 0 i (by simp)) (by rw [hob]; simp)
      obtain ⟨ob', h3, h4⟩ := hr.inv.own _ _ hpin
      rw [hob] at h3
      cases h3
      obtain ⟨j1, j2⟩ := odsGet_R hr hA l (n + 1) is y2 h2 (by simpa using hl) fun j i' hj => by
        have := hp (j + 1) i' (by simpa using hj)
        rwa [show n + 1 + j = n + (j + 1) by omega]
      refine ⟨⟨OD.get_R h1 h4 hA, j1⟩, fun j i' hj => ?_⟩
      cases j with
      | zero =>
        simp at hj
        subst hj
        exact hpin
      | succ j =>
        have := j2 j i' (by simpa using hj)
        rwa [show n + 1 + j = n + (j + 1) by omega] at this
    · cases h
  | [], _, _ :: _, _, _, hl, _ => by simp at hl
  | _ :: _, _, [], _, _, hl, _ => by simp at hl
theorem boxes_no : ∀ (n : Nat) (l : List Sh) (y : capsDen l), ∀ p ∈ boxes n l y, NoOsl p.2
  | _, [], _, p, h => by cases h
  | n, s :: l, y, p, h => by
    simp only [boxes, List.mem_cons] at h
    rcases h with rfl | h
    · exact NoOsl.box (noOsl_cells s y.1)
    · exact boxes_no (n + 1) l y.2 p h
theorem objs_no (n : Nat) (k : QK) (y : k.den) : ∀ p ∈ k.objs n y, NoOsl p.2 := by
  cases k with
  | pl k => intro p h; cases h
  | sf f c => intro p h; cases h
  | oa e => intro p h; simp only [QK.objs, List.mem_singleton] at h; subst h; exact NoOsl.arr
  | ob s => intro p h; simp only [QK.objs, List.mem_singleton] at h; subst h; exact NoOsl.box (noOsl_cells s y)
  | of g caps => exact boxes_no n caps y
  | fp g caps => exact boxes_no n caps y
theorem qksH_no : ∀ (n : Nat) (l : List QK) (y : qksDen l), ∀ p ∈ qksH n l y, NoOsl p.2
  | _, [], _, p, h => by cases h
  | n, k :: l, y, p, h => by
    rcases List.mem_append.1 h with h | h
    · exact objs_no n k y.1 p h
    · exact qksH_no _ l y.2 p h
theorem updAll_mem {k : Nat} {ob : O} : ∀ {L : List (Nat × O)}, updAll emp L k = some ob → ∃ p ∈ L, p.2 = ob
  | [], h => by cases h
  | (k', ob') :: L, h => by
    simp only [updAll, upd] at h
    cases hb : Nat.beq k k' with
    | true => rw [hb] at h; cases h; exact ⟨_, List.mem_cons_self, rfl⟩
    | false =>
      rw [hb] at h
      obtain ⟨p, hp, e⟩ := updAll_mem (L := L) h
      exact ⟨p, List.mem_cons_of_mem _ hp, e⟩
theorem FCio.of_runG (hT : TabOK P E.T) (hE : EqsOK P E.T) (hphi : EnvOK P E) (hpar : EnvPar E) (hm : P.follows .mixedOrders = true) {sc : Scp} {g : FuncId} {fn : Func} {c : Code} {an : Ann} (hsc : ∀ x, ∀ p ∈ occ c an, ScAt P x sc p.1 p.2) {qks : List QK} {rks : List RK} {xs : qksDen qks} {vs : List V}
    {r : rksDen rks × odsDen (qks.flatMap QK.ods)} (hf : P.funcs[g]? = some fn) (hb : fn.body = some c) (hrk : rksOK E.T fn.results.toList rks = true) (hv : qksArg qks vs = some xs)
    (h : runG E sc c an (rtIO rks (qks.flatMap QK.ods)) (fun _ _ => none) (rtIO rks (qks.flatMap QK.ods)) (st1 qks xs fn.ntmps) = some r) : FCio P g (qks.map QK.flag) vs (rets rks r.1) (outsOf (qks.flatMap QK.ods) r.2) := by
  intro w A0 is args hA0 hrel hap hdis hgl
  let M : Nat → Prop := fun b => ∃ i ∈ is, ∃ c, i = .at b c
  let x : Cx := { B := w.heap.size, M := M, A0 := fun b => A0 b ∨ M b, w0 := w, ma := fun _ h => .inr h, pin := fun k => if pinLo ≤ k then is[k - pinLo]? else none,
                  glob := ⟨rfl, hgl.mono (Nat.le_refl _) fun b hb => ⟨.inl hb, rfl⟩⟩,
                  gM := fun g ns hg hM => by
                    obtain ⟨i, hi, c, hic⟩ := hM
                    exact (hdis i hi g c hic).2 (hgl g ns hg).2.1,
                  pinlo := fun k i hk => by
                    have hk' : (if pinLo ≤ k then is[k - pinLo]? else none) = some i := hk
                    split at hk'
                    · assumption
                    · cases hk' }
  let γ : Gam := x.pin
  let H : Heap := updAll emp (qksH 0 qks xs)
  have hpin : ∀ j, γ (pinLo + (0 + j)) = is[j]? := fun j => by
    show (if pinLo ≤ pinLo + (0 + j) then is[pinLo + (0 + j) - pinLo]? else none) = is[j]?
    rw [if_pos (by omega), show pinLo + (0 + j) - pinLo = j by omega]
  have hγ : ∀ k i, γ k = some i → ∃ j, k = pinLo + (0 + j) ∧ is[j]? = some i := by
    intro k i hk
    have hlo := x.pinlo k i hk
    refine ⟨k - pinLo, by omega, ?_⟩
    have := hpin (k - pinLo)
    rw [show pinLo + (0 + (k - pinLo)) = k by omega] at this
    rw [← this]
    exact hk
  have hMA : ∀ b, M b → b < w.heap.size ∧ ¬ A0 b := by
    rintro b ⟨i, hi, c, rfl⟩
    exact hdis _ hi b c rfl
  have hav : ∀ b, A0 b → Av x γ w b := fun b hb => ⟨hA0 b hb, fun _ => .inl hb, fun k c hk => by
    obtain ⟨j, _, hj⟩ := hγ k _ hk
    exact (hMA b ⟨_, List.mem_of_getElem? hj, c, rfl⟩).2 hb⟩
  have hpg : ∀ k i, pinG is k = some i → γ k = some i := by
    intro k i hk
    show (if pinLo ≤ k then is[k - pinLo]? else none) = some i
    unfold pinG at hk
    cases hb : Nat.ble pinLo k with
    | true => rw [hb] at hk; rw [if_pos (Nat.le_of_ble_eq_true hb)]; exact hk
    | false => rw [hb] at hk; cases hk
  have hkeys : ((qksH 0 qks xs).map (·.1)).Nodup := by rw [qksH_keys]; exact List.nodup_range'
  obtain ⟨hV, hlen, hobj⟩ := qks_VR (γ := γ) (H := H) (A := Av x γ w) (is0 := is) hpg hav (fun _ _ h => by cases h) qks 0 vs is args xs hv hrel (fun j i hj => by rw [hpin]; exact hj) (fun p hp => updAll_in hkeys hp)
  have hal := hV.length
  rw [qksV_len] at hal
  have hr : RS x γ (st1 qks xs fn.ntmps) { tmps := args.toArray ++ Array.replicate (fn.ntmps - args.toArray.size) undef, defers := [] } w := by
    refine ⟨⟨Nat.le_refl _, rfl, rfl, rfl, fun b _ _ => rfl, ?_, ?_, ?_, fun k i hk _ => hk, fun k cs off b c ob h1 h2 h3 h4 => by
      obtain ⟨p, hp, e⟩ := updAll_mem h1
      exact absurd h2 (qksH_no 0 qks xs p hp cs off e)⟩, ?_, ?_, rfl⟩
    · intro k i hk
      obtain ⟨j, rfl, hj⟩ := hγ k i hk
      obtain ⟨ob, hm, ho⟩ := hobj j i hj
      exact ⟨ob, updAll_in hkeys hm, objR.mono (fun b hb => ⟨hav b hb, rfl⟩) _ _ (fun _ _ _ => rfl) ho⟩
    · intro k b c hk
      obtain ⟨j, rfl, hj⟩ := hγ k _ hk
      have hm : M b := ⟨_, List.mem_of_getElem? hj, c, rfl⟩
      exact ⟨.inr hm, (hMA b hm).1⟩
    · intro k k' b c c' hk hk'
      obtain ⟨j, rfl, hj⟩ := hγ k _ hk
      obtain ⟨j', rfl, hj'⟩ := hγ k' _ hk'
      have : j = j' := by
        rcases Nat.lt_trichotomy j j' with hlt | he | hlt
        · exfalso
          have h1 := (List.getElem?_eq_some_iff.1 hj)
          have h2 := (List.getElem?_eq_some_iff.1 hj')
          exact List.pairwise_iff_getElem.1 hap j j' h1.1 h2.1 hlt b c c' h1.2 h2.2
        · exact he
        · exfalso
          have h1 := (List.getElem?_eq_some_iff.1 hj)
          have h2 := (List.getElem?_eq_some_iff.1 hj')
          exact List.pairwise_iff_getElem.1 hap j' j h2.1 h1.1 hlt b c' c h2.2 h1.2
      rw [this]
    · simp only [st1, List.length_append, qksV_len, List.length_replicate, Array.size_append, List.size_toArray, Array.size_replicate]
      omega
    · intro t v hv'
      simp only [st1, List.getElem?_append] at hv'
      split at hv'
      · rename_i hlt
        obtain ⟨u, hu, hvr⟩ := hV.get hv'
        have : (args.toArray ++ Array.replicate (fn.ntmps - args.toArray.size) undef).getD t undef = u := by
          have hta : t < args.length := (List.getElem?_eq_some_iff.1 hu).1
          rw [Array.getD_eq_getD_getElem?, Array.getElem?_append_left (by simpa using hta)]
          simp [hu]
        rw [this]
        exact hvr
      · rw [List.getElem?_replicate] at hv'
        split at hv'
        · cases hv'
          trivial
        · cases hv'
  have fin : ∀ st γ' a w', rtIO rks (qks.flatMap QK.ods) st = some r → RS x γ' st a w' → a.defers = [] ∧ ∃ v, (results fn a.tmps).run P w' = .ok v w' ∧
      (GrowsBut is w w' ∧ ∃ js us, v = retVal us ∧ RetRs w w' (newA w w' A0 (js ++ is)) (rets rks r.1) js us ∧ All2 (OutR w' (newA w w' A0 (js ++ is))) (outsOf (qks.flatMap QK.ods) r.2) is) := by
    intro st γ' a w' hrt hr'
    unfold rtIO at hrt
    obtain ⟨hkl, hrt⟩ := cond_some hrt rfl
    obtain ⟨y1, h1, hrt⟩ := Option.bind_eq_some_iff.1 hrt
    obtain ⟨y2, h2, hrt⟩ := Option.bind_eq_some_iff.1 hrt
    cases hrt
    unfold rtG at h1
    obtain ⟨hk, h1⟩ := cond_some h1 rfl
    simp only [rkOK, Bool.and_eq_true] at hk
    have hnd := nodupB_spec hk.1
    have hklo : ∀ k ∈ (rks.flatMap (RK.ownK st)) ++ (rks.flatMap (RK.slK st)), k < pinLo := fun k hkm => Nat.le_of_ble_eq_true (List.all_eq_true.1 hkl k hkm)
    have hpins : ∀ j i, is[j]? = some i → γ' (pinLo + (0 + j)) = some i := by
      obtain ⟨_, j2⟩ := odsGet_R (A1 := Av x γ' w') hr' (fun b hb => hb) (qks.flatMap QK.ods) 0 is y2 h2 (by rw [hlen, qksCnt_ods]) (fun j i hj => by
        have := hpin j
        rw [hj] at this
        exact this)
      exact j2
    -- what the call may not give back lies in blocks of its own
    have hnM : ∀ k b c, k < pinLo → γ' k = some (.at b c) → w.heap.size ≤ b := by
      intro k b c hklt hkb
      rcases (hr'.inv.rng k b c hkb).1 with h | ⟨i, hi, c', rfl⟩
      · exact h
      · exfalso
        obtain ⟨j, hj⟩ := List.getElem?_of_mem hi
        have := hr'.inv.inj k _ b c c' hkb (hpins j _ hj)
        omega
    let js := rks.map (RK.info γ' st)
    have hjs : ∀ i ∈ js, ∀ b c, i = .at b c → ∃ k ∈ rks.flatMap (RK.ownK st), γ' k = some (.at b c) := by
      intro i hi b c he
      obtain ⟨rk, hm, rfl⟩ := List.mem_map.1 hi
      obtain ⟨k, hk, hg⟩ := info_at he
      exact ⟨k, List.mem_flatMap.2 ⟨rk, hm, hk⟩, hg⟩
    have hA1 : ∀ b, Av x γ' w' b → newA w w' A0 (js ++ is) b := by
      intro b hb
      refine ⟨hb.1, fun hlt => ?_, fun i hi c he => ?_⟩
      · rcases hb.2.1 hlt with h | ⟨i, hi, c, rfl⟩
        · exact h
        · exfalso
          obtain ⟨j, hj⟩ := List.getElem?_of_mem hi
          exact hb.2.2 _ c (hpins j _ hj)
      · rcases List.mem_append.1 hi with hi | hi
        · obtain ⟨k, _, hg⟩ := hjs i hi b c he
          exact hb.2.2 k c hg
        · obtain ⟨j, hj⟩ := List.getElem?_of_mem hi
          rw [he] at hj
          exact hb.2.2 _ c (hpins j _ hj)
    have hS : ∀ k ∈ rks.flatMap (RK.slK st), ∀ b c, γ' k = some (.at b c) → newA w w' A0 (js ++ is) b := by
      intro k hkm b c hg
      have hlo := hklo k (List.mem_append.2 (.inr hkm))
      have h5 := hnM k b c hlo hg
      refine ⟨(hr'.inv.rng k b c hg).2, fun hlt => by omega, fun i hi c' he => ?_⟩
      rcases List.mem_append.1 hi with hi | hi
      · obtain ⟨k', hk', hg'⟩ := hjs i hi b c' he
        have := hr'.inv.inj k k' b c c' hg hg'
        subst this
        have h3 := List.all_eq_true.1 hk.2 k hkm
        rw [mem_memN.2 hk'] at h3
        cases h3
      · have := (hMA b ⟨i, hi, c', he⟩).1
        omega
    obtain ⟨us, q1, q2⟩ := RKs_get (w0 := w) hT hr' hA1 rks fn.results.toList y1 hrk h1 hnd (fun k hkm b c hg => hnM k b c (hklo k (List.mem_append.2 (.inl hkm))) hg) hS
    obtain ⟨o1, _⟩ := odsGet_R (A1 := newA w w' A0 (js ++ is)) hr' hA1 (qks.flatMap QK.ods) 0 is y2 h2 (by rw [hlen, qksCnt_ods]) (fun j i hj => by
      have := hpin j
      rw [hj] at this
      exact this)
    refine ⟨hr'.nod, retVal us, results_run q1, ⟨hr'.inv.size, hr'.inv.os, hr'.inv.tape, hr'.inv.output, fun b hb hn => hr'.inv.blk b hb ?_⟩, js, us, rfl, q2, o1⟩
    rintro ⟨i, hi, c, he⟩
    exact hn i hi c he
  refine calls_of_wp hf hb (runG_sound hT hE hphi hpar hm c an (hsc x) _ _ _ _ _ _ _ _ h hr ⟨?_, ?_, ?_⟩)
  · intro st γ a w' hrt hr'
    exact fin st γ a w' hrt hr'
  · intro j st γ a w' hrt hr'
    cases hrt
  · intro st γ a w' hrt hr'
    exact fin st γ a w' hrt hr'
/-! ### What is called -/
def FCios (P : Program) (g : FuncId) (flags : List Bool) (F : List V → (ρ : Type) → (Ret → List Out → Option ρ) → Option ρ) : Prop :=
  ∀ vs ρ (K : Ret → List Out → Option ρ) r, F vs ρ K = some r → ∃ ret outs, K ret outs = some r ∧ FCio P g flags vs ret outs
def Pario1 (F : List V → (ρ : Type) → (Ret → List Out → Option ρ) → Option ρ) : Prop :=
  ∀ vs (ρ : Type) (K : Ret → List Out → Option ρ) r, F vs ρ K = some r → ∃ ret outs, K ret outs = some r ∧ ∀ (ρ' : Type) (K' : Ret → List Out → Option ρ'), F vs ρ' K' = K' ret outs
theorem phioOf_FCios {g : FuncId} {qks : List QK} {rks : List RK} {S : qksDen qks → Option (rksDen rks × odsDen (qks.flatMap QK.ods))} (h : ∀ xs r, S xs = some r → ∀ vs, qksArg qks vs = some xs → FCio P g (qks.map QK.flag) vs (rets rks r.1) (outsOf (qks.flatMap QK.ods) r.2)) :
    FCios P g (qks.map QK.flag) (phioOf qks rks (qks.flatMap QK.ods) S) := by
  intro vs ρ K r hk
  unfold phioOf at hk
  obtain ⟨xs, h1, hk⟩ := Option.bind_eq_some_iff.1 hk
  obtain ⟨y, h2, hk⟩ := Option.bind_eq_some_iff.1 hk
  exact ⟨_, _, hk, h xs y h2 vs h1⟩
theorem phioOf_Pario1 {qks : List QK} {rks : List RK} {ods : List OD} {S : qksDen qks → Option (rksDen rks × odsDen ods)} : Pario1 (phioOf qks rks ods S) := by
  intro vs ρ K r hk
  unfold phioOf at hk
  obtain ⟨xs, h1, hk⟩ := Option.bind_eq_some_iff.1 hk
  obtain ⟨y, h2, hk⟩ := Option.bind_eq_some_iff.1 hk
  refine ⟨_, _, hk, fun ρ' K' => ?_⟩
  simp only [phioOf, h1, Option.bind_some, h2]
/-- The callees that write: which one, by what its arguments are; what is handed in; what it does. -/
structure IoE where
  g : FuncId
  q : List V → Bool
  flags : List Bool
  F : List V → (ρ : Type) → (Ret → List Out → Option ρ) → Option ρ
def iopL : List IoE → FuncId → Option (List Bool)
  | [], _ => none
  | e :: r, g => bif Nat.beq g e.g then some e.flags else iopL r g
def phioL : List IoE → Phio
  | [], _, _, _, _ => none
  | e :: r, g, vs, ρ, K => bif Nat.beq g e.g && e.q vs then e.F vs ρ K else phioL r g vs ρ K
/-- Entries for one function hand in the same. -/
def ioSame : List IoE → Bool
  | [] => true
  | e :: r => r.all (fun e' => !(Nat.beq e'.g e.g) || e'.flags == e.flags) && ioSame r
def IoOK (P : Program) : List IoE → Prop
  | [] => True
  | e :: r => FCios P e.g e.flags e.F ∧ CallOK P e.g ∧ IoOK P r
def IoPar : List IoE → Prop
  | [] => True
  | e :: r => Pario1 e.F ∧ IoPar r
theorem phioL_mem : ∀ {l : List IoE} {g : FuncId} {vs : List V} {ρ : Type} {K : Ret → List Out → Option ρ} {r : ρ}, phioL l g vs ρ K = some r → ∃ e ∈ l, e.g = g ∧ e.F vs ρ K = some r ∧ ∀ (ρ' : Type) (K' : Ret → List Out → Option ρ'), phioL l g vs ρ' K' = e.F vs ρ' K'
  | [], g, vs, ρ, K, r, h => by cases h
  | e :: l, g, vs, ρ, K, r, h => by
    simp only [phioL] at h
    cases hb : Nat.beq g e.g && e.q vs with
    | true =>
      rw [hb] at h
      have hb' := hb
      rw [Bool.and_eq_true] at hb'
      exact ⟨e, by simp, (Nat.eq_of_beq_eq_true hb'.1).symm, h, fun ρ' K' => by simp only [phioL, hb, cond_true]⟩
    | false =>
      rw [hb] at h
      obtain ⟨e', h1, h2, h3, h4⟩ := phioL_mem h
      exact ⟨e', by simp [h1], h2, h3, fun ρ' K' => by simp only [phioL, hb, cond_false]; exact h4 ρ' K'⟩
theorem iopL_mem : ∀ {l : List IoE} {g : FuncId} {fl : List Bool}, iopL l g = some fl → ioSame l = true → ∀ e ∈ l, e.g = g → e.flags = fl
  | [], _, _, h, _, _, _, _ => by cases h
  | e :: l, g, fl, h, hs, e', he', hg => by
    simp only [iopL] at h
    simp only [ioSame, Bool.and_eq_true] at hs
    cases hb : Nat.beq g e.g with
    | true =>
      rw [hb] at h
      cases h
      have hge := Nat.eq_of_beq_eq_true hb
      rcases List.mem_cons.1 he' with rfl | hm
      · rfl
      · have := List.all_eq_true.1 hs.1 e' hm
        rw [hg, hge, Nat.beq_refl] at this
        simpa using this
    | false =>
      rw [hb] at h
      rcases List.mem_cons.1 he' with rfl | hm
      · rw [hg, Nat.beq_refl] at hb
        cases hb
      · exact iopL_mem h hs.2 e' hm hg
theorem IoOK.mem : ∀ {l : List IoE}, IoOK P l → ∀ e ∈ l, FCios P e.g e.flags e.F ∧ CallOK P e.g
  | [], _, _, h => by cases h
  | e :: l, h, e', he' => by
    rcases List.mem_cons.1 he' with rfl | hm
    · exact ⟨h.1, h.2.1⟩
    · exact IoOK.mem h.2.2 e' hm
theorem IoPar.mem : ∀ {l : List IoE}, IoPar l → ∀ e ∈ l, Pario1 e.F
  | [], _, _, h => by cases h
  | e :: l, h, e', he' => by
    rcases List.mem_cons.1 he' with rfl | hm
    · exact h.1
    · exact IoPar.mem h.2 e' hm
theorem envOK (h1 : PhiOK P E.phi) {l : List IoE} (hp : E.phio = phioL l) (hi : E.iop = iopL l) (hs : ioSame l = true) (h2 : IoOK P l) : EnvOK P E := by
  refine ⟨h1, fun g flags vs ρ K r hfl hk => ?_⟩
  rw [hp] at hk
  rw [hi] at hfl
  obtain ⟨e, hm, hg, hF, _⟩ := phioL_mem hk
  have hf := iopL_mem hfl hs e hm hg
  obtain ⟨hc, hcall⟩ := h2.mem e hm
  obtain ⟨ret, outs, q1, q2⟩ := hc vs ρ K r hF
  rw [hg, hf] at q2
  rw [hg] at hcall
  exact ⟨ret, outs, q1, q2, hcall⟩
theorem envPar (h1 : PhiPar E.phi) {l : List IoE} (hp : E.phio = phioL l) (h2 : IoPar l) : EnvPar E := by
  refine ⟨h1, fun g flags vs ρ K r _ hk => ?_⟩
  rw [hp] at hk ⊢
  obtain ⟨e, hm, hg, hF, hall⟩ := phioL_mem hk
  obtain ⟨ret, outs, q1, q2⟩ := h2.mem e hm vs ρ K r hF
  exact ⟨ret, outs, q1, fun ρ' K' => (hall ρ' K').trans (q2 ρ' K')⟩
theorem envOK0 (h1 : PhiOK P E.phi) (hp : E.phio = fun _ _ _ _ => none) (hi : E.iop = fun _ => none) : EnvOK P E :=
  ⟨h1, fun g flags vs ρ K r hfl hk => by rw [hi] at hfl; cases hfl⟩
theorem envPar0 (h1 : PhiPar E.phi) (hp : E.phio = fun _ _ _ _ => none) : EnvPar E :=
  ⟨h1, fun g flags vs ρ K r _ hk => by rw [hp] at hk; cases hk⟩
end
end Go.Vi
/-
  Vi: from what a statement's reading of the arguments says to the data that a contract wants; the given row.
-/
set_option linter.unusedVariables false
set_option linter.unusedSimpArgs false
namespace Go.Vi
open Go.ChangeShapes Go.WideShapes Go.ChangeAt Go.RowKit
def rdL (P : Program) (rd : TypeId → Sh → Bool) : Nat → List (Nat × TypeId) → Sh → Bool
  | off, [(o, t)], s => (Nat.beq o off && Nat.beq (P.cellsOf t) s.nc && rd t s) || (match s with | .pair a .unit => Nat.beq o off && Nat.beq (P.cellsOf t) a.nc && rd t a | _ => false)
  | off, (o, t) :: r, .pair a b => (Nat.beq o off && Nat.beq (P.cellsOf t) a.nc && rd t a) && rdL P rd (off + a.nc) r b
  | _, [], .unit => true
  | _, _, _ => false
/-- Does a type read as this shape? -/
def rdB (P : Program) : Nat → TypeId → Sh → Bool
  | 0, _, _ => false
  | n + 1, t, s =>
    match P.underlying t with
    | some .bool => decide (s = .bool)
    | some (.int k) => decide (s = .int k)
    | some .string => decide (s = .str)
    | some (.slice e) => (match s with | .sl e' => rdB P n e e' && Nat.beq (P.cellsOf e) e'.nc && Nat.ble 1 e'.nc | _ => false)
    | some (.struct fs) => s.agg && Nat.beq (P.cellsOf t) s.nc && rdL P (rdB P n) 0 (fs.toList.map fun f => (f.offset, f.type)) s
    | some (.array m e) => s.agg && Nat.beq (P.cellsOf t) s.nc && rdL P (rdB P n) 0 ((List.range m).map fun i => (i * P.cellsOf e, e)) s
    | _ => false
/-- Numbers lie within their kinds. -/
def Wf : (s : Sh) → s.den → Prop
  | .int k, n => (Lit.int k n).wf = true
  | .sl e, xs => xs.length ≤ 9223372036854775807 ∧ ∀ x ∈ xs, Wf e x
  | .pair a b, x => Wf a x.1 ∧ Wf b x.2
  | .str, s => s.size ≤ 9223372036854775807
  | _, _ => True
theorem mapM_some {α β : Type} {f : α → Option β} : ∀ {l : List α} {ys : List β}, l.mapM f = some ys → All2 (fun a y => f a = some y) l ys
  | [], ys, h => by
    simp at h
    subst h
    trivial
  | a :: l, ys, h => by
    rw [List.mapM_cons] at h
    cases h1 : f a with
    | none => rw [h1] at h; cases h
    | some y =>
      rw [h1] at h
      cases h2 : l.mapM f with
      | none =>
        rw [h2] at h
        cases h
      | some zs =>
        rw [h2] at h
        cases h
        exact ⟨h1, mapM_some h2⟩
theorem All2.unmap {α β γ : Type} {R : β → γ → Prop} {f : α → β} : ∀ {l : List α} {ys : List γ}, All2 (fun a y => R (f a) y) l ys → All2 R (l.map f) ys
  | [], [], _ => trivial
  | _ :: _, _ :: _, h => ⟨h.1, All2.unmap h.2⟩
section
variable {P : Program} {W : World} {H : Type} {enc : TypeId × Value → H} {sp : Nat → Bool} {held : Bool} {A : Nat → Prop}
theorem rdL_sound {rd : TypeId → Sh → Bool} {f : TypeId → List Value → Option (DataW H × List MemPlace)} (IH : ∀ t s cs d, rd t s = true → f t cs = some d → ∃ x : s.den, VRs W A s x cs ∧ Wf s x) (cs : List Value) :
    ∀ (l : List (Nat × TypeId)) (off : Nat) (s : Sh) (ys : List (DataW H × List MemPlace)), rdL P rd off l s = true → All2 (fun p y => f p.2 ((cs.drop p.1).take (P.cellsOf p.2)) = some y) l ys →
      ∃ x : s.den, VRs W A s x ((cs.drop off).take s.nc) ∧ Wf s x
  | [], off, s, ys, h, hy => by
    cases s <;> simp [rdL] at h
    exact ⟨(), by simp [VRs, Sh.nc], trivial⟩
  | [(o, t)], off, s, [y], h, hy => by
    simp only [rdL, Bool.or_eq_true, Bool.and_eq_true] at h
    rcases h with ⟨⟨h1, h2⟩, h3⟩ | h
    · have := Nat.eq_of_beq_eq_true h1
      have h2 := Nat.eq_of_beq_eq_true h2
      subst this
      have hy1 := hy.1
      simp only [h2] at hy1
      exact IH t s _ y h3 hy1
    · cases s with
      | pair a b =>
        cases b with
        | unit =>
          simp only [Bool.and_eq_true] at h
          obtain ⟨⟨h1, h2⟩, h3⟩ := h
          have := Nat.eq_of_beq_eq_true h1
          have h2 := Nat.eq_of_beq_eq_true h2
          subst this
          have hy1 := hy.1
          simp only [h2] at hy1
          obtain ⟨x, hx, hw⟩ := IH t a _ y h3 hy1
          refine ⟨(x, ()), ⟨?_, ?_⟩, hw, trivial⟩
          · simpa [Sh.nc, List.take_take] using hx
          · simp [Sh.nc, VRs]
        | _ => simp at h
      | _ => simp at h
  | (o, t) :: p :: r, off, s, y :: ys, h, hy => by
    cases s with
    | pair a b =>
      simp only [rdL, Bool.and_eq_true] at h
      obtain ⟨⟨⟨h1, h2⟩, h3⟩, h4⟩ := h
      have := Nat.eq_of_beq_eq_true h1
      have h2 := Nat.eq_of_beq_eq_true h2
      subst this
      have hy1 := hy.1
      simp only [h2] at hy1
      obtain ⟨x, hx, hw⟩ := IH t a _ y h3 hy1
      obtain ⟨x2, hx2, hw2⟩ := rdL_sound IH cs (p :: r) _ b ys h4 hy.2
      refine ⟨(x, x2), ⟨?_, ?_⟩, hw, hw2⟩
      · rw [Sh.nc, List.take_take, Nat.min_eq_left (by omega)]
        exact hx
      · rw [Sh.nc, List.drop_take, List.drop_drop, Nat.add_sub_cancel_left]
        exact hx2
    | _ => simp [rdL] at h
  | [_], _, _, [], _, hy => hy.elim
  | [_], _, _, _ :: _ :: _, _, hy => hy.2.elim
  | _ :: _ :: _, _, _, [], _, hy => hy.elim
theorem rows_of {e : Sh} {f : List Value → Option (DataW H × List MemPlace)} (IH : ∀ cs d, f cs = some d → ∃ x : e.den, VRs W A e x cs ∧ Wf e x) {n : Nat} {a : Addr} : ∀ (l : List Nat) (ys : List (DataW H × List MemPlace)),
    All2 (fun i y => (W.cells? 0 (a.add (i * n)) n).bind f = some y) l ys → ∃ xs : List e.den, All2 (fun i x => ∃ us, W.cells? 0 (a.add (i * n)) n = some us ∧ VRs W A e x us) l xs ∧ ∀ x ∈ xs, Wf e x
  | [], [], _ => ⟨[], trivial, by simp⟩
  | i :: l, y :: ys, h => by
    obtain ⟨us, h1, h2⟩ := Option.bind_eq_some_iff.1 h.1
    obtain ⟨x, hx, hw⟩ := IH us y h2
    obtain ⟨xs, hxs, hws⟩ := rows_of IH l ys h.2
    exact ⟨x :: xs, ⟨⟨us, h1, hx⟩, hxs⟩, by simpa using ⟨hw, hws⟩⟩
theorem cells_row {b o : Nat} {cur : Array Value} {et : TypeId} {fz : Nat × Nat} (h : W.heap[b]? = some (.cells cur et fz)) : ∀ {n : Nat} {us : List Value}, W.cells? 0 ⟨b, o, none⟩ n = some us → us = (cur.toList.drop o).take n ∧ o + us.length ≤ o + n ∧ us.length = n ∧ (0 < n → o + n ≤ cur.size) := by
  intro n us hu
  simp only [World.cells?, Nat.zero_le, if_true] at hu
  have h1 := mapM_some hu
  have hl := h1.length
  simp at hl
  have hg : ∀ i, i < n → us[i]? = cur.toList[o + i]? ∧ o + i < cur.size := by
    intro i hi
    obtain ⟨v, h2, h3⟩ := h1.get (i := i) (a := i) (by simp [hi])
    rw [add_eq, cell_row h] at h3
    rw [h2, h3]
    refine ⟨rfl, ?_⟩
    have := List.getElem?_eq_some_iff.1 h3
    obtain ⟨this, _⟩ := this
    simpa using this
  refine ⟨?_, by omega, hl.symm, fun hn => by have := (hg (n - 1) (by omega)).2; omega⟩
  apply List.ext_getElem?
  intro i
  rw [List.getElem?_take, List.getElem?_drop]
  split
  · rename_i hi
    exact (hg i hi).1
  · rename_i hi
    exact List.getElem?_eq_none (by omega)
theorem All2.range {α : Type} {R : Nat → α → Prop} {n : Nat} {xs : List α} (h : All2 R (List.range n) xs) : xs.length = n ∧ ∀ i x, xs[i]? = some x → R i x := by
  have hl := h.length
  simp at hl
  refine ⟨hl.symm, fun i x hx => ?_⟩
  have hi : i < n := by
    obtain ⟨hi, _⟩ := List.getElem?_eq_some_iff.1 hx
    omega
  obtain ⟨y, h1, h2⟩ := h.get (i := i) (a := i) (by simp [hi])
  rw [h1] at hx
  cases hx
  exact h2
theorem rdB_sound (hA : ∀ b, b < W.heap.size → A b) : ∀ (n : Nat) (t : TypeId) (s : Sh) (fuel : Nat) (cs : List Value) (d : DataW H × List MemPlace), rdB P n t s = true → DataW.trod enc P W 0 sp held fuel t cs = some d →
    ∃ x : s.den, VRs W A s x cs ∧ Wf s x
  | 0, _, _, _, _, _, h, _ => by cases h
  | n + 1, t, s, 0, cs, d, h, hd => by cases hd
  | n + 1, t, s, fuel + 1, cs, d, h, hd => by
    unfold rdB at h
    split at h
    · rename_i hu
      have hs := of_decide_eq_true h
      subst hs
      simp only [DataW.trod, hu] at hd
      match cs, hd with
      | [.bool b], _ => exact ⟨(b : Bool), rfl, trivial⟩
    · rename_i k hu
      have hs := of_decide_eq_true h
      subst hs
      simp only [DataW.trod, hu] at hd
      match cs, hd with
      | [.int k' m], hd =>
        have hd : (if k' = k ∧ (Lit.int k m).wf = true then some (DataW.lit (Lit.int k m), []) else none) = some d := hd
        by_cases hc : k' = k ∧ (Lit.int k m).wf = true
        · obtain ⟨rfl, hw⟩ := hc
          exact ⟨(m : Int), rfl, hw⟩
        · rw [if_neg hc] at hd
          cases hd
    · rename_i hu
      have hs := of_decide_eq_true h
      subst hs
      simp only [DataW.trod, hu] at hd
      match cs, hd with
      | [.string b], hd =>
        have hd : (if b.size ≤ maxLen then some (DataW.lit (Lit.string b.data.toList), []) else none) = some d := hd
        by_cases hc : b.size ≤ maxLen
        · refine ⟨(b : ByteArray), rfl, ?_⟩
          simp only [Wf]
          exact Nat.le_trans hc (by decide)
        · rw [if_neg hc] at hd
          cases hd
    · rename_i et hu
      cases s with
      | sl e =>
        simp only [Bool.and_eq_true] at h
        obtain ⟨⟨h1, h2⟩, h3⟩ := h
        have h2 := Nat.eq_of_beq_eq_true h2
        have h3 := Nat.le_of_ble_eq_true h3
        simp only [DataW.trod, hu] at hd
        match cs, hd with
        | [.slice none 0 0], _ => exact ⟨[], ⟨none, 0, rfl, by simp, .inl rfl⟩, by simp [Wf]⟩
        | [.slice (some a) len cap], hd =>
          by_cases hc : 0 ≤ a.block ∧ len ≤ cap ∧ cap ≤ maxLen
          · simp only [hc, and_self, if_true] at hd
            obtain ⟨elems, he, hd⟩ := Option.bind_eq_some_iff.1 hd
            have he := mapM_some he
            rw [h2] at he
            obtain ⟨xs, hxs, hw⟩ := rows_of (e := e) (f := DataW.trod enc P W 0 sp held fuel et) (fun cs d hd => rdB_sound hA n et e fuel cs d h1 hd) _ _ he
            obtain ⟨hlen, hget⟩ := All2.range hxs
            refine ⟨xs, ⟨some a, cap, by rw [hlen], by omega, ?_⟩, ?_, hw⟩
            · cases hxl : xs with
              | nil => exact .inl rfl
              | cons y ys =>
                right
                have hlp : 0 < xs.length := by rw [hxl]; simp
                obtain ⟨us0, hu0, _⟩ := hget 0 xs[0] (List.getElem?_eq_getElem hlp)
                have hc0 := mapM_some (by simpa [World.cells?] using hu0 : (List.range e.nc).mapM (fun i => W.cell? ((a.add (0 * e.nc)).add i)) = some us0)
                obtain ⟨v0, _, hv0⟩ := hc0.get (i := 0) (a := 0) (List.getElem?_range (by omega))
                simp [Addr.add] at hv0
                have hsp := World.cell?_spot hv0
                obtain ⟨b, o, spot⟩ := a
                simp at hsp
                subst hsp
                have hblk : ∃ cur et' fz, W.heap[b]? = some (.cells cur et' fz) := by
                  unfold World.cell? at hv0
                  simp only at hv0
                  split at hv0
                  · rename_i c _ _ hb
                    exact ⟨_, _, _, hb⟩
                  · cases hv0
                obtain ⟨cur, et', fz, hb⟩ := hblk
                have hbl : b < W.heap.size := by
                  obtain ⟨hi, _⟩ := Array.getElem?_eq_some_iff.1 hb
                  exact hi
                rw [← hxl]
                refine ⟨b, o, cur, et', fz, rfl, hA b hbl, hb, ?_, ?_⟩
                · obtain ⟨us, hus, _⟩ := hget (xs.length - 1) (xs[xs.length - 1]'(by omega)) (by simp [hlp])
                  rw [add_eq] at hus
                  have := (cells_row hb hus).2.2.2 (by omega)
                  have e2 : (xs.length - 1) * e.nc + e.nc = xs.length * e.nc := by
                    conv => rhs; rw [show xs.length = (xs.length - 1) + 1 by omega, Nat.add_mul, Nat.one_mul]
                  omega
                · intro i x hx
                  obtain ⟨us, hus, hv⟩ := hget i x hx
                  rw [add_eq] at hus
                  rw [← (cells_row hb hus).1]
                  exact hv
            · have h4 := hc.2.2
              have h5 : cap ≤ 9223372036854775807 := Nat.le_trans h4 (by decide)
              omega
          · simp only [hc, if_false] at hd
            cases hd
      | _ => cases h
    · rename_i fs hu
      simp only [Bool.and_eq_true] at h
      obtain ⟨⟨h1, h2⟩, h3⟩ := h
      have h2 := Nat.eq_of_beq_eq_true h2
      simp only [DataW.trod, hu] at hd
      split at hd
      · rename_i hc
        obtain ⟨ys, hy, _⟩ := Option.map_eq_some_iff.1 hd
        have hy := mapM_some hy
        have hy2 := All2.unmap (R := fun (p : Nat × TypeId) y => DataW.trod enc P W 0 sp held fuel p.2 ((cs.drop p.1).take (P.cellsOf p.2)) = some y) (f := fun (f : Field) => (f.offset, f.type)) hy
        obtain ⟨x, hx, hw⟩ := rdL_sound (fun t s cs d ht hd => rdB_sound hA n t s fuel cs d ht hd) cs _ 0 s ys h3 hy2
        refine ⟨x, ?_, hw⟩
        rwa [List.drop_zero, List.take_of_length_le (by omega)] at hx
      · cases hd
    · rename_i m e hu
      simp only [Bool.and_eq_true] at h
      obtain ⟨⟨h1, h2⟩, h3⟩ := h
      have h2 := Nat.eq_of_beq_eq_true h2
      simp only [DataW.trod, hu] at hd
      split at hd
      · rename_i hc
        obtain ⟨ys, hy, _⟩ := Option.map_eq_some_iff.1 hd
        have hy := mapM_some hy
        have hy2 := All2.unmap (R := fun (p : Nat × TypeId) y => DataW.trod enc P W 0 sp held fuel p.2 ((cs.drop p.1).take (P.cellsOf p.2)) = some y) (f := fun i => (i * P.cellsOf e, e)) hy
        obtain ⟨x, hx, hw⟩ := rdL_sound (fun t s cs d ht hd => rdB_sound hA n t s fuel cs d ht hd) cs _ 0 s ys h3 hy2
        refine ⟨x, ?_, hw⟩
        rwa [List.drop_zero, List.take_of_length_le (by omega)] at hx
      · cases hd
    · cases h
theorem ofC_cells : ∀ (s : Sh) (x : s.den), ofC s (cells s x) = some x
  | .int k, x => by simp [cells, ofC]
  | .bool, x => rfl
  | .str, x => rfl
  | .sl e, xs => by simp [cells, ofC]
  | .unit, x => rfl
  | .pair a b, x => by
    have h1 : (cells a x.1 ++ cells b x.2).take a.nc = cells a x.1 := by rw [← cells_length a x.1, List.take_left]
    have h2 : (cells a x.1 ++ cells b x.2).drop a.nc = cells b x.2 := by rw [← cells_length a x.1, List.drop_left]
    simp only [cells, ofC, h1, h2, ofC_cells a, ofC_cells b]
theorem valOf_val (s : Sh) (x : s.den) : valOf s ((PK.c s).val x) = some x := by
  cases hs : s.agg with
  | true => simp only [PK.val, hs, cond_true, valOf, ofC_cells]
  | false =>
    have hl := cells_length s x
    rw [nagg_one hs] at hl
    match hc : cells s x, hl with
    | [c], _ =>
      have e : (PK.c s).val x = .c c := by simp only [PK.val, hs, cond_false, hc]
      rw [e]
      simp only [valOf, hs, cond_false]
      rw [← hc]
      exact ofC_cells s x
theorem rdB_agg {n : Nat} {t : TypeId} {s : Sh} (h : rdB P n t s = true) (hs : s.agg = true) : (∃ fs, P.underlying t = some (.struct fs)) ∨ ∃ m e, P.underlying t = some (.array m e) := by
  cases n with
  | zero => cases h
  | succ n =>
    unfold rdB at h
    split at h
    · have := of_decide_eq_true h; subst this; cases hs
    · have := of_decide_eq_true h; subst this; cases hs
    · have := of_decide_eq_true h; subst this; cases hs
    · cases s <;> first | cases h | cases hs
    · rename_i fs hu; exact .inl ⟨_, hu⟩
    · rename_i m e hu; exact .inr ⟨_, _, hu⟩
    · cases h
theorem rdB_nagg {n : Nat} {t : TypeId} {s : Sh} (h : rdB P n t s = true) (hs : s.agg = false) : P.underlying t = some .bool ∨ (∃ k, P.underlying t = some (.int k)) ∨ P.underlying t = some .string ∨ ∃ e, P.underlying t = some (.slice e) := by
  cases n with
  | zero => cases h
  | succ n =>
    unfold rdB at h
    split at h
    · rename_i hu; exact .inl hu
    · rename_i k hu; exact .inr (.inl ⟨k, hu⟩)
    · rename_i hu; exact .inr (.inr (.inl hu))
    · rename_i e hu; exact .inr (.inr (.inr ⟨e, hu⟩))
    · simp [hs] at h
    · simp [hs] at h
    · cases h
theorem trod_arg {n : Nat} {t : TypeId} {s : Sh} {v : Value} {d : DataW H} {ps : List MemPlace} {base : Nat} {r : Reach} (hn : rdB P n t s = true) (hval : Value.okWide P W r base t v) (h : DataW.Trod enc P W 0 sp held t v d ps) (hA : ∀ b, b < W.heap.size → A b) :
    ∃ x : s.den, VR noGam W A emp ((PK.c s).val x) v ∧ Wf s x := by
  obtain ⟨fuel, h⟩ := h
  obtain ⟨x, hx, hw⟩ := rdB_sound hA n t s fuel _ _ hn h
  refine ⟨x, ?_, hw⟩
  have hc := CR.of_VRs s x _ hx
  cases hs : s.agg with
  | true =>
    simp only [PK.val, hs, cond_true]
    have : ∃ cs, v = .agg cs := by
      rcases rdB_agg hn hs with ⟨fs, hu⟩ | ⟨m, e, hu⟩
      · simp only [Value.okWide, hu] at hval
        obtain ⟨cs, h1, _⟩ := hval
        exact ⟨cs, h1⟩
      · simp only [Value.okWide, hu] at hval
        obtain ⟨cs, h1, _⟩ := hval
        exact ⟨cs, h1⟩
    obtain ⟨cs, rfl⟩ := this
    exact ⟨cs.toList, by simp, hc⟩
  | false =>
    have hl := cells_length s x
    rw [nagg_one hs] at hl
    match hcs : cells s x, hl with
    | [c], _ =>
      rw [hcs] at hc
      obtain ⟨u, hu, hcr⟩ := hc.one
      have : v = u := by
        cases v with
        | agg cs =>
          exfalso
          rcases rdB_nagg hn hs with h1 | ⟨k, h1⟩ | h1 | ⟨e, h1⟩ <;> simp [Value.okWide, h1, Cell.okWide, Cell.ok] at hval
        | _ => simpa [Value.cells] using hu
      subst this
      simp only [PK.val, hs, cond_false, hcs]
      exact hcr
end
end Go.Vi
/-
  Vi: a law's contract out of its contract in data: it returns true, and what it was handed reads as before.
-/
set_option linter.unusedVariables false
set_option linter.unusedSimpArgs false
namespace Go.Vi
open Go.ChangeShapes Go.WideShapes Go.ChangeAt Go.RowKit
section
variable {P : Program} {W W' : World} {H : Type} {enc : TypeId × Value → H} {A : Nat → Prop}
def pks (ss : List Sh) : List PK := ss.map .c
def rdArgs (P : Program) (n : Nat) : List TypeId → List Sh → Bool
  | [], [] => true
  | t :: ts, s :: ss => rdB P n t s && rdArgs P n ts ss
  | _, _ => false
def WfL : (ss : List Sh) → pksDen (pks ss) → Prop
  | [], _ => True
  | s :: ss, x => Wf s x.1 ∧ WfL ss x.2
theorem trodAll_args {n base : Nat} {r : Reach} {sp : Nat → Bool} {held : Bool} (hA : ∀ b, b < W.heap.size → A b) : ∀ {ts : List TypeId} {ss : List Sh} {vs : List Value} {ds : List (DataW H)} {ps : List MemPlace}, rdArgs P n ts ss = true →
    (∀ (j : Nat) t v, ts[j]? = some t → vs[j]? = some v → Value.okWide P W r base t v) → DataW.TrodAll enc P W 0 sp held ts vs ds ps →
    ∃ xs : pksDen (pks ss), All2 (VR noGam W A emp) (pksV (pks ss) xs) vs ∧ WfL ss xs
  | [], [], vs, ds, ps, _, _, h => by
    obtain ⟨rfl, _, _⟩ := trodAll_nil h
    exact ⟨(), trivial, trivial⟩
  | t :: ts, s :: ss, vs, ds, ps, hr, hv, h => by
    simp only [rdArgs, Bool.and_eq_true] at hr
    obtain ⟨v, vs', d, ds', p, q, rfl, rfl, rfl, h1, h2⟩ := trodAll_cons h
    obtain ⟨x, hx, hw⟩ := trod_arg hr.1 (hv 0 t v rfl rfl) h1 hA
    obtain ⟨xs, hxs, hws⟩ := trodAll_args hA hr.2 (fun j t v ht hv' => hv (j + 1) t v (by simpa using ht) (by simpa using hv')) h2
    exact ⟨(x, xs), ⟨hx, hxs⟩, hw, hws⟩
  | [], _ :: _, _, _, _, hr, _, _ => by cases hr
  | _ :: _, [], _, _, _, hr, _, _ => by cases hr
theorem pksArg_val : ∀ (ss : List Sh) (xs : pksDen (pks ss)), pksArg (pks ss) (pksV (pks ss) xs) = some xs
  | [], _ => rfl
  | s :: ss, xs => by
    have h1 : (PK.c s).arg ((PK.c s).val xs.1) = some xs.1 := valOf_val s xs.1
    have h2 := pksArg_val ss xs.2
    show ((PK.c s).arg ((PK.c s).val xs.1)).bind (fun x => (pksArg (pks ss) (pksV (pks ss) xs.2)).bind fun y => some (x, y)) = _
    rw [h1, h2]
    rfl
theorem Grows.below (h : Grows W W') : RowKit.Below W.heap.size W W' := ⟨h.os, h.tape, h.output, h.size, h.blk⟩
/-- The call returns true. -/
theorem law_calls {g : FuncId} {ss : List Sh} {t0 : Nat} {S : pksDen (pks ss) → Option Bool} (hfc : FCs P g (phiOf (pks ss) [.c .bool t0] S)) {xs : pksDen (pks ss)} (hS : S xs = some true) {args : Array Value} (hA : ∀ b, A b → b < W.heap.size)
    (ha : All2 (VR noGam W A emp) (pksV (pks ss) xs) args.toList) (hgl : GlobOK W A) : Calls P g args W fun e W' => e = .returned (.bool true) ∧ Grows W W' := by
  have hrun : phiOf (pks ss) [RK.c .bool t0] S (pksV (pks ss) xs) Ret some = some [.val (.bool true)] := by
    unfold phiOf
    rw [pksArg_val]
    simp only [Option.bind_some, hS]
    rfl
  obtain ⟨ret, hret, hf⟩ := hfc _ _ _ _ hrun
  cases hret
  have := hf W A args.toList hA ha hgl
  refine this.mono fun e w' he => ?_
  cases e with
  | returned u =>
    obtain ⟨hg, is, us, rfl, hr⟩ := he
    match is, us, hr with
    | [i], [u], hr =>
      have : u = .bool true := hr.1
      subst this
      exact ⟨rfl, hg⟩
    | _ :: _ :: _, _ :: us, hr => cases us <;> exact hr.2.2.elim
  | panicked _ => exact he.elim
  | outgrown => exact he.elim
theorem trodAll_stays (hl : laidOutB P = true) (hb : RowKit.Below W.heap.size W W') : ∀ {ts : List TypeId} {vs : List Value} {ds : List (DataW H)} {ps : List MemPlace}, (∀ t ∈ ts, P.readableRec t = true ∧ t < P.types.size) → (∀ x ∈ ps, x.block < W.heap.size) →
    DataW.TrodAll enc P W 0 (fun _ => true) true ts vs ds ps → DataW.TrodAll enc P W' 0 (fun b => decide (b < W.heap.size)) true ts vs ds ps
  | [], vs, ds, ps, _, _, h => by
    obtain ⟨rfl, rfl, rfl⟩ := trodAll_nil h
    rfl
  | t :: ts, vs, ds, ps, ht, hps, h => by
    obtain ⟨v, vs', d, ds', p, q, rfl, rfl, rfl, h1, h2⟩ := trodAll_cons h
    have := ht t (by simp)
    exact ⟨p, q, Below.trod hl this.1 this.2 h1 hb (fun x hx => hps x (List.mem_append.2 (.inl hx))), trodAll_stays hl hb (fun t' ht' => ht t' (List.mem_cons_of_mem _ ht')) (fun x hx => hps x (List.mem_append.2 (.inr hx))) h2, rfl⟩
/-- What a row asks of a call. -/
theorem law_post {g : FuncId} {fn : Func} {spec : ChangeSpec} {ss : List Sh} {t0 n base tb : Nat} {S : Nat × Nat → pksDen (pks ss) → Option Bool} (hfc : ∀ n, FCs P g (phiOf (pks ss) [.c .bool t0] (S n)))
    (hS : ∀ xs, WfL ss xs → ∃ n, S n xs = some true) (hl : laidOutB P = true) (hr : rdArgs P n fn.params.toList ss = true) (hts : fn.params.toList.all (fun t => P.readableRec t && decide (t < P.types.size)) = true)
    (hrt : fn.resultTypes = #[tb]) (hu : P.underlying tb = some .bool) (hvars : spec.vars = [])
    (hspec : ∀ (H : Type) (ds : List (DataW H)), ds.length = ss.length → spec.fn H ds = { results := [.lit (.bool true)], args := ds, vars := [] })
    {args : Array Value} {ds gs : List (DataW H)} {before : List MemPlace} (hval : ∀ (j : Nat) t v, fn.params[j]? = some t → args[j]? = some v → Value.okWide P W .any base t v)
    (hW : DataW.Whole enc P fn.params.toList spec.vars false W args.toList ds gs before) (hgl : GlobOK W (fun b => b < W.heap.size)) :
    Calls P g args W fun e W' => ∃ v, e = .returned v ∧ spec.post enc P fn false true false false W args v W' := by
  have hW' := hW
  obtain ⟨p, q, hA0, hV, rfl, hfz, hnd⟩ := hW
  have hlt : ∀ x ∈ p ++ q, x.block < W.heap.size := fun x hx => by simpa using hW'.lt x hx
  rw [hvars] at hV
  obtain ⟨rfl, rfl⟩ := trodVars_none hV
  obtain ⟨xs, hxs, hws⟩ := trodAll_args (A := fun b => b < W.heap.size) (fun b hb => hb) hr (fun j t v ht hv => hval j t v (by simpa using ht) (by simpa using hv)) hA0
  obtain ⟨m, hm⟩ := hS xs hws
  refine (law_calls (hfc m) hm (fun b hb => hb) hxs hgl).mono fun e W' ⟨he, hg⟩ => ?_
  subst he
  have hlen : ds.length = ss.length := by
    have h1 : ∀ {ts : List TypeId} {vs : List Value} {ds : List (DataW H)} {ps : List MemPlace}, DataW.TrodAll enc P W 0 (fun _ => true) true ts vs ds ps → ds.length = ts.length := by
      intro ts
      induction ts with
      | nil =>
        intro vs ds ps h
        obtain ⟨_, rfl, _⟩ := trodAll_nil h
        rfl
      | cons t ts ih =>
        intro vs ds ps h
        obtain ⟨v, vs', d, ds', p, q, rfl, rfl, rfl, h1, h2⟩ := trodAll_cons h
        simp [ih h2]
    have h2 : ∀ {ts : List TypeId} {ss : List Sh}, rdArgs P n ts ss = true → ts.length = ss.length := by
      intro ts
      induction ts with
      | nil => intro ss h; cases ss <;> first | rfl | cases h
      | cons t ts ih =>
        intro ss h
        cases ss with
        | nil => cases h
        | cons s ss =>
          simp only [rdArgs, Bool.and_eq_true] at h
          simp [ih h.2]
    rw [h1 hA0, h2 hr]
  have hsp := hspec H (ds ++ []) (by simpa using hlen)
  refine ⟨_, rfl, ds, [], p ++ [], [], p, [], hW', ?_, ?_, ?_, hg.below.frame _, fun h => by cases h⟩
  · rw [hsp, hrt]
    exact trodAll_mk1 (shut_bool hu _)
  · rw [hsp]
    simp only [List.append_nil]
    refine trodAll_stays hl hg.below ?_ (fun x hx => hlt x (List.mem_append.2 (.inl hx))) hA0
    intro t ht
    have := List.all_eq_true.1 hts t ht
    simp only [Bool.and_eq_true, decide_eq_true_eq] at this
    exact this
  · rw [hsp, hvars]
    rfl
end
end Go.Vi
set_option linter.unusedVariables false
set_option linter.unusedSimpArgs false
set_option maxRecDepth 100000
namespace Go.Proofs.YtkfkbebinhkdlaaDoor
open Go.ChangeShapes Go.WideShapes Go.ChangeAt Go.RowKit Go.Vi
def tab32 : List Int := [0, 1, 28, 2, 29, 14, 24, 3, 30, 22, 20, 15, 25, 17, 4, 8, 31, 27, 13, 23, 21, 19, 16, 7, 26, 12, 18, 6, 11, 5, 10, 9]
def tab64 : List Int := [0, 1, 56, 2, 57, 49, 28, 3, 61, 58, 42, 50, 38, 29, 17, 4, 62, 47, 59, 36, 45, 43, 51, 22, 53, 39, 33, 30, 24, 18, 12, 5, 63, 55, 48, 27, 60, 41, 37, 16, 46, 35, 44, 21, 52, 32, 23, 11, 54, 26, 40, 15, 34, 20, 31, 10, 25, 14, 19, 9, 13, 8, 7, 6]
def setTab (w : World) (b : Nat) (k : IntKind) (l : List Int) : World :=
  { w with heap := w.heap.modify b fun
      | .cells _ t frozen => .cells (l.map fun m => Value.int k m).toArray t frozen
      | o => o }
noncomputable def laidWorld (os : Os) : World := setTab (setTab (World.holding Tryd.prog os ⟨#[], #[], []⟩) 0 .u8 tab32) 1 .u8 tab64
abbrev laidL : List (String × DataW Unit) := [("math/bits.deBruijn32tab", Rows.laid_math_bits_deBruijn32tab), ("math/bits.deBruijn64tab", Rows.laid_math_bits_deBruijn64tab)]
theorem laidWorld_met (os : Os) (args : Array Value) : laidMet Tryd.prog laidL ((laidWorld os).forCall (fun _ _ => 0) ⟨#[], args, []⟩).memory :=
  laidMet_of_run' 8 (by kernel_rfl) (by kernel_rfl)
/-- A listed table of numbers lies where the row says. -/
theorem glob_of_vars {P : Program} {W : World} {nm : String} {g t n e : Nat} {k : IntKind} {ns : List Int} {rest : List (String × DataW Unit)} {ps : List MemPlace} (h : DataW.LaidVars P W ((nm, .agg (ns.map fun m => .lit (.int k m))) :: rest) ps) (hg : P.globalNamed nm = some g) (ht : (P.globals[g]?).map (·.type) = some t)
    (hu : P.underlying t = some (.array n e)) (he : P.underlying e = some (.int k)) (hc : P.cellsOf e = 1) (hct : P.cellsOf t = n) : (∃ cur et fz, W.heap[g]? = some (.cells cur et fz) ∧ cur.toList = ns.map fun m => .int k m) ∧ ∃ q, DataW.LaidVars P W rest q := by
  obtain ⟨g0, t0, cs0, f0, p0, q0, hg0, ht0, hv0, hd0, hq, _⟩ := h
  refine ⟨?_, q0, hq⟩
  obtain rfl := Option.some.inj (hg.symm.trans hg0)
  obtain rfl := Option.some.inj (ht.symm.trans ht0)
  obtain ⟨xs, m, _, hx, hl, hxl, hget⟩ := DataW.trod_array hu hd0
  have hcur : ∃ et fz, W.heap[g]? = some (.cells cs0 et fz) := by
    unfold World.var? at hv0
    rw [hg, Option.bind_some] at hv0
    split at hv0
    · rename_i c et fz hb
      cases hv0
      exact ⟨et, fz, hb⟩
    · cases hv0
  obtain ⟨et, fz, hb⟩ := hcur
  refine ⟨cs0, et, fz, hb, ?_⟩
  have e1 : xs.map (·.1) = ns.map fun m => .lit (.int k m) := by
    have := congrArg Prod.fst hx
    simp only [DataW.agg.injEq] at this
    exact this.symm
  have hnl : ns.length = n := by
    have := congrArg List.length e1
    simp only [List.length_map] at this
    omega
  apply List.ext_getElem
  · rw [hl, hct, List.length_map, hnl]
  · intro i h1 h2
    have hi : i < n := by rw [hl, hct] at h1; exact h1
    have h3 := hget i hi
    rw [List.getElem?_eq_getElem (by omega)] at h3
    obtain ⟨z, e2, e3, _⟩ := DataW.trod_int he h3
    have e4 : xs[i].1 = .lit (.int k (ns[i]'(by omega))) := by
      have := congrArg (fun l => l[i]?) e1
      simp only [List.getElem?_map, List.getElem?_eq_getElem (show i < xs.length by omega), List.getElem?_eq_getElem (show i < ns.length by omega), Option.map_some, Option.some.injEq] at this
      exact this
    rw [e3] at e4
    simp only [DataW.lit.injEq, Lit.int.injEq, true_and] at e4
    rw [hc, Nat.mul_one, List.drop_eq_getElem_cons h1] at e2
    simp only [List.take_succ_cons, List.take_zero, List.cons.injEq, and_true] at e2
    rw [e2, List.getElem_map, e4]
theorem globs_vars {W : World} {rest : List (String × DataW Unit)} (h : laidMet Tryd.prog (laidL ++ rest) W) : GlobOK W (fun b => b < W.heap.size) := by
  obtain ⟨ps, h, _, _⟩ := h
  obtain ⟨⟨cur, et, fz, hb, hc⟩, q, h⟩ := glob_of_vars (P := Tryd.prog) (nm := "math/bits.deBruijn32tab") (g := 0) (t := 179) (n := 32) (e := 5) (k := .u8) (ns := tab32) h (by kernel_rfl) (by kernel_rfl) (by kernel_rfl) (by kernel_rfl) (by kernel_rfl) (by kernel_rfl)
  obtain ⟨⟨cur1, et1, fz1, hb1, hc1⟩, _⟩ := glob_of_vars (P := Tryd.prog) (nm := "math/bits.deBruijn64tab") (g := 1) (t := 180) (n := 64) (e := 5) (k := .u8) (ns := tab64) h (by kernel_rfl) (by kernel_rfl) (by kernel_rfl) (by kernel_rfl) (by kernel_rfl) (by kernel_rfl)
  intro g ns hg
  match g, hg with
  | 0, hg =>
    cases hg
    exact ⟨(Array.getElem?_eq_some_iff.1 hb).1, (Array.getElem?_eq_some_iff.1 hb).1, cur, et, fz, hb, hc⟩
  | 1, hg =>
    cases hg
    exact ⟨(Array.getElem?_eq_some_iff.1 hb1).1, (Array.getElem?_eq_some_iff.1 hb1).1, cur1, et1, fz1, hb1, hc1⟩
  | g + 2, hg => cases hg
theorem globs_ok {W : World} (h : laidMet Tryd.prog laidL W) : GlobOK W (fun b => b < W.heap.size) := globs_vars (rest := []) h
/-! With the two tables of utf8. -/
def setRow (w : World) (b : Nat) (l : List Value) : World :=
  { w with heap := w.heap.modify b fun
      | .cells _ t frozen => .cells l.toArray t frozen
      | o => o }
end Go.Proofs.YtkfkbebinhkdlaaDoor
/-
  Vi: marked code that a text of ours walks: it makes one thing, and may leave some temporaries in disorder.
-/
set_option linter.unusedVariables false
set_option linter.unusedSimpArgs false
namespace Go.Vi
/-- The call's surroundings, from here on: what is not the call's own may turn no more. -/
def Cx.anew (x : Cx) {γ : Gam} {H : Heap} {w : World} (hi : Inv x γ H w) (ds : List Deferred) : Cx where
  B := w.heap.size
  M := fun b => ∃ k c, γ k = some (.at b c)
  A0 := fun b => Av x γ w b ∨ ∃ k c, γ k = some (.at b c)
  w0 := w
  ma := fun _ h => .inr h
  pin := x.pin
  pinlo := x.pinlo
  ds := ds
  glob := ⟨rfl, hi.globs.mono (Nat.le_refl _) fun b hb => ⟨.inl hb, rfl⟩⟩
  gM := fun g ns hg h => by
    obtain ⟨k, c, hk⟩ := h
    exact (hi.globs g ns hg).2.1.2.2 k c hk
theorem Av.anew {x : Cx} {γ : Gam} {H : Heap} {w : World} {ds : List Deferred} (hi : Inv x γ H w) (b : Nat) (h : Av x γ w b) : Av (x.anew hi ds) γ w b ∧ w.heap[b]? = w.heap[b]? :=
  ⟨⟨h.1, fun _ => .inl h, h.2.2⟩, rfl⟩
theorem RS.anew {x : Cx} {γ : Gam} {st : St} {a : Act} {w : World} (h : RS x γ st a w) : RS (x.anew h.inv x.ds) γ st a w where
  inv := ⟨Nat.le_refl _, rfl, rfl, rfl, fun _ _ _ => rfl, fun k i hk => by
    obtain ⟨ob, h1, h2⟩ := h.inv.own k i hk
    exact ⟨ob, h1, objR.mono (Av.anew h.inv) ob i (fun _ _ _ => rfl) h2⟩, fun k b c hk => ⟨.inr ⟨k, c, hk⟩, (h.inv.rng k b c hk).2⟩, h.inv.inj, h.inv.pin, h.inv.lnk⟩
  len := h.len
  tm := fun t v hv => VR.mono (Av.anew h.inv) v _ (h.tm t v hv)
  nod := h.nod
section
variable {P : Program} {E : Env} {x : Cx} {ρ : Type} {r : ρ}
end
end Go.Vi
set_option linter.unusedVariables false
set_option linter.unusedSimpArgs false
set_option maxRecDepth 100000
namespace Go.Proofs.YtkfkbebinhkdlaaDoor
open Go.Vi
abbrev uu : V := .undef
def tab : Tab := { sh := [(3, (.int .i64)), (4, .bool), (5, (.int .u8)), (9, .str), (21, (.int .i32)), (24, (.sl .str)), (26, (.sl (.pair (.int .i64) (.int .i64)))), (28, (.pair (.int .i64) (.sl (.pair (.int .i64) (.int .i64))))), (29, (.sl (.int .i64))), (30, (.int .i64)), (34, (.pair (.int .i64) (.int .i64))), (35, (.sl (.sl (.int .i64)))), (46, (.pair (.int .u8) (.pair (.int .u8) (.pair (.int .u8) (.pair (.int .u8) (.pair (.int .u8) (.pair (.int .u8) (.pair (.int .u8) (.pair (.int .u8) (.pair (.int .u8) (.pair (.int .u8) (.pair (.int .u8) (.int .u8))))))))))))), (48, (.pair (.int .i64) (.sl (.int .i64)))), (49, (.sl (.int .u8))), (50, (.sl (.pair (.int .i64) (.int .i64)))), (53, (.pair (.int .i64) (.int .i64))), (55, (.sl (.pair (.int .i64) (.int .i64)))), (59, (.pair (.int .i64) (.int .i64))), (61, (.sl (.pair (.int .i64) (.int .i64)))), (63, (.pair (.sl (.pair (.int .i64) (.int .i64))) (.pair (.int .i64) (.int .i64)))), (65, (.pair (.int .i64) (.int .i64))), (73, (.pair .bool (.pair .bool (.pair .bool .bool)))), (79, (.int .u64)), (80, (.pair (.int .u64) (.pair (.int .u64) (.pair (.int .u64) (.pair (.int .u64) (.pair (.int .u64) (.pair (.int .u64) (.int .u64)))))))), (82, (.pair (.int .i64) (.pair (.int .u64) (.pair (.int .u64) (.pair (.int .u64) (.pair (.int .u64) (.pair (.int .u64) (.pair (.int .u64) (.int .u64))))))))), (94, (.sl (.int .u64))), (109, (.pair (.int .u64) .unit)), (117, (.sl (.int .i64))), (145, (.int .u64)), (153, (.sl (.pair (.int .i64) (.pair (.int .i64) (.pair (.int .i64) (.int .i64)))))), (156, (.pair (.int .i64) (.pair (.int .i64) (.pair (.int .i64) (.int .i64))))), (166, (.int .i64)), (192, (.pair (.int .i64) (.sl (.pair (.int .i64) (.int .i64))))), (196, (.int .u64))], flds := [(28, [(.int .i64), (.sl (.pair (.int .i64) (.int .i64)))]), (48, [(.int .i64), (.sl (.int .i64))]), (53, [(.int .i64), (.int .i64)]), (59, [(.int .i64), (.int .i64)]), (63, [(.sl (.pair (.int .i64) (.int .i64))), (.int .i64), (.int .i64)]), (65, [(.int .i64), (.int .i64)]), (82, [(.int .i64), (.pair (.int .u64) (.pair (.int .u64) (.pair (.int .u64) (.pair (.int .u64) (.pair (.int .u64) (.pair (.int .u64) (.int .u64)))))))]), (109, [(.int .u64)]), (156, [(.int .i64), (.int .i64), (.pair (.int .i64) (.int .i64))]), (192, [(.int .i64), (.sl (.pair (.int .i64) (.int .i64)))])], arrs := [(34, (2, (.int .i64))), (46, (12, (.int .u8))), (73, (4, .bool)), (80, (7, (.int .u64)))], maps := [(185, (.i64, (.pair (.int .i64) (.pair (.int .i64) (.pair (.int .i64) (.int .i64)))))), (202, (.i32, .bool))], eqs := [(34, (.pair (.int .i64) (.int .i64))), (59, (.pair (.int .i64) (.int .i64)))], idf := [22], del := [], lits := [], nils := false }
theorem id22 : IdC Tryd.prog 22 := ⟨callOK_of Tryd.func22 (by kernel_rfl) (by kernel_rfl), fun u w => by
  go_enter Tryd.func22, Tryd.ntmps22
  go_wp2
  go_ret
  exact ⟨rfl, rfl⟩⟩
theorem idOK : ∀ g ∈ tab.idf, IdC Tryd.prog g := by
  intro g hg
  simp only [tab, List.mem_cons, List.not_mem_nil, or_false] at hg
  subst hg
  exact id22
theorem delOK : ∀ g ∈ tab.del, DelC Tryd.prog g := by
  intro g hg
  cases hg
theorem tabOK : TabOK Tryd.prog tab := tabB_ok (by kernel_rfl) idOK delOK
theorem eqsOK : EqsOK Tryd.prog tab := eqsB_ok (by kernel_rfl)
def tabL : Tab := { tab with lits := [26, 29, 61] }
theorem tabLOK : TabOK Tryd.prog tabL := tabB_ok (by kernel_rfl) idOK delOK
theorem eqsLOK : EqsOK Tryd.prog tabL := eqsB_ok (by kernel_rfl)
def tabN : Tab := { tab with nils := true }
theorem tabNOK : TabOK Tryd.prog tabN := tabB_ok (by kernel_rfl) idOK delOK
theorem eqsNOK : EqsOK Tryd.prog tabN := eqsB_ok (by kernel_rfl)
theorem mixed : Tryd.prog.follows .mixedOrders = true := by kernel_rfl
end Go.Proofs.YtkfkbebinhkdlaaDoor
set_option linter.unusedVariables false
set_option linter.unusedSimpArgs false
set_option maxRecDepth 100000
namespace Go.Proofs.YtkfkbebinhkdlaaDoor
open Go.RowKit Go.Shelf
attribute [local go_sem] Oper.semAt_some
/-- What a round keeps: what lay below n₀, and the box that holds the slice. -/
def KpB (n₀ Bs : Nat) (W W' : World) : Prop := Below n₀ W W' ∧ W'.heap[Bs]? = W.heap[Bs]?
theorem KpB.refl (n₀ Bs : Nat) (W : World) : KpB n₀ Bs W W := ⟨Below.refl _ _, rfl⟩
theorem KpB.trans {n₀ Bs : Nat} {A B C : World} (h : KpB n₀ Bs A B) (k : KpB n₀ Bs B C) : KpB n₀ Bs A C := ⟨h.1.trans k.1, k.2.trans h.2⟩
theorem KpB.b {w : World} {n₀ Bs : Nat} (hn : n₀ ≤ w.heap.size) (hb : Bs < w.heap.size) (W : World) (l : Nat) (o o' : Obj) (hl : w.heap.size ≤ l) (ho : W.heap[l]? = some o) (hc : o.isCells = false) (hw : o.isWalk = false) : KpB n₀ Bs W (W.putObj l o') :=
  ⟨belowK_b hn W l o o' hl ho hc hw, World.putObj_heap_other (by omega)⟩
end Go.Proofs.YtkfkbebinhkdlaaDoor
/-
  What the walks by hand share: blocks of cells; numbers that are handed in; numbers that go out.
-/
set_option linter.unusedVariables false
set_option linter.unusedSimpArgs false
set_option maxRecDepth 100000
namespace Go.Proofs.YtkfkbebinhkdlaaDoor
open Go.RowKit Go.Shelf
/-- A block of cells. -/
def Blk (W : World) (b : Nat) (cur : Array Value) (t : TypeId) : Prop := W.heap[b]? = some (.cells cur t (0, 0))
theorem Blk.cell {W : World} {b : Nat} {cur : Array Value} {t : TypeId} (h : Blk W b cur t) (j : Nat) {v : Value} (hv : cur[j]? = some v) : W.cell? ⟨b, j, none⟩ = some v := by simp [World.cell?, show W.heap[b]? = _ from h, hv]
theorem Blk.frozen {W : World} {b : Nat} {cur : Array Value} {t : TypeId} (h : Blk W b cur t) (j : Nat) : W.frozen? ⟨b, j, none⟩ = false := by simp [World.frozen?, show W.heap[b]? = _ from h]
theorem Blk.lt {W : World} {b : Nat} {cur : Array Value} {t : TypeId} (h : Blk W b cur t) : b < W.heap.size := (Array.getElem?_eq_some_iff.1 h).1
theorem Blk.kept {W W' : World} {row : Option Nat} {b : Nat} {cur : Array Value} {t : TypeId} (h : Blk W b cur t) (hg : W.grownBy W' row) (hne : some b ≠ row) : Blk W' b cur t := (hg.block b h.lt hne).trans h
theorem Blk.alloc {W : World} {b : Nat} {cur : Array Value} {t : TypeId} (h : Blk W b cur t) (o : Obj) : Blk (W.alloc o) b cur t := h.kept (World.grownBy_alloc W o none) (by simp)
theorem Blk.new (W : World) (cur : Array Value) (t : TypeId) : Blk (W.alloc (.cells cur t)) W.heap.size cur t := World.alloc_heap_new W _
theorem Blk.set {W : World} {b : Nat} {cur : Array Value} {t : TypeId} (h : Blk W b cur t) (j : Nat) (v : Value) : Blk (W.setCell ⟨b, j, none⟩ v) b (cur.setIfInBounds j v) t := heap_setCell_same W b j cur t v h
theorem Blk.other {W : World} {b : Nat} {cur : Array Value} {t : TypeId} (h : Blk W b cur t) {b' : Nat} (j : Nat) (v : Value) (hne : b ≠ b') : Blk (W.setCell ⟨b', j, none⟩ v) b cur t :=
  (heap_setCell_other W ⟨b', j, none⟩ b v (fun e => hne e)).trans h
theorem Own.and {β : Type} {I J : β → World → Prop} (h : Own I) (k : Own J) : Own (fun s W => I s W ∧ J s W) := fun s X Y row hs hg hr => ⟨h s X Y row hs.1 hg hr, k s X Y row hs.2 hg hr⟩
open Go.Vi
end Go.Proofs.YtkfkbebinhkdlaaDoor
set_option linter.unusedVariables false
namespace Go.Proofs.YtkfkbebinhkdlaaDoor
/-- How many pages stand. -/
def cntF (f : Nat) : Nat := ((List.range 6).filter fun p => f.testBit p).length
/-- Which pages stand. -/
def bitsF (f : Nat) : List Nat := (List.range 6).filter fun p => f.testBit p
def addF (f p : Nat) : Nat := f ||| 2 ^ p
def swF (f p g : Nat) : Nat := (bif f.testBit g then f - 2 ^ g else f) ||| 2 ^ p
/-- The smallest value. -/
def mnl (v : Nat → Int) : List Nat → Int
  | [] => 0
  | g :: l => l.foldl (fun m g => bif decide (v g < m) then v g else m) (v g)
theorem mnl_snoc (v : Nat → Int) (l : List Nat) (g : Nat) (h : l ≠ []) : mnl v (l ++ [g]) = bif decide (v g < mnl v l) then v g else mnl v l := by
  cases l with
  | nil => exact absurd rfl h
  | cons x l =>
    show List.foldl _ _ (l ++ [g]) = _
    rw [List.foldl_append]
    rfl
theorem mnl_le (v : Nat → Int) (l : List Nat) {g : Nat} (hg : g ∈ l) : mnl v l ≤ v g := by
  have key : ∀ (l : List Nat) (m : Int), (l.foldl (fun m g => bif decide (v g < m) then v g else m) m ≤ m) ∧ ∀ g ∈ l, l.foldl (fun m g => bif decide (v g < m) then v g else m) m ≤ v g := by
    intro l
    induction l with
    | nil => intro m; exact ⟨Int.le_refl _, by simp⟩
    | cons x l ih =>
      intro m
      obtain ⟨h1, h2⟩ := ih (bif decide (v x < m) then v x else m)
      simp only [List.foldl_cons]
      have h3 : (bif decide (v x < m) then v x else m) ≤ m ∧ (bif decide (v x < m) then v x else m) ≤ v x := by
        by_cases h : v x < m
        · simp only [decide_eq_true h, cond_true]; omega
        · simp only [decide_eq_false h, cond_false]; omega
      refine ⟨by omega, fun g hg => ?_⟩
      rcases List.mem_cons.1 hg with rfl | hg
      · omega
      · exact h2 g hg
  cases l with
  | nil => cases hg
  | cons x l =>
    obtain ⟨h1, h2⟩ := key l (v x)
    rcases List.mem_cons.1 hg with rfl | hg
    · exact h1
    · exact h2 g hg
theorem mnl_mem (v : Nat → Int) (l : List Nat) (h : l ≠ []) : ∃ g ∈ l, mnl v l = v g := by
  have key : ∀ (l : List Nat) (m : Int), l.foldl (fun m g => bif decide (v g < m) then v g else m) m = m ∨ ∃ g ∈ l, l.foldl (fun m g => bif decide (v g < m) then v g else m) m = v g := by
    intro l
    induction l with
    | nil => intro m; exact .inl rfl
    | cons x l ih =>
      intro m
      simp only [List.foldl_cons]
      rcases ih (bif decide (v x < m) then v x else m) with h | ⟨g, hg, h⟩
      · by_cases hx : v x < m
        · rw [h, decide_eq_true hx, cond_true]
          exact .inr ⟨x, by simp, rfl⟩
        · rw [h, decide_eq_false hx, cond_false]
          exact .inl rfl
      · exact .inr ⟨g, by simp [hg], h⟩
  cases l with
  | nil => exact absurd rfl h
  | cons x l =>
    rcases key l (v x) with h | ⟨g, hg, h⟩
    · exact ⟨x, by simp, h⟩
    · exact ⟨g, by simp [hg], h⟩
/-- The fewest settings, from a floor on. -/
def lst (room : Nat) : List Nat → Nat → Int
  | [], _ => 0
  | p :: ps, f => bif f.testBit p then lst room ps f else bif decide (cntF f < room) then 1 + lst room ps (addF f p) else mnl (fun g => 1 + lst room ps (swF f p g)) (bitsF f)
def all6 (q : Nat → Bool) : Bool := (List.range 6).all q
def all64 (q : Nat → Bool) : Bool := (List.range 64).all q
theorem all6_get {q : Nat → Bool} (h : all6 q = true) {p : Nat} (hp : p < 6) : q p = true := List.all_eq_true.1 h p (List.mem_range.2 hp)
theorem all64_get {q : Nat → Bool} (h : all64 q = true) {p : Nat} (hp : p < 64) : q p = true := List.all_eq_true.1 h p (List.mem_range.2 hp)
theorem floors_ok : (all64 fun f => all6 fun p => Nat.blt (addF f p) 64 && (addF f p).testBit p && all6 fun g => Nat.blt (swF f p g) 64 && (swF f p g).testBit p) = true := by decide +kernel
theorem addF_lt {f p : Nat} (hf : f < 64) (hp : p < 6) : addF f p < 64 := by
  have := all6_get (all64_get floors_ok hf) hp
  simp only [Bool.and_eq_true, Nat.blt_eq] at this
  exact this.1.1
theorem swF_lt {f p g : Nat} (hf : f < 64) (hp : p < 6) (hg : g < 6) : swF f p g < 64 := by
  have := all6_get (all64_get floors_ok hf) hp
  simp only [Bool.and_eq_true] at this
  have := all6_get this.2 hg
  simp only [Bool.and_eq_true, Nat.blt_eq] at this
  exact this.1
theorem bitsF_lt {f g : Nat} (hg : g ∈ bitsF f) : g < 6 := by
  unfold bitsF at hg
  exact List.mem_range.1 (List.mem_filter.1 hg).1
theorem cntF_bits (f : Nat) : cntF f = (bitsF f).length := rfl
theorem lst_bd (room : Nat) (hr : 0 < room) : ∀ (ps : List Nat) (f : Nat), 0 ≤ lst room ps f ∧ lst room ps f ≤ ps.length
  | [], f => ⟨Int.le_refl _, Int.le_refl _⟩
  | p :: ps, f => by
    simp only [lst, List.length_cons]
    have hi := lst_bd room hr ps
    cases f.testBit p with
    | true => have := hi f; rw [cond_true]; omega
    | false =>
      rw [cond_false]
      cases hc : decide (cntF f < room) with
      | true => have := hi (addF f p); rw [cond_true]; omega
      | false =>
        rw [cond_false]
        have hne : bitsF f ≠ [] := fun e => by
          have : ¬ cntF f < room := of_decide_eq_false hc
          rw [cntF_bits, e] at this
          exact this hr
        obtain ⟨g, _, e⟩ := mnl_mem (fun g => 1 + lst room ps (swF f p g)) (bitsF f) hne
        rw [e]
        have := hi (swF f p g)
        omega
theorem lst_step {room : Nat} {ps : List Nat} {p f : Nat} (h : f.testBit p = true) : lst room (p :: ps) f = lst room ps f := by simp [lst, h]
theorem lst_add {room : Nat} {ps : List Nat} {p f : Nat} (h : f.testBit p = false) (hc : cntF f < room) : lst room (p :: ps) f = 1 + lst room ps (addF f p) := by simp [lst, h, hc]
theorem lst_sw {room : Nat} {ps : List Nat} {p f : Nat} (h : f.testBit p = false) (hc : ¬ cntF f < room) : lst room (p :: ps) f = mnl (fun g => 1 + lst room ps (swF f p g)) (bitsF f) := by simp [lst, h, hc]
/-- More room, never more settings. -/
theorem sub_ok : (all64 fun f => all64 fun g => bif Nat.beq (f ||| g) g then all6 (fun p =>
      (bif f.testBit p then g.testBit p else true) &&
      Nat.beq (addF f p ||| addF g p) (addF g p) && (bif g.testBit p then Nat.beq (addF f p ||| g) g && (bitsF f).all fun y => Nat.beq (swF f p y ||| g) g else
        ((bitsF f).all fun y => Nat.beq (swF f p y ||| addF g p) (addF g p) && Nat.beq (swF f p y ||| swF g p y) (swF g p y)) && (bif Nat.blt (cntF f) (cntF g) then (bitsF g).any fun x => Nat.beq (addF f p ||| swF g p x) (swF g p x) else true))) else true) = true := by decide +kernel
end Go.Proofs.YtkfkbebinhkdlaaDoor
set_option linter.unusedVariables false
set_option linter.unusedSimpArgs false
set_option maxRecDepth 100000
namespace Go.Proofs.YtkfkbebinhkdlaaDoor
open Go.RowKit Go.Shelf
/-- What is known: the job, and for each time and floor nothing, or the fewest settings. -/
def Known (V : Nat → Nat → Int) (cur : Array Value) : Prop :=
  ∀ t f, t < 12 → f < 64 → ∃ s p : Int, cur[2 + t * 128 + f * 2]? = some (.int .i64 s) ∧ cur[2 + t * 128 + f * 2 + 1]? = some (.int .i64 p) ∧ (s = 0 ∧ p = 0 ∨ s = V t f)
structure Tbl (V : Nat → Nat → Int) (room : Nat) (a : Option Addr) (L cap b : Nat) (cur : Array Value) (W : World) : Prop where
  blk : Blk W b cur 106
  size : cur.size = 1538
  room : cur[0]? = some (.int .i64 room)
  pages : cur[1]? = some (.slice a L cap)
  known : Known V cur
/-- The fewest settings from a time on. -/
def Vs (room : Nat) (zs : List Int) (t f : Nat) : Int := lst room ((zs.drop t).map Int.toNat) f
set_option maxHeartbeats 4000000 in
theorem least_end (V : Nat → Nat → Int) (room : Nat) (a : Option Addr) (L cap b f : Nat) (cur : Array Value) (w : World) (hL : L ≤ 12) (hT : Tbl V room a L cap b cur w) :
    Calls Tryd.prog 47 #[.pointer (some ⟨b, 0, none⟩), .int .i64 L, .agg #[.int .u64 f]] w fun e W' => e = .returned (.agg #[.int .i64 0, .int .i64 1]) ∧ Below w.heap.size w W' := by
  have hb := hT.blk.lt
  have c1 := hT.blk.cell 1 hT.pages
  go_enter Tryd.func47, Tryd.ntmps47
  go_wp2
  refine bodyPost_ret (v := .agg #[.int .i64 0, .int .i64 1]) (by simp [results, Tryd.results47, go_sem]) rfl ⟨rfl, ?_⟩
  exact ((Below.refl _ w).alloc (Nat.le_refl _) _).alloc (by simp) _
/-- The boxes of a call. -/
structure Bx (w : World) (f : Nat) (o : Array Value) (W : World) : Prop where
  fl : Blk W w.heap.size #[.int .u64 f] 109
  out : Blk W (w.heap.size + 1) o 102
  size : W.heap.size = w.heap.size + 2
  low : Below w.heap.size w W
theorem Bx.start (w : World) (f : Nat) : Bx w f #[.int .i64 0, .int .i64 0] ((w.alloc (.cells #[.int .u64 f] 109)).alloc (.cells #[.int .i64 0, .int .i64 0] 102)) := by
  refine ⟨(Blk.new w _ _).alloc _, ?_, by simp, ((Below.refl _ w).alloc (Nat.le_refl _) _).alloc (by simp) _⟩
  have := Blk.new (w.alloc (.cells #[.int .u64 f] 109)) #[.int .i64 0, .int .i64 0] 102
  rwa [World.size_alloc] at this
theorem Blk.drew {W : World} {b : Nat} {cur : Array Value} {t : TypeId} (h : Blk W b cur t) : Blk W.drew b cur t := h
theorem least_res {tmps : Array Value} {W : World} {g : Nat} {s p : Int} (hp : tmps.getD 6 undef = .pointer (some ⟨g, 0, none⟩)) (hb : Blk W g #[.int .i64 s, .int .i64 p] 102) :
    (results Tryd.f47 tmps).run Tryd.prog W = .ok (.agg #[.int .i64 s, .int .i64 p]) W :=
  results_cell_row Tryd.results47 tmps W g 102 _ (0, 0) _ hp hb Tryd.underlying102 rfl (by kernel_rfl)
set_option maxHeartbeats 4000000 in
theorem least_known (V : Nat → Nat → Int) (room : Nat) (a : Option Addr) (L cap b t f : Nat) (s p : Int) (cur : Array Value) (w : World) (hL : L ≤ 12) (ht : t < L) (hf : f < 64) (hT : Tbl V room a L cap b cur w)
    (k1 : cur[2 + t * 128 + f * 2]? = some (.int .i64 s)) (k2 : cur[2 + t * 128 + f * 2 + 1]? = some (.int .i64 p)) (hn : ¬ (s = 0 ∧ p = 0)) :
    Calls Tryd.prog 47 #[.pointer (some ⟨b, 0, none⟩), .int .i64 t, .agg #[.int .u64 f]] w fun e W' => e = .returned (.agg #[.int .i64 s, .int .i64 p]) ∧ Below w.heap.size w W' := by
  have hb := hT.blk.lt
  have c1 := hT.blk.cell 1 hT.pages
  have ht1 : (t : Int) < 12 := by omega
  have ht2 : (t : Int) ≠ L := by omega
  have hf1 : (f : Int) < 64 := by omega
  have hbx := Bx.start w f
  go_enter Tryd.func47, Tryd.ntmps47
  go_wp2
  generalize World.alloc (World.alloc w _) _ = W1 at hbx ⊢
  have hb1 : b < W1.heap.size := by rw [hbx.size]; omega
  have c2 : W1.cell? ⟨b, 2 + t * 128 + f * 2, none⟩ = some (.int .i64 s) := (hbx.low.cell (p := ⟨b, _, none⟩) hb).trans (hT.blk.cell _ k1)
  have c3 : W1.cell? ⟨b, 2 + t * 128 + f * 2 + 1, none⟩ = some (.int .i64 p) := (hbx.low.cell (p := ⟨b, _, none⟩) hb).trans (hT.blk.cell _ k2)
  have c4 := hbx.fl.cell 0 rfl
  have c5 := hbx.out.cell 0 rfl
  have c6 := hbx.out.cell 1 rfl
  have c7 := hbx.out.frozen 0
  have c8 := hbx.out.frozen 1
  have n1 : w.heap.size < W1.heap.size := by rw [hbx.size]; omega
  have n2 : w.heap.size + 1 < W1.heap.size := by rw [hbx.size]; omega
  clear c1
  by_cases hs : s = 0
  · have hp : (p == 0) = false := by simpa using fun e => hn ⟨hs, e⟩
    subst hs
    clear hn k1 k2
    go_region
    go_wp2
    refine bodyPost_ret (v := .agg #[.int .i64 0, .int .i64 p]) (least_res rfl ?_) rfl ⟨rfl, ?_⟩
    · exact ((((hbx.out.set 0 _).set 1 _).alloc _).drew)
    · exact (((((hbx.low.setCell (p := ⟨_, _, none⟩) (Nat.le_succ _) _).setCell (p := ⟨_, _, none⟩) (Nat.le_succ _) _)).alloc (by simp; omega) _).drew)
  · have hs' : (s == 0) = false := by simpa using hs
    clear hn hs k1 k2
    go_region
    go_wp2
    refine bodyPost_ret (v := .agg #[.int .i64 s, .int .i64 p]) (least_res rfl ?_) rfl ⟨rfl, ?_⟩
    · exact ((((hbx.out.set 0 _).set 1 _).alloc _).drew)
    · exact (((((hbx.low.setCell (p := ⟨_, _, none⟩) (Nat.le_succ _) _).setCell (p := ⟨_, _, none⟩) (Nat.le_succ _) _)).alloc (by simp; omega) _).drew)
/-- The pages that are asked for. -/
def PgOK (zs : List Int) (a : Option Addr) (b : Nat) (W : World) : Prop :=
  ∀ j (h : j < zs.length), ∃ pb off, a = some ⟨pb, off, none⟩ ∧ pb ≠ b ∧ pb < W.heap.size ∧ W.cell? ⟨pb, off + j, none⟩ = some (.int .i64 zs[j])
theorem PgOK.grown {zs : List Int} {a : Option Addr} {b : Nat} {W W' : World} (h : PgOK zs a b W) (hg : W.grownBy W' (some b)) : PgOK zs a b W' := fun j hj => by
  obtain ⟨pb, off, h1, h2, h3, h4⟩ := h j hj
  exact ⟨pb, off, h1, h2, Nat.lt_of_lt_of_le h3 hg.size, (World.cell?_of_block (a := ⟨pb, off + j, none⟩) (hg.block pb h3 (by simpa using h2))).trans h4⟩
/-- What the search from a time and a floor gives. -/
def LeastAt (V : Nat → Nat → Int) (room : Nat) (a : Option Addr) (L cap b t f : Nat) (W : World) (e : Ending) (W' : World) : Prop :=
  ∃ (pl : Int) (cur : Array Value), e = .returned (.agg #[.int .i64 (V t f), .int .i64 pl]) ∧ Tbl V room a L cap b cur W' ∧ W.grownBy W' (some b)
theorem gb_below {W W' : World} {r : Option Nat} (h : Below W.heap.size W W') : W.grownBy W' r := ⟨h.os, h.tape, h.output, h.size, fun k hk _ => h.block k hk⟩
theorem gb_trans {W W1 W2 : World} {r : Option Nat} (h : W.grownBy W1 r) (h' : W1.grownBy W2 r) : W.grownBy W2 r :=
  ⟨h'.os.trans h.os, h'.tape.trans h.tape, h'.output.trans h.output, Nat.le_trans h.size h'.size, fun k hk hr => (h'.block k (Nat.lt_of_lt_of_le hk h.size) hr).trans (h.block k hk hr)⟩
theorem gb_alloc (W : World) (o : Obj) (r : Option Nat) : W.grownBy (W.alloc o) r := World.grownBy_alloc W o r
theorem gb_drew (W : World) (r : Option Nat) : W.grownBy W.drew r := ⟨rfl, rfl, rfl, Nat.le_refl _, fun _ _ _ => rfl⟩
theorem gb_set {W W1 : World} {b g j : Nat} {v : Value} (h : W.grownBy W1 (some b)) (hg : W.heap.size ≤ g ∨ g = b) : W.grownBy (W1.setCell ⟨g, j, none⟩ v) (some b) :=
  ⟨h.os, h.tape, h.output, Nat.le_trans h.size (KeepsWalks.setCell W1 _ _).size, fun k hk hr => (heap_setCell_other W1 ⟨g, j, none⟩ k v (by
    rcases hg with hg | hg
    · show k ≠ g
      omega
    · show k ≠ g
      rintro rfl
      exact hr (by rw [hg]))).trans (h.block k hk hr)⟩
theorem Tbl.other {V : Nat → Nat → Int} {room : Nat} {a : Option Addr} {L cap b : Nat} {cur : Array Value} {W W' : World} (h : Tbl V room a L cap b cur W) (hb : Blk W' b cur 106) : Tbl V room a L cap b cur W' := ⟨hb, h.size, h.room, h.pages, h.known⟩
theorem Tbl.store {V : Nat → Nat → Int} {room : Nat} {a : Option Addr} {L cap b : Nat} {cur : Array Value} {W : World} (h : Tbl V room a L cap b cur W) {t f : Nat} (ht : t < 12) (hf : f < 64) (p : Int) :
    Tbl V room a L cap b ((cur.setIfInBounds (2 + t * 128 + f * 2) (.int .i64 (V t f))).setIfInBounds (2 + t * 128 + f * 2 + 1) (.int .i64 p))
      ((W.setCell ⟨b, 2 + t * 128 + f * 2, none⟩ (.int .i64 (V t f))).setCell ⟨b, 2 + t * 128 + f * 2 + 1, none⟩ (.int .i64 p)) := by
  have hs := h.size
  refine ⟨(h.blk.set _ _).set _ _, by simpa using h.size, ?_, ?_, fun t' f' ht' hf' => ?_⟩
  · rw [Array.getElem?_setIfInBounds_ne (by omega), Array.getElem?_setIfInBounds_ne (by omega)]; exact h.room
  · rw [Array.getElem?_setIfInBounds_ne (by omega), Array.getElem?_setIfInBounds_ne (by omega)]; exact h.pages
  · by_cases e : t' = t ∧ f' = f
    · obtain ⟨rfl, rfl⟩ := e
      refine ⟨V t' f', p, ?_, ?_, .inr rfl⟩
      · rw [Array.getElem?_setIfInBounds_ne (by omega), Array.getElem?_setIfInBounds_self_of_lt (by omega)]
      · rw [Array.getElem?_setIfInBounds_self_of_lt (by simp; omega)]
    · obtain ⟨s, q, h1, h2, h3⟩ := h.known t' f' ht' hf'
      have hne : t' * 64 + f' ≠ t * 64 + f := by omega
      refine ⟨s, q, ?_, ?_, h3⟩
      · rw [Array.getElem?_setIfInBounds_ne (by omega), Array.getElem?_setIfInBounds_ne (by omega)]; exact h1
      · rw [Array.getElem?_setIfInBounds_ne (by omega), Array.getElem?_setIfInBounds_ne (by omega)]; exact h2
/-- Behind the look at what is known: nothing is known. -/
structure Bx2 (w : World) (b f n7 : Nat) (W : World) : Prop where
  fl : Blk W w.heap.size #[.int .u64 f] 109
  out : Blk W (w.heap.size + 1) #[.int .i64 0, .int .i64 0] 102
  size : w.heap.size + 1 < W.heap.size
  low : Below w.heap.size w W
theorem Bx.next {w W : World} {b f : Nat} (h : Bx w f #[.int .i64 0, .int .i64 0] W) (o : Obj) : Bx2 w b f W.heap.size (W.alloc o).drew :=
  ⟨(h.fl.alloc o).drew, (h.out.alloc o).drew, by have := h.size; simp; omega, (h.low.alloc (by rw [h.size]; omega) o).drew⟩
/-- What each of the walks is given. -/
structure Job (V : Nat → Nat → Int) (room : Nat) (zs : List Int) (a : Option Addr) (L cap b t f : Nat) (cur : Array Value) (w : World) : Prop where
  len : zs.length = L
  big : L ≤ 12
  time : t < L
  floor : f < 64
  tbl : Tbl V room a L cap b cur w
  pgs : PgOK zs a b w
  k1 : cur[2 + t * 128 + f * 2]? = some (.int .i64 0)
  k2 : cur[2 + t * 128 + f * 2 + 1]? = some (.int .i64 0)
  pag : ∀ z ∈ zs, 0 ≤ z ∧ z < 6
/-- What is left to do: what came out is known, too. -/
structure Rest (V : Nat → Nat → Int) (room : Nat) (a : Option Addr) (L cap b t f n9 : Nat) (pl : Int) (cur : Array Value) (w W : World) : Prop where
  fl : Blk W w.heap.size #[.int .u64 f] 109
  out : Blk W (w.heap.size + 1) #[.int .i64 0, .int .i64 0] 102
  res : Blk W n9 #[.int .i64 (V t f), .int .i64 pl] 102
  tbl : Tbl V room a L cap b cur W
  low : w.grownBy W (some b)
theorem Rest.fin {V : Nat → Nat → Int} {room : Nat} {a : Option Addr} {L cap b t f n9 : Nat} {pl : Int} {cur : Array Value} {w W : World} (h : Rest V room a L cap b t f n9 pl cur w W) (ht : t < 12) (hf : f < 64) (hb : b < w.heap.size) :
    Blk ((((((W.setCell ⟨b, 2 + t * 128 + f * 2, none⟩ (.int .i64 (V t f))).setCell ⟨b, 2 + t * 128 + f * 2 + 1, none⟩ (.int .i64 pl))).setCell ⟨w.heap.size + 1, 0, none⟩ (.int .i64 (V t f))).setCell ⟨w.heap.size + 1, 1, none⟩ (.int .i64 pl))) (w.heap.size + 1) #[.int .i64 (V t f), .int .i64 pl] 102 ∧
      ∃ cur', Tbl V room a L cap b cur' ((((((W.setCell ⟨b, 2 + t * 128 + f * 2, none⟩ (.int .i64 (V t f))).setCell ⟨b, 2 + t * 128 + f * 2 + 1, none⟩ (.int .i64 pl))).setCell ⟨w.heap.size + 1, 0, none⟩ (.int .i64 (V t f))).setCell ⟨w.heap.size + 1, 1, none⟩ (.int .i64 pl))) ∧
        w.grownBy ((((((W.setCell ⟨b, 2 + t * 128 + f * 2, none⟩ (.int .i64 (V t f))).setCell ⟨b, 2 + t * 128 + f * 2 + 1, none⟩ (.int .i64 pl))).setCell ⟨w.heap.size + 1, 0, none⟩ (.int .i64 (V t f))).setCell ⟨w.heap.size + 1, 1, none⟩ (.int .i64 pl))) (some b) := by
  have h1 := h.tbl.store ht hf pl
  refine ⟨(((h.out.other _ _ (by omega)).other _ _ (by omega)).set 0 _).set 1 _, _, h1.other ((h1.blk.other _ _ (by omega)).other _ _ (by omega)), ?_⟩
  exact gb_set (gb_set (gb_set (gb_set h.low (.inr rfl)) (.inr rfl)) (.inl (by omega))) (.inl (by omega))
set_option maxHeartbeats 4000000 in
theorem least_stand (V : Nat → Nat → Int) (room : Nat) (a : Option Addr) (L cap b t f : Nat) (zs : List Int) (cur : Array Value) (w : World) (h : Job V room zs a L cap b t f cur w) (hV : V t f = V (t + 1) f)
    (hbit : ∀ h : t < zs.length, (bits BinOp.and IntKind.u64 ((f : Int) / 2 ^ (zs[t]'h).toNat) 1 == 1) = true)
    (G : World → Prop) (hG : ∀ W, w.grownBy W (some b) → G W)
    (hrec : ∀ W cur, G W → Tbl V room a L cap b cur W → PgOK zs a b W → Calls Tryd.prog 47 #[.pointer (some ⟨b, 0, none⟩), .int .i64 ((t : Int) + 1), .agg #[.int .u64 f]] W (LeastAt V room a L cap b (t + 1) f W)) :
    Calls Tryd.prog 47 #[.pointer (some ⟨b, 0, none⟩), .int .i64 t, .agg #[.int .u64 f]] w (LeastAt V room a L cap b t f w) := by
  obtain ⟨hzl, hL, ht, hf, hT, hP, k1, k2, hp⟩ := h
  have hb := hT.blk.lt
  have c1 := hT.blk.cell 1 hT.pages
  have ht1 : (t : Int) < 12 := by omega
  have ht2 : (t : Int) ≠ L := by omega
  have ht3 : (t : Int) < L := by omega
  have hf1 : (f : Int) < 64 := by omega
  have htz : t < zs.length := by omega
  have hbit := hbit htz
  obtain ⟨hp0, hp1⟩ := hp zs[t] (List.getElem_mem _)
  have hbx := Bx.start w f
  obtain ⟨pb, off, rfl, hpb, hpw, hpc⟩ := hP t (by omega)
  go_enter Tryd.func47, Tryd.ntmps47
  go_wp2
  generalize World.alloc (World.alloc w _) _ = W1 at hbx ⊢
  have hb1 : b < W1.heap.size := by rw [hbx.size]; omega
  have c2 : W1.cell? ⟨b, 2 + t * 128 + f * 2, none⟩ = some (.int .i64 0) := (hbx.low.cell (p := ⟨b, _, none⟩) hb).trans (hT.blk.cell _ k1)
  have c3 : W1.cell? ⟨b, 2 + t * 128 + f * 2 + 1, none⟩ = some (.int .i64 0) := (hbx.low.cell (p := ⟨b, _, none⟩) hb).trans (hT.blk.cell _ k2)
  have c4 := hbx.fl.cell 0 rfl
  have n1 : w.heap.size < W1.heap.size := by rw [hbx.size]; omega
  have n2 : w.heap.size + 1 < W1.heap.size := by rw [hbx.size]; omega
  clear c1 k1 k2
  go_region
  have hbx2 := hbx.next (b := b) (.cells #[.int .i64 0, .int .i64 0] 102)
  have h7 : Blk ((W1.alloc (.cells #[.int .i64 0, .int .i64 0] 102)).drew) W1.heap.size #[.int .i64 0, .int .i64 0] 102 := (Blk.new W1 _ _).drew
  generalize World.drew (World.alloc W1 _) = W2 at hbx2 h7 ⊢
  clear c2 c3 c4 n1 n2 hb1
  have hb2 : b < W2.heap.size := Nat.lt_of_lt_of_le hb hbx2.low.size
  have hg2 : w.grownBy W2 (some b) := gb_below hbx2.low
  have hT2 : Tbl V room (some ⟨pb, off, none⟩) L cap b cur W2 := hT.other ((hbx2.low.block b hb).trans hT.blk)
  have hP2 := hP.grown hg2
  have d1 := hT2.blk.cell 1 hT2.pages
  have d2 : W2.cell? ⟨pb, off + t, none⟩ = some (.int .i64 zs[t]) := (hbx2.low.cell (p := ⟨pb, _, none⟩) hpw).trans hpc
  have d3 := hbx2.fl.cell 0 rfl
  have d4 := h7.cell 0 rfl
  have d5 := h7.cell 1 rfl
  have n1 : w.heap.size < W2.heap.size := by have := hbx2.size; omega
  have n2 : w.heap.size + 1 < W2.heap.size := by have := hbx2.size; omega
  have n3 : pb < W2.heap.size := by omega
  have n4 := h7.lt
  have hrec' : ∀ o, Calls Tryd.prog 47 #[.pointer (some ⟨b, 0, none⟩), .int .i64 ((t : Int) + 1), .agg #[.int .u64 f]] (W2.alloc o) (LeastAt V room (some ⟨pb, off, none⟩) L cap b (t + 1) f (W2.alloc o)) :=
    fun o => hrec (W2.alloc o) cur (hG _ (gb_trans hg2 (gb_alloc _ _ _))) (hT2.other (hT2.blk.alloc o)) (hP2.grown (gb_alloc _ _ _))
  have h9 := fun o => Blk.new W2 o 102
  go_wp2_with (go_at_call 47; refine (hrec' _).mono ?_; rintro e W3 ⟨pl, cur3, rfl, hT3, hg3⟩; have h9' := (h9 _).kept hg3 (by simp; omega); have e1 := h9'.cell 0 rfl; have e2 := h9'.cell 1 rfl; have e3 := h9'.frozen 0; have e4 := h9'.frozen 1; have hfl := (hbx2.fl.alloc _).kept hg3 (by simp; omega); have hout := (hbx2.out.alloc _).kept hg3 (by simp; omega); have e5 := hfl.cell 0 rfl)
  have hlt : W2.heap.size < W3.heap.size := h9'.lt
  have hR : Rest V room (some ⟨pb, off, none⟩) L cap b t f W2.heap.size pl cur3 w ((W3.setCell ⟨W2.heap.size, 0, none⟩ (.int .i64 (V (t + 1) f))).setCell ⟨W2.heap.size, 1, none⟩ (.int .i64 pl)) := by
    refine ⟨(hfl.other _ _ (by omega)).other _ _ (by omega), (hout.other _ _ (by omega)).other _ _ (by omega), ?_, hT3.other ((hT3.blk.other _ _ (by omega)).other _ _ (by omega)), ?_⟩
    · rw [hV]; exact (h9'.set 0 _).set 1 _
    · exact gb_set (gb_set (gb_trans (gb_trans hg2 (gb_alloc _ _ _)) hg3) (.inl (by omega))) (.inl (by omega))
  generalize World.setCell (World.setCell W3 _ _) _ _ = W4 at hR ⊢
  clear e1 e2 e3 e4 e5 h9' hfl hout hT3 hlt hg3 h9 hrec' n1 n2 n3 n4 d1 d2 d3 d4 d5 hT2 hP2 hb2 hg2 hbx2 h7
  have r1 := hR.fl.cell 0 rfl
  have r2 := hR.res.cell 0 rfl
  have r3 := hR.res.cell 1 rfl
  obtain ⟨s0, q0, k1, k2, k3⟩ := hR.tbl.known t f (by omega) hf
  have r4 := hR.tbl.blk.cell _ k1
  have r5 := hR.tbl.blk.cell _ k2
  have r6 := fun j => hR.tbl.blk.frozen j
  have r7 := hR.out.cell 0 rfl
  have r8 := hR.out.cell 1 rfl
  have r9 := hR.out.frozen 0
  have r10 := hR.out.frozen 1
  have m1 := hR.res.lt
  have m2 := hR.out.lt
  obtain ⟨f1, cur', f2, f3⟩ := hR.fin (by omega) hf hb
  clear k1 k2 k3 hbit hrec hT hP hp hpc hV hR
  go_region
  go_wp2
  exact bodyPost_ret (v := .agg #[.int .i64 (V t f), .int .i64 pl]) (least_res rfl f1.drew) rfl ⟨pl, cur', rfl, f2.other f2.blk.drew, gb_trans f3 (gb_drew _ _)⟩
/-- In the midst of a call: its boxes, the table and the pages. -/
structure Mid (V : Nat → Nat → Int) (room : Nat) (zs : List Int) (a : Option Addr) (L cap b f n9 : Nat) (r : Array Value) (cur : Array Value) (w W : World) : Prop where
  fl : Blk W w.heap.size #[.int .u64 f] 109
  out : Blk W (w.heap.size + 1) #[.int .i64 0, .int .i64 0] 102
  res : Blk W n9 r 102
  tbl : Tbl V room a L cap b cur W
  pgs : PgOK zs a b w
  low : w.grownBy W (some b)
  nlo : w.heap.size + 1 < n9
  blo : b < w.heap.size
theorem Mid.call {V : Nat → Nat → Int} {room : Nat} {zs : List Int} {a : Option Addr} {L cap b f n9 : Nat} {r cur cur' : Array Value} {w W W' : World} (h : Mid V room zs a L cap b f n9 r cur w W) (hg : W.grownBy W' (some b)) (hT : Tbl V room a L cap b cur' W') :
    Mid V room zs a L cap b f n9 r cur' w W' := by
  have h1 := h.nlo
  have h2 := h.blo
  exact ⟨h.fl.kept hg (by simp; omega), h.out.kept hg (by simp; omega), h.res.kept hg (by simp; omega), hT, h.pgs, gb_trans h.low hg, h.nlo, h.blo⟩
theorem Mid.below {V : Nat → Nat → Int} {room : Nat} {zs : List Int} {a : Option Addr} {L cap b f n9 : Nat} {r cur : Array Value} {w W W' : World} (h : Mid V room zs a L cap b f n9 r cur w W) (hB : Below W.heap.size W W') :
    Mid V room zs a L cap b f n9 r cur w W' := h.call (gb_below hB) (h.tbl.other ((hB.block b h.tbl.blk.lt).trans h.tbl.blk))
theorem Mid.alloc {V : Nat → Nat → Int} {room : Nat} {zs : List Int} {a : Option Addr} {L cap b f n9 : Nat} {r cur : Array Value} {w W : World} (h : Mid V room zs a L cap b f n9 r cur w W) (o : Obj) :
    Mid V room zs a L cap b f n9 r cur w (W.alloc o) := h.below ((Below.refl _ _).alloc (Nat.le_refl _) _)
theorem Mid.drew {V : Nat → Nat → Int} {room : Nat} {zs : List Int} {a : Option Addr} {L cap b f n9 : Nat} {r cur : Array Value} {w W : World} (h : Mid V room zs a L cap b f n9 r cur w W) :
    Mid V room zs a L cap b f n9 r cur w W.drew := h.below (Below.refl _ _).drew
theorem Mid.set {V : Nat → Nat → Int} {room : Nat} {zs : List Int} {a : Option Addr} {L cap b f n9 : Nat} {r cur : Array Value} {w W : World} (h : Mid V room zs a L cap b f n9 r cur w W) (j : Nat) (v : Value) :
    Mid V room zs a L cap b f n9 (r.setIfInBounds j v) cur w (W.setCell ⟨n9, j, none⟩ v) := by
  have h1 := h.nlo
  have h2 := h.blo
  refine ⟨h.fl.other _ _ (by omega), h.out.other _ _ (by omega), h.res.set _ _, h.tbl.other (h.tbl.blk.other _ _ (by omega)), h.pgs, gb_set h.low (.inl (by omega)), h.nlo, h.blo⟩
theorem Mid.pgsW {V : Nat → Nat → Int} {room : Nat} {zs : List Int} {a : Option Addr} {L cap b f n9 : Nat} {r cur : Array Value} {w W : World} (h : Mid V room zs a L cap b f n9 r cur w W) : PgOK zs a b W := h.pgs.grown h.low
theorem Mid.rest {V : Nat → Nat → Int} {room : Nat} {zs : List Int} {a : Option Addr} {L cap b t f n9 : Nat} {s pl : Int} {cur : Array Value} {w W : World} (h : Mid V room zs a L cap b f n9 #[.int .i64 s, .int .i64 pl] cur w W) (hs : V t f = s) :
    Rest V room a L cap b t f n9 pl cur w W := ⟨h.fl, h.out, by rw [hs]; exact h.res, h.tbl, h.low⟩
set_option maxHeartbeats 8000000 in
theorem least_add (V : Nat → Nat → Int) (room : Nat) (a : Option Addr) (L cap b t f f' : Nat) (zs : List Int) (cur : Array Value) (w : World) (h : Job V room zs a L cap b t f cur w) (hV : V t f = V (t + 1) f' + 1) (hVb : 0 ≤ V (t + 1) f' ∧ V (t + 1) f' ≤ 12)
    (hbit : ∀ h : t < zs.length, (bits BinOp.and IntKind.u64 ((f : Int) / 2 ^ (zs[t]'h).toNat) 1 == 1) = false)
    (G : World → Prop) (hG : ∀ W, w.grownBy W (some b) → G W)
    (hfull : ∀ (W : World) (_ : G W) (h : t < zs.length), Calls Tryd.prog 79 #[.agg #[.int .u64 f], .int .i64 (zs[t]'h), .int .i64 room] W fun e W' => e = .returned (.bool false) ∧ Below W.heap.size W W')
    (hwith : ∀ (W : World) (_ : G W) (h : t < zs.length), Calls Tryd.prog 80 #[.agg #[.int .u64 f], .int .i64 (zs[t]'h), .int .i64 (-1)] W fun e W' => e = .returned (.agg #[.int .u64 f']) ∧ Below W.heap.size W W')
    (hrec : ∀ W cur, G W → Tbl V room a L cap b cur W → PgOK zs a b W → Calls Tryd.prog 47 #[.pointer (some ⟨b, 0, none⟩), .int .i64 ((t : Int) + 1), .agg #[.int .u64 f']] W (LeastAt V room a L cap b (t + 1) f' W)) :
    Calls Tryd.prog 47 #[.pointer (some ⟨b, 0, none⟩), .int .i64 t, .agg #[.int .u64 f]] w (LeastAt V room a L cap b t f w) := by
  obtain ⟨hzl, hL, ht, hf, hT, hP, k1, k2, hp⟩ := h
  have hb := hT.blk.lt
  have c1 := hT.blk.cell 1 hT.pages
  have ht1 : (t : Int) < 12 := by omega
  have ht2 : (t : Int) ≠ L := by omega
  have ht3 : (t : Int) < L := by omega
  have hf1 : (f : Int) < 64 := by omega
  have htz : t < zs.length := by omega
  have hbit := hbit htz
  have hfull := fun W hW => hfull W hW htz
  have hwith := fun W hW => hwith W hW htz
  obtain ⟨hp0, hp1⟩ := hp zs[t] (List.getElem_mem _)
  have hbx := Bx.start w f
  obtain ⟨pb, off, rfl, hpb, hpw, hpc⟩ := hP t (by omega)
  go_enter Tryd.func47, Tryd.ntmps47
  go_wp2
  generalize World.alloc (World.alloc w _) _ = W1 at hbx ⊢
  have hb1 : b < W1.heap.size := by rw [hbx.size]; omega
  have c2 : W1.cell? ⟨b, 2 + t * 128 + f * 2, none⟩ = some (.int .i64 0) := (hbx.low.cell (p := ⟨b, _, none⟩) hb).trans (hT.blk.cell _ k1)
  have c3 : W1.cell? ⟨b, 2 + t * 128 + f * 2 + 1, none⟩ = some (.int .i64 0) := (hbx.low.cell (p := ⟨b, _, none⟩) hb).trans (hT.blk.cell _ k2)
  have c4 := hbx.fl.cell 0 rfl
  have n1 : w.heap.size < W1.heap.size := by rw [hbx.size]; omega
  have n2 : w.heap.size + 1 < W1.heap.size := by rw [hbx.size]; omega
  clear c1 k1 k2
  go_region
  have hbx2 := hbx.next (b := b) (.cells #[.int .i64 0, .int .i64 0] 102)
  have h7 : Blk ((W1.alloc (.cells #[.int .i64 0, .int .i64 0] 102)).drew) W1.heap.size #[.int .i64 0, .int .i64 0] 102 := (Blk.new W1 _ _).drew
  generalize World.drew (World.alloc W1 _) = W2 at hbx2 h7 ⊢
  clear c2 c3 c4 n1 n2 hb1
  have hb2 : b < W2.heap.size := Nat.lt_of_lt_of_le hb hbx2.low.size
  have hT2 : Tbl V room (some ⟨pb, off, none⟩) L cap b cur W2 := hT.other ((hbx2.low.block b hb).trans hT.blk)
  have d1 := hT2.blk.cell 1 hT2.pages
  have d2 : W2.cell? ⟨pb, off + t, none⟩ = some (.int .i64 zs[t]) := (hbx2.low.cell (p := ⟨pb, _, none⟩) hpw).trans hpc
  have d3 := hbx2.fl.cell 0 rfl
  have d4 := h7.cell 0 rfl
  have d5 := h7.cell 1 rfl
  have n1 : w.heap.size < W2.heap.size := by have := hbx2.size; omega
  have n2 : w.heap.size + 1 < W2.heap.size := hbx2.size
  have n3 : pb < W2.heap.size := by omega
  have n4 := h7.lt
  have hM3 : Mid V room zs (some ⟨pb, off, none⟩) L cap b f W2.heap.size #[.int .i64 0, .int .i64 0] cur w (W2.alloc (.cells #[.int .i64 0, .int .i64 0] 102)) :=
    ⟨hbx2.fl.alloc _, hbx2.out.alloc _, Blk.new W2 _ _, hT2.other (hT2.blk.alloc _), hP, gb_trans (gb_below hbx2.low) (gb_alloc _ _ _), n2, hb⟩
  go_wp2
  generalize World.alloc W2 _ = W3 at hM3 ⊢
  clear n1 n2 n3 n4 d1 d2 d3 d4 d5 h7 hT2 hb2 hbx2 hbx
  have d1 := hM3.tbl.blk.cell 0 hM3.tbl.room
  have d3 := hM3.fl.cell 0 rfl
  go_region_with (go_at_call 79; refine (hfull _ (hG _ hM3.drew.low)).mono ?_; rintro e W4 ⟨rfl, hB4⟩; have hM4 := hM3.drew.below hB4)
  all_goals
    have e0 := hM4.fl.cell 0 rfl
    have n9 := hM4.res.lt
    go_wp2_with (first | (go_at_call 80; refine (hwith _ (hG _ hM4.low)).mono ?_; rintro e W5 ⟨rfl, hB5⟩; have hM5 := hM4.below hB5) | (go_at_call 47; refine (hrec _ _ (hG _ hM5.low) hM5.tbl hM5.pgsW).mono ?_; rintro e W6 ⟨pl, cur6, rfl, hT6, hg6⟩; have hM6 := hM5.call hg6 hT6; have e1 := hM6.res.cell 0 rfl; have e2 := hM6.res.cell 1 rfl; have e3 := hM6.res.frozen 0; have e4 := hM6.res.frozen 1))
    have hR := (((hM6.set 0 (.int .i64 (V (t + 1) f'))).set 1 (.int .i64 pl)).set 0 (.int .i64 (V (t + 1) f' + 1))).rest hV
    generalize World.setCell (World.setCell (World.setCell W6 _ _) _ _) _ _ = W7 at hR ⊢
    clear e0 e1 e2 e3 e4 n9 hM6 hM5 hM4 hM3 hB4 hB5 hT6 hg6 hwith hfull d1 d3 hbit hrec hT hP hp hpc hV hVb
    have r1 := hR.fl.cell 0 rfl
    have r2 := hR.res.cell 0 rfl
    have r3 := hR.res.cell 1 rfl
    obtain ⟨s0, q0, k1, k2, k3⟩ := hR.tbl.known t f (by omega) hf
    have r4 := hR.tbl.blk.cell _ k1
    have r5 := hR.tbl.blk.cell _ k2
    have r6 := fun j => hR.tbl.blk.frozen j
    have r7 := hR.out.cell 0 rfl
    have r8 := hR.out.cell 1 rfl
    have r9 := hR.out.frozen 0
    have r10 := hR.out.frozen 1
    have m1 := hR.res.lt
    have m2 := hR.out.lt
    obtain ⟨f1, cur', f2, f3⟩ := hR.fin (by omega) hf hb
    clear k1 k2 k3 hR
    go_region
    go_wp2
    exact bodyPost_ret (v := .agg #[.int .i64 (V t f), .int .i64 pl]) (least_res rfl f1.drew) rfl ⟨pl, cur', rfl, f2.other f2.blk.drew, gb_trans f3 (gb_drew _ _)⟩
/-- Pages in a slice of the call's own. -/
def Lst (l : List Nat) (b2 : Nat) (W : World) : Prop := ∃ cur ty, Blk W b2 cur ty ∧ ∀ i (h : i < l.length), cur[i]? = some (.int .i64 (l[i] : Int))
theorem Lst.kept {l : List Nat} {b2 : Nat} {W W' : World} {r : Option Nat} (h : Lst l b2 W) (hg : W.grownBy W' r) (hne : some b2 ≠ r) : Lst l b2 W' := by
  obtain ⟨cur, ty, h1, h2⟩ := h
  exact ⟨cur, ty, h1.kept hg hne, h2⟩
theorem Lst.cell {l : List Nat} {b2 : Nat} {W : World} (h : Lst l b2 W) {i : Nat} (hi : i < l.length) : W.cell? ⟨b2, i, none⟩ = some (.int .i64 (l[i] : Int)) := by
  obtain ⟨cur, ty, h1, h2⟩ := h
  exact h1.cell i (h2 i hi)
theorem Lst.lt {l : List Nat} {b2 : Nat} {W : World} (h : Lst l b2 W) : b2 < W.heap.size := by
  obtain ⟨cur, ty, h1, h2⟩ := h
  exact h1.lt
theorem Lst.other {l : List Nat} {b2 : Nat} {W : World} (h : Lst l b2 W) {b' : Nat} (j : Nat) (v : Value) (hne : b2 ≠ b') : Lst l b2 (W.setCell ⟨b', j, none⟩ v) := by
  obtain ⟨cur, ty, h1, h2⟩ := h
  exact ⟨cur, ty, h1.other j v hne, h2⟩
/-- What has come out behind k pages. -/
def Out (v : Nat → Int) (l : List Nat) (k : Nat) (r : Array Value) : Prop :=
  (k = 0 ∧ r = #[.int .i64 0, .int .i64 0]) ∨ (0 < k ∧ ∃ p : Int, r = #[.int .i64 (mnl v (l.take k)), .int .i64 p])
/-- A round's head. -/
def Head (V : Nat → Nat → Int) (room : Nat) (zs : List Int) (a : Option Addr) (L cap b f n9 b2 : Nat) (v : Nat → Int) (l : List Nat) (k : Nat) (w W : World) : Prop :=
  ∃ r cur, Mid V room zs a L cap b f n9 r cur w W ∧ Lst l b2 W ∧ Out v l k r ∧ n9 < b2
theorem Head.next {V : Nat → Nat → Int} {room : Nat} {zs : List Int} {a : Option Addr} {L cap b f n9 b2 : Nat} {v : Nat → Int} {l : List Nat} {k : Nat} {r cur : Array Value} {w W : World} (hM : Mid V room zs a L cap b f n9 r cur w W) (hL : Lst l b2 W) (hn : n9 < b2) (ho : Out v l (k + 1) r) :
    Head V room zs a L cap b f n9 b2 v l (k + 1) w W := ⟨r, cur, hM, hL, ho, hn⟩
theorem out_first {v : Nat → Int} {l : List Nat} (h : 0 < l.length) (p : Int) : Out v l 1 #[.int .i64 (v l[0]), .int .i64 p] := by
  right
  refine ⟨Nat.one_pos, p, ?_⟩
  rw [List.take_succ_eq_append_getElem h]
  rfl
theorem mnl_take {v : Nat → Int} {l : List Nat} {k : Nat} (h : k < l.length) (h0 : 0 < k) : mnl v (l.take (k + 1)) = bif decide (v l[k] < mnl v (l.take k)) then v l[k] else mnl v (l.take k) := by
  rw [List.take_succ_eq_append_getElem h]
  exact mnl_snoc v _ _ (by
    intro e
    have := congrArg List.length e
    rw [List.length_take, List.length_nil] at this
    omega)
theorem out_less {v : Nat → Int} {l : List Nat} {k : Nat} (h : k < l.length) (h0 : 0 < k) (hl : v l[k] < mnl v (l.take k)) (p : Int) : Out v l (k + 1) #[.int .i64 (v l[k]), .int .i64 p] := by
  right
  refine ⟨Nat.succ_pos _, p, ?_⟩
  rw [mnl_take h h0, decide_eq_true hl]
  rfl
theorem out_more {v : Nat → Int} {l : List Nat} {k : Nat} (h : k < l.length) (h0 : 0 < k) (hl : ¬ v l[k] < mnl v (l.take k)) (p : Int) : Out v l (k + 1) #[.int .i64 (mnl v (l.take k)), .int .i64 p] := by
  right
  refine ⟨Nat.succ_pos _, p, ?_⟩
  rw [mnl_take h h0, decide_eq_false hl]
  rfl
theorem mnl_bd (v : Nat → Int) (l : List Nat) (h : l ≠ []) (hb : ∀ g ∈ l, 1 ≤ v g ∧ v g ≤ 13) : 1 ≤ mnl v l ∧ mnl v l ≤ 13 := by
  obtain ⟨g, hg, e⟩ := mnl_mem v l h
  rw [e]
  exact hb g hg
set_option maxHeartbeats 16000000 in
theorem least_swap (V : Nat → Nat → Int) (room : Nat) (a : Option Addr) (L cap b t f : Nat) (l : List Nat) (sw : Nat → Nat) (zs : List Int) (cur : Array Value) (w : World) (h : Job V room zs a L cap b t f cur w) (hl0 : 0 < l.length) (hl6 : l.length ≤ 6) (hlg : ∀ g ∈ l, g < 6) (hV : V t f = mnl (fun g => V (t + 1) (sw g) + 1) l)
    (hVb : ∀ g ∈ l, 0 ≤ V (t + 1) (sw g) ∧ V (t + 1) (sw g) ≤ 12)
    (hbit : ∀ h : t < zs.length, (bits BinOp.and IntKind.u64 ((f : Int) / 2 ^ (zs[t]'h).toNat) 1 == 1) = false)
    (G : World → Prop) (hG : ∀ W, w.grownBy W (some b) → G W)
    (hfull : ∀ (W : World) (_ : G W) (h : t < zs.length), Calls Tryd.prog 79 #[.agg #[.int .u64 f], .int .i64 (zs[t]'h), .int .i64 room] W fun e W' => e = .returned (.bool true) ∧ Below W.heap.size W W')
    (hlist : ∀ W : World, G W → Calls Tryd.prog 81 #[.int .u64 f] W fun e W' => ∃ b2 cap2, e = .returned (.slice (some ⟨b2, 0, none⟩) l.length cap2) ∧ W.heap.size ≤ b2 ∧ Lst l b2 W' ∧ Below W.heap.size W W')
    (hwith : ∀ (W : World) (_ : G W) (h : t < zs.length), ∀ g ∈ l, Calls Tryd.prog 80 #[.agg #[.int .u64 f], .int .i64 (zs[t]'h), .int .i64 (g : Int)] W fun e W' => e = .returned (.agg #[.int .u64 (sw g)]) ∧ Below W.heap.size W W')
    (hrec : ∀ g ∈ l, ∀ W cur, G W → Tbl V room a L cap b cur W → PgOK zs a b W → Calls Tryd.prog 47 #[.pointer (some ⟨b, 0, none⟩), .int .i64 ((t : Int) + 1), .agg #[.int .u64 (sw g)]] W (LeastAt V room a L cap b (t + 1) (sw g) W)) :
    Calls Tryd.prog 47 #[.pointer (some ⟨b, 0, none⟩), .int .i64 t, .agg #[.int .u64 f]] w (LeastAt V room a L cap b t f w) := by
  obtain ⟨hzl, hL, ht, hf, hT, hP, k1, k2, hp⟩ := h
  have hb := hT.blk.lt
  have c1 := hT.blk.cell 1 hT.pages
  have ht1 : (t : Int) < 12 := by omega
  have ht2 : (t : Int) ≠ L := by omega
  have ht3 : (t : Int) < L := by omega
  have hf1 : (f : Int) < 64 := by omega
  have htz : t < zs.length := by omega
  have hbit := hbit htz
  have hfull := fun W hW => hfull W hW htz
  have hwith := fun W hW => hwith W hW htz
  obtain ⟨hp0, hp1⟩ := hp zs[t] (List.getElem_mem _)
  have hbx := Bx.start w f
  obtain ⟨pb, off, rfl, hpb, hpw, hpc⟩ := hP t (by omega)
  go_enter Tryd.func47, Tryd.ntmps47
  go_wp2
  generalize World.alloc (World.alloc w _) _ = W1 at hbx ⊢
  have hb1 : b < W1.heap.size := by rw [hbx.size]; omega
  have c2 : W1.cell? ⟨b, 2 + t * 128 + f * 2, none⟩ = some (.int .i64 0) := (hbx.low.cell (p := ⟨b, _, none⟩) hb).trans (hT.blk.cell _ k1)
  have c3 : W1.cell? ⟨b, 2 + t * 128 + f * 2 + 1, none⟩ = some (.int .i64 0) := (hbx.low.cell (p := ⟨b, _, none⟩) hb).trans (hT.blk.cell _ k2)
  have c4 := hbx.fl.cell 0 rfl
  have n1 : w.heap.size < W1.heap.size := by rw [hbx.size]; omega
  have n2 : w.heap.size + 1 < W1.heap.size := by rw [hbx.size]; omega
  clear c1 k1 k2
  go_region
  have hbx2 := hbx.next (b := b) (.cells #[.int .i64 0, .int .i64 0] 102)
  have h7 : Blk ((W1.alloc (.cells #[.int .i64 0, .int .i64 0] 102)).drew) W1.heap.size #[.int .i64 0, .int .i64 0] 102 := (Blk.new W1 _ _).drew
  generalize World.drew (World.alloc W1 _) = W2 at hbx2 h7 ⊢
  clear c2 c3 c4 n1 n2 hb1
  have hb2 : b < W2.heap.size := Nat.lt_of_lt_of_le hb hbx2.low.size
  have hT2 : Tbl V room (some ⟨pb, off, none⟩) L cap b cur W2 := hT.other ((hbx2.low.block b hb).trans hT.blk)
  have d1 := hT2.blk.cell 1 hT2.pages
  have d2 : W2.cell? ⟨pb, off + t, none⟩ = some (.int .i64 zs[t]) := (hbx2.low.cell (p := ⟨pb, _, none⟩) hpw).trans hpc
  have d3 := hbx2.fl.cell 0 rfl
  have d4 := h7.cell 0 rfl
  have d5 := h7.cell 1 rfl
  have n1 : w.heap.size < W2.heap.size := by have := hbx2.size; omega
  have n2 : w.heap.size + 1 < W2.heap.size := hbx2.size
  have n3 : pb < W2.heap.size := by omega
  have n4 := h7.lt
  have hM3 : Mid V room zs (some ⟨pb, off, none⟩) L cap b f W2.heap.size #[.int .i64 0, .int .i64 0] cur w (W2.alloc (.cells #[.int .i64 0, .int .i64 0] 102)) :=
    ⟨hbx2.fl.alloc _, hbx2.out.alloc _, Blk.new W2 _ _, hT2.other (hT2.blk.alloc _), hP, gb_trans (gb_below hbx2.low) (gb_alloc _ _ _), n2, hb⟩
  go_wp2
  generalize World.alloc W2 _ = W3 at hM3 ⊢
  clear n1 n2 n3 n4 d1 d2 d3 d4 d5 h7 hT2 hb2 hbx2 hbx hpc hP hT
  have d1 := hM3.tbl.blk.cell 0 hM3.tbl.room
  have d3 := hM3.fl.cell 0 rfl
  go_region_with (go_at_call 79; refine (hfull _ (hG _ hM3.drew.low)).mono ?_; rintro e W4 ⟨rfl, hB4⟩; have hM4 := hM3.drew.below hB4)
  all_goals
    have e0 := hM4.fl.cell 0 rfl
    have n9 := hM4.res.lt
    go_wp2_with (go_at_call 81; refine (hlist _ (hG _ hM4.low)).mono ?_; rintro e W5 ⟨b2, cap2, rfl, hb2, hL5, hB5⟩; have hM5 := hM4.below hB5)
    clear e0 d1 d3 hfull hlist hB4 hB5 hM3
    have hH5 : Head V room zs (some ⟨pb, off, none⟩) L cap b f W2.heap.size b2 (fun g => V (t + 1) (sw g) + 1) l 0 w W5 := ⟨_, _, hM5, hL5, .inl ⟨rfl, rfl⟩, by omega⟩
    clear hM5 hL5 hM4 n9 hb2
    go_loopw [47] (fun i wr => ∃ k : Nat, i = .int .i64 k ∧ k ≤ l.length ∧ Head V room zs (some ⟨pb, off, none⟩) L cap b f W2.heap.size b2 (fun g => V (t + 1) (sw g) + 1) l k w wr) (fun i _ => l.length - (intOf i).toNat)
    case atStart => exact ⟨0, rfl, Nat.zero_le _, hH5⟩
    case round =>
      obtain ⟨k, rfl, hk, r, cur5, hM, hLs, hO, hn9⟩ := hrel
      obtain ⟨wi, rfl⟩ : ∃ wi, wi = wr := ⟨wr, rfl⟩
      clear hH5
      by_cases hkl : k < l.length
      · have cl := hLs.cell hkl
        have hg6 := hlg l[k] (List.getElem_mem _)
        obtain ⟨hx0, hx1⟩ := hVb l[k] (List.getElem_mem _)
        have hwk := fun W hW => hwith W hW l[k] (List.getElem_mem _)
        have hrk := hrec l[k] (List.getElem_mem _)
        have e0 := hM.fl.cell 0 rfl
        rcases hO with ⟨hk0, rfl⟩ | ⟨hk0, p, rfl⟩
        · have hk1 : k < 1 := by omega
          clear hk0
          go_wp2_with (first | (go_at_call 80; refine (hwk _ (hG _ hM.low)).mono ?_; rintro e W5 ⟨rfl, hB5⟩; have hM5 := hM.below hB5; have hL5 := hLs.kept (gb_below hB5 (r := none)) (by simp)) | (go_at_call 47; refine (hrk _ _ (hG _ hM5.low) hM5.tbl hM5.pgsW).mono ?_; rintro e W6 ⟨pl, cur6, rfl, hT6, hg6⟩; have hM6 := hM5.call hg6 hT6; have hL6 := hL5.kept hg6 (by have := hM5.blo; have := hM5.nlo; simp; omega); have e1 := hM6.res.cell 0 rfl; have e2 := hM6.res.cell 1 rfl; have e3 := hM6.res.frozen 0; have e4 := hM6.res.frozen 1; have e5 := hM6.res.lt))
          refine ⟨⟨k + 1, by simp, by omega, Head.next (r := #[.int .i64 (V (t + 1) (sw l[k]) + 1), .int .i64 pl]) (((hM6.set 0 _).set 1 _).alloc _) (((hL6.other _ _ (by omega)).other _ _ (by omega)).kept (gb_alloc _ _ none) (by simp)) hn9 ?_⟩, by simp [intOf]; omega⟩
          obtain rfl : k = 0 := by omega
          exact out_first (v := fun g => V (t + 1) (sw g) + 1) hkl pl
        · have hm := mnl_bd (fun g => V (t + 1) (sw g) + 1) (l.take k) (by intro e; have := congrArg List.length e; rw [List.length_take, List.length_nil] at this; omega) (fun g hg => by have := hVb g (List.mem_of_mem_take hg); omega)
          have o1 := out_less (v := fun g => V (t + 1) (sw g) + 1) hkl hk0
          have o2 := out_more (v := fun g => V (t + 1) (sw g) + 1) hkl hk0
          have O1 := Lib.hid o1
          have O2 := Lib.hid o2
          clear o1 o2
          obtain ⟨m, hmm⟩ : ∃ m, m = mnl (fun g => V (t + 1) (sw g) + 1) (l.take k) := ⟨_, rfl⟩
          rw [← hmm] at hm hM O1 O2
          clear hmm
          have hm0 : (m == 0) = false := by simp; omega
          by_cases hlm : V (t + 1) (sw l[k]) + 1 < m
          · go_wp2_with (first | (go_at_call 80; refine (hwk _ (hG _ hM.low)).mono ?_; rintro e W5 ⟨rfl, hB5⟩; have hM5 := hM.below hB5; have hL5 := hLs.kept (gb_below hB5 (r := none)) (by simp)) | (go_at_call 47; refine (hrk _ _ (hG _ hM5.low) hM5.tbl hM5.pgsW).mono ?_; rintro e W6 ⟨pl, cur6, rfl, hT6, hg6⟩; have hM6 := hM5.call hg6 hT6; have hL6 := hL5.kept hg6 (by have := hM5.blo; have := hM5.nlo; simp; omega); have e1 := hM6.res.cell 0 rfl; have e2 := hM6.res.cell 1 rfl; have e3 := hM6.res.frozen 0; have e4 := hM6.res.frozen 1; have e5 := hM6.res.lt))
            exact ⟨⟨k + 1, by simp, by omega, Head.next (r := #[.int .i64 (V (t + 1) (sw l[k]) + 1), .int .i64 pl]) (((hM6.set 0 _).set 1 _).alloc _) (((hL6.other _ _ (by omega)).other _ _ (by omega)).kept (gb_alloc _ _ none) (by simp)) hn9 (O1.out hlm pl)⟩, by simp [intOf]; omega⟩
          · by_cases heq : V (t + 1) (sw l[k]) + 1 = m
            · have heq' : (V (t + 1) (sw l[k]) + 1 == m) = true := by simp [heq]
              have HE := Lib.hid heq
              clear heq
              go_wp2_with (first | (go_at_call 80; refine (hwk _ (hG _ hM.low)).mono ?_; rintro e W5 ⟨rfl, hB5⟩; have hM5 := hM.below hB5; have hL5 := hLs.kept (gb_below hB5 (r := none)) (by simp)) | (go_at_call 47; refine (hrk _ _ (hG _ hM5.low) hM5.tbl hM5.pgsW).mono ?_; rintro e W6 ⟨pl, cur6, rfl, hT6, hg6⟩; have hM6 := hM5.call hg6 hT6; have hL6 := hL5.kept hg6 (by have := hM5.blo; have := hM5.nlo; simp; omega); have e1 := hM6.res.cell 0 rfl; have e2 := hM6.res.cell 1 rfl; have e3 := hM6.res.frozen 0; have e4 := hM6.res.frozen 1; have e5 := hM6.res.lt))
              exact ⟨⟨k + 1, by simp, by omega, Head.next (r := #[.int .i64 m, .int .i64 _]) ((hM6.set 1 _).alloc _) ((hL6.other _ _ (by omega)).kept (gb_alloc _ _ none) (by simp)) hn9 (O2.out hlm _)⟩, by simp [intOf]; omega⟩
            · have heq' : (V (t + 1) (sw l[k]) + 1 == m) = false := by simp [heq]
              go_wp2_with (first | (go_at_call 80; refine (hwk _ (hG _ hM.low)).mono ?_; rintro e W5 ⟨rfl, hB5⟩; have hM5 := hM.below hB5; have hL5 := hLs.kept (gb_below hB5 (r := none)) (by simp)) | (go_at_call 47; refine (hrk _ _ (hG _ hM5.low) hM5.tbl hM5.pgsW).mono ?_; rintro e W6 ⟨pl, cur6, rfl, hT6, hg6⟩; have hM6 := hM5.call hg6 hT6; have hL6 := hL5.kept hg6 (by have := hM5.blo; have := hM5.nlo; simp; omega); have e1 := hM6.res.cell 0 rfl; have e2 := hM6.res.cell 1 rfl; have e3 := hM6.res.frozen 0; have e4 := hM6.res.frozen 1; have e5 := hM6.res.lt))
              exact ⟨⟨k + 1, by simp, by omega, Head.next (r := #[.int .i64 m, .int .i64 p]) (hM6.alloc _) (hL6.kept (gb_alloc _ _ none) (by simp)) hn9 (O2.out hlm p)⟩, by simp [intOf]; omega⟩
      · obtain rfl : k = l.length := by omega
        rcases hO with ⟨hk0, _⟩ | ⟨hk0, p, rfl⟩
        · omega
        rw [List.take_length] at hM
        have hR := hM.rest hV
        clear hM hV hVb hlg hwith hrec hbit hLs hp
        go_wp2
        have r1 := hR.fl.cell 0 rfl
        have r2 := hR.res.cell 0 rfl
        have r3 := hR.res.cell 1 rfl
        obtain ⟨s0, q0, k1, k2, k3⟩ := hR.tbl.known t f (by omega) hf
        have r4 := hR.tbl.blk.cell _ k1
        have r5 := hR.tbl.blk.cell _ k2
        have r6 := fun j => hR.tbl.blk.frozen j
        have r7 := hR.out.cell 0 rfl
        have r8 := hR.out.cell 1 rfl
        have r9 := hR.out.frozen 0
        have r10 := hR.out.frozen 1
        have m1 := hR.res.lt
        have m2 := hR.out.lt
        obtain ⟨f1, cur', f2, f3⟩ := hR.fin (by omega) hf hb
        clear k1 k2 k3 hR
        go_region
        go_wp2
        exact bodyPost_ret (v := .agg #[.int .i64 (V t f), .int .i64 p]) (least_res rfl f1.drew) rfl ⟨p, cur', rfl, f2.other f2.blk.drew, gb_trans f3 (gb_drew _ _)⟩
end Go.Proofs.YtkfkbebinhkdlaaDoor
set_option linter.unusedVariables false
set_option linter.unusedSimpArgs false
set_option maxRecDepth 100000
namespace Go.Proofs.YtkfkbebinhkdlaaDoor
open Go.Vi
abbrev R78 := Bool
noncomputable def c78 : Code := bodyOf Tryd.f78
noncomputable def an78 : Ann := .l
def pk78 : List PK := [.c (.int .i64)]
def rk78 : List RK := [.c .bool 2]
noncomputable def rt78 (st : St) : Option R78 := rtG rk78 st
noncomputable def E78 (n : Nat × Nat) : Env := { T := tab, phi := noPhi, eff := fun _ => false, fuel := n.1, hold := n.2 }
noncomputable def S78 (n : Nat × Nat) (p0 : Int) : Option R78 := run (E78 n) c78 an78 rt78 (fun _ _ => none) rt78 { tm := [.c (.int .i64 p0), uu, uu, uu, uu, uu, uu, uu, uu], hp := emp }
theorem S78_eq (n : Nat × Nat) (p0 : Int) : S78 n p0 =
 ((bif (decide (p0 < 0) == false) then some (decide (p0 ≥ 6))
 else some true)).bind fun b1' =>
 some b1' := by kernel_rfl
theorem S78_run (n : Nat × Nat) (xs : pksDen pk78) : S78 n xs.1 = runG (E78 n) noScope c78 an78 (rtG rk78) (fun _ _ => none) (rtG rk78) (st0 pk78 xs Tryd.f78.ntmps) := by kernel_rfl
noncomputable def P78 (n : Nat × Nat) := phiOf pk78 rk78 (fun xs => S78 n xs.1)
theorem call78 : CallOK Tryd.prog 78 := callOK_of Tryd.func78 (by kernel_rfl) (by kernel_rfl)
theorem env78 (n : Nat × Nat) : EnvOK Tryd.prog (E78 n) := envOK0 noPhi_ok rfl rfl
theorem par78 (n : Nat × Nat) : EnvPar (E78 n) := envPar0 noPhi_par rfl
theorem FC78 (n : Nat × Nat) : FCs Tryd.prog 78 (P78 n) := phiOf_FCs fun xs r h vs hv => FC.of_runG tabOK eqsOK (env78 n) (par78 n) mixed (fun _ p _ => noScope_ok p.1 p.2) Tryd.func78 (c := c78) (an := an78) (pks := pk78) (rks := rk78) (by kernel_rfl) (by kernel_rfl) hv ((S78_run n xs).symm.trans h)
/- slices.IndexFunc[[]int,int] -/
abbrev R108c78 := Int
noncomputable def c108c78 : Code := bodyOf Tryd.f108
noncomputable def an108c78 : Ann := (.s .l (.s (.s .l (.j [] (.j [0, 1, 7, 8] (.s .l (.s (.j [0, 1, 7, 8] .l .l) (.s (.j [0, 1, 7, 8] (.s .l (.s .l (.j [0, 1, 7, 8] .l .l))) .l) .l))) .l) .l)) .l))
def pk108c78 : List PK := [.c (.sl (.int .i64)), .f 78 []]
def rk108c78 : List RK := [.c (.int .i64) 4]
noncomputable def rt108c78 (st : St) : Option R108c78 := rtG rk108c78 st
noncomputable def E108c78 (n : Nat × Nat) : Env := { T := tab, phi := (consPhi 78 (fun _ => true) (P78 n) noPhi), eff := fun _ => false, fuel := n.1, hold := n.2, pcl := [11] }
noncomputable def kq108c78_1 (n : Nat × Nat) : St → Option R108c78 := run (E108c78 n) (cB (cB c108c78)) (Ann.snd (Ann.snd an108c78)) rt108c78 (fun _ _ => none) rt108c78
noncomputable def xb108c78_3 (n : Nat × Nat) : Nat → St → Option R108c78 := fun j s => bif Nat.beq j 0 then normC [] s (kq108c78_1 n) else (fun _ _ => none) j s
noncomputable def F108c78_4 (n : Nat × Nat) : (St → Option R108c78) → St → Option R108c78 := fun K s => run (E108c78 n) (cA (cA (cB (cA (cB c108c78))))) (Ann.fst (Ann.fst (Ann.snd (Ann.fst (Ann.snd an108c78))))) (fun s => normC [0, 1, 7, 8] s K) (xb108c78_3 n) rt108c78 s
noncomputable def L108c78_1 (n : Nat × Nat) (m : Nat) (s0 : List Int) (v7 : Int) (v8 : Int) : Option R108c78 := loopN (F108c78_4 n) m { tm := [.c (.sl (.int .i64) s0 false), .fn 78 [], uu, uu, uu, uu, uu, .c (.int .i64 v7), .c (.int .i64 v8), uu, uu, uu, uu, uu, uu, uu, uu, uu, uu], hp := emp }
theorem L108c78_1_eq (n : Nat × Nat) (m1 : Nat) (s0 : List Int) (v7 : Int) (v8 : Int) : L108c78_1 n (m1 + 1) s0 v7 v8 =
 (bif decide (v8 < v7) then (idx s0 v8).bind fun x1' =>
 (S78 n x1').bind fun r2' =>
 (bif r2' then some v8
 else L108c78_1 n m1 s0 v7 (wr .i64 (v8 + 1)))
 else some (-1)) := by kernel_rfl
noncomputable def S108c78 (n : Nat × Nat) (s0 : List Int) : Option R108c78 := run (E108c78 n) c108c78 an108c78 rt108c78 (fun _ _ => none) rt108c78 { tm := [.c (.sl (.int .i64) s0 false), .fn 78 [], uu, uu, uu, uu, uu, uu, uu, uu, uu, uu, uu, uu, uu, uu, uu, uu, uu], hp := emp }
theorem S108c78_eq (n : Nat × Nat) (s0 : List Int) : S108c78 n s0 =
    L108c78_1 n n.1 s0 (s0.length : Int) 0 := by kernel_rfl
theorem S108c78_run (n : Nat × Nat) (xs : pksDen pk108c78) : S108c78 n xs.1 = runG (E108c78 n) noScope c108c78 an108c78 (rtG rk108c78) (fun _ _ => none) (rtG rk108c78) (st0 pk108c78 xs Tryd.f108.ntmps) := by kernel_rfl
noncomputable def P108c78 (n : Nat × Nat) := phiOf pk108c78 rk108c78 (fun xs => S108c78 n xs.1)
theorem call108 : CallOK Tryd.prog 108 := callOK_of Tryd.func108 (by kernel_rfl) (by kernel_rfl)
theorem env108c78 (n : Nat × Nat) : EnvOK Tryd.prog (E108c78 n) := envOK0 (consPhi_ok (FC78 n) call78 noPhi_ok) rfl rfl
theorem par108c78 (n : Nat × Nat) : EnvPar (E108c78 n) := envPar0 (consPhi_par phiOf_Par1 noPhi_par) rfl
theorem FC108c78 (n : Nat × Nat) : FCs Tryd.prog 108 (P108c78 n) := phiOf_FCs fun xs r h vs hv => FC.of_runG tabOK eqsOK (env108c78 n) (par108c78 n) mixed (fun _ p _ => noScope_ok p.1 p.2) Tryd.func108 (c := c108c78) (an := an108c78) (pks := pk108c78) (rks := rk108c78) (by kernel_rfl) (by kernel_rfl) hv ((S108c78_run n xs).symm.trans h)
/- slices.ContainsFunc[[]int,int] -/
abbrev R77c78 := Bool
noncomputable def c77c78 : Code := bodyOf Tryd.f77
noncomputable def an77c78 : Ann := .l
def pk77c78 : List PK := [.c (.sl (.int .i64)), .f 78 []]
def rk77c78 : List RK := [.c .bool 4]
noncomputable def rt77c78 (st : St) : Option R77c78 := rtG rk77c78 st
noncomputable def E77c78 (n : Nat × Nat) : Env := { T := tab, phi := (consPhi 108 (isFns [none, some 78]) (P108c78 n) noPhi), eff := fun _ => false, fuel := n.1, hold := n.2 }
noncomputable def S77c78 (n : Nat × Nat) (s0 : List Int) : Option R77c78 := run (E77c78 n) c77c78 an77c78 rt77c78 (fun _ _ => none) rt77c78 { tm := [.c (.sl (.int .i64) s0 false), .fn 78 [], uu, uu, uu, uu, uu, uu, uu], hp := emp }
theorem S77c78_eq (n : Nat × Nat) (s0 : List Int) : S77c78 n s0 =
 (S108c78 n s0).bind fun r1' =>
 some (decide (r1' ≥ 0)) := by kernel_rfl
theorem S77c78_run (n : Nat × Nat) (xs : pksDen pk77c78) : S77c78 n xs.1 = runG (E77c78 n) noScope c77c78 an77c78 (rtG rk77c78) (fun _ _ => none) (rtG rk77c78) (st0 pk77c78 xs Tryd.f77.ntmps) := by kernel_rfl
noncomputable def P77c78 (n : Nat × Nat) := phiOf pk77c78 rk77c78 (fun xs => S77c78 n xs.1)
theorem call77 : CallOK Tryd.prog 77 := callOK_of Tryd.func77 (by kernel_rfl) (by kernel_rfl)
theorem env77c78 (n : Nat × Nat) : EnvOK Tryd.prog (E77c78 n) := envOK0 (consPhi_ok (FC108c78 n) call108 noPhi_ok) rfl rfl
theorem par77c78 (n : Nat × Nat) : EnvPar (E77c78 n) := envPar0 (consPhi_par phiOf_Par1 noPhi_par) rfl
theorem FC77c78 (n : Nat × Nat) : FCs Tryd.prog 77 (P77c78 n) := phiOf_FCs fun xs r h vs hv => FC.of_runG tabOK eqsOK (env77c78 n) (par77c78 n) mixed (fun _ p _ => noScope_ok p.1 p.2) Tryd.func77 (c := c77c78) (an := an77c78) (pks := pk77c78) (rks := rk77c78) (by kernel_rfl) (by kernel_rfl) hv ((S77c78_run n xs).symm.trans h)
abbrev R46 := Int
noncomputable def c46 : Code := bodyOf Tryd.f46
noncomputable def an46 : Ann := (.s .l (.s (.j [] (.s .l (.j [] .l (.s .l (.j [] .l (.s .l (.j [] .l .l)))))) .l) .l))
def pk46 : List PK := [.c (.pair (.int .i64) (.sl (.int .i64)))]
def rk46 : List RK := [.c (.int .i64) 2]
noncomputable def rt46 (st : St) : Option R46 := rtG rk46 st
noncomputable def E46 (n : Nat × Nat) : Env := { T := tab, phi := (consPhi 77 (isFns [none, some 78]) (P77c78 n) noPhi), eff := fun _ => false, fuel := n.1, hold := n.2 }
noncomputable def S46 (n : Nat × Nat) (j0 : Int × List Int) : Option R46 := run (E46 n) c46 an46 rt46 (fun _ _ => none) rt46 { tm := [.agg [.int .i64 j0.1, .sl (.int .i64) j0.2 false], uu, uu, uu, uu, uu, uu, uu, uu, uu, uu, uu, uu, uu, uu, uu, uu, uu, uu, uu, uu], hp := emp }
theorem S46_eq (n : Nat × Nat) (j0 : Int × List Int) : S46 n j0 =
 ((bif (decide (j0.1 < 1) == false) then some (decide (j0.1 > 5))
 else some true)).bind fun b1' =>
 (bif b1' then some 1
 else (bif decide ((j0.2.length : Int) > 12) then some 3
 else (S77c78 n j0.2).bind fun r2' =>
 (bif r2' then some 2
 else some 0))) := by kernel_rfl
theorem S46_run (n : Nat × Nat) (xs : pksDen pk46) : S46 n xs.1 = runG (E46 n) noScope c46 an46 (rtG rk46) (fun _ _ => none) (rtG rk46) (st0 pk46 xs Tryd.f46.ntmps) := by kernel_rfl
noncomputable def P46 (n : Nat × Nat) := phiOf pk46 rk46 (fun xs => S46 n xs.1)
theorem env46 (n : Nat × Nat) : EnvOK Tryd.prog (E46 n) := envOK0 (consPhi_ok (FC77c78 n) call77 noPhi_ok) rfl rfl
theorem par46 (n : Nat × Nat) : EnvPar (E46 n) := envPar0 (consPhi_par phiOf_Par1 noPhi_par) rfl
theorem FC46 (n : Nat × Nat) : FCs Tryd.prog 46 (P46 n) := phiOf_FCs fun xs r h vs hv => FC.of_runG tabOK eqsOK (env46 n) (par46 n) mixed (fun _ p _ => noScope_ok p.1 p.2) Tryd.func46 (c := c46) (an := an46) (pks := pk46) (rks := rk46) (by kernel_rfl) (by kernel_rfl) hv ((S46_run n xs).symm.trans h)
/-D 78 -/
noncomputable def D78 (n : Nat × Nat) (p0 : Int) : Option R78 :=
 ((bif (decide (p0 < 0) == false) then some (decide (p0 ≥ 6))
 else some true)).bind fun b1' =>
 some b1'
theorem S78_D (n : Nat × Nat) (hn : n.2 = 1) : S78 n = D78 n := by
  funext p0; refine (S78_eq n p0).trans ?_
  unfold D78
  first | with_reducible rfl | rfl
/-D 108c78 -/
noncomputable def DF108c78_1 (n : Nat × Nat) (f1 : List Int → Int → Int → Option R108c78) (s0 : List Int) (v7 : Int) (v8 : Int) : Option R108c78 :=
 (bif decide (v8 < v7) then (idx s0 v8).bind fun x1' =>
 (D78 n x1').bind fun r2' =>
 (bif r2' then some v8
 else f1 s0 v7 (wr .i64 (v8 + 1)))
 else some (-1))
noncomputable def DL108c78_1 (n : Nat × Nat) (m : Nat) : List Int → Int → Int → Option R108c78 := Nat.rec (motive := fun _ => List Int → Int → Int → Option R108c78) (fun _ _ _ => none) (fun _ ih => DF108c78_1 n ih) m
theorem DL108c78_1_succ (n : Nat × Nat) (m : Nat) : DL108c78_1 n (m + 1) = DF108c78_1 n (DL108c78_1 n m) := rfl
theorem DL108c78_1_eq (n : Nat × Nat) (hn : n.2 = 1) : ∀ m, L108c78_1 n m = DL108c78_1 n m
  | 0 => by funext s0 v7 v8; kernel_rfl
  | m + 1 => by
    have ih := DL108c78_1_eq n hn m
    funext s0 v7 v8; refine (L108c78_1_eq n m s0 v7 v8).trans ?_
    rw [DL108c78_1_succ]
    unfold DF108c78_1
    (try simp only [ih, S78_D n hn]) <;> first | with_reducible rfl | rfl
noncomputable def D108c78 (n : Nat × Nat) (s0 : List Int) : Option R108c78 :=
    DL108c78_1 n n.1 s0 (s0.length : Int) 0
theorem S108c78_D (n : Nat × Nat) (hn : n.2 = 1) : S108c78 n = D108c78 n := by
  funext s0; refine (S108c78_eq n s0).trans ?_
  unfold D108c78
  (try simp only [DL108c78_1_eq n hn, S78_D n hn]) <;> first | with_reducible rfl | rfl
/-D 77c78 -/
noncomputable def D77c78 (n : Nat × Nat) (s0 : List Int) : Option R77c78 :=
 (D108c78 n s0).bind fun r1' =>
 some (decide (r1' ≥ 0))
theorem S77c78_D (n : Nat × Nat) (hn : n.2 = 1) : S77c78 n = D77c78 n := by
  funext s0; refine (S77c78_eq n s0).trans ?_
  unfold D77c78
  (try simp only [S108c78_D n hn]) <;> first | with_reducible rfl | rfl
/-D 46 -/
noncomputable def D46 (n : Nat × Nat) (j0 : Int × List Int) : Option R46 :=
 ((bif (decide (j0.1 < 1) == false) then some (decide (j0.1 > 5))
 else some true)).bind fun b1' =>
 (bif b1' then some 1
 else (bif decide ((j0.2.length : Int) > 12) then some 3
 else (D77c78 n j0.2).bind fun r2' =>
 (bif r2' then some 2
 else some 0)))
theorem S46_D (n : Nat × Nat) (hn : n.2 = 1) : S46 n = D46 n := by
  funext j0; refine (S46_eq n j0).trans ?_
  unfold D46
  (try simp only [S77c78_D n hn]) <;> first | with_reducible rfl | rfl
/- math/bits.OnesCount64 -/
abbrev R124 := Int
noncomputable def c124 : Code := bodyOf Tryd.f124
noncomputable def an124 : Ann := .l
def pk124 : List PK := [.c (.int .u64)]
def rk124 : List RK := [.c (.int .i64) 2]
noncomputable def rt124 (st : St) : Option R124 := rtG rk124 st
noncomputable def E124 (n : Nat × Nat) : Env := { T := tab, phi := noPhi, eff := fun _ => false, fuel := n.1, hold := n.2 }
noncomputable def S124 (n : Nat × Nat) (x0 : Int) : Option R124 := run (E124 n) c124 an124 rt124 (fun _ _ => none) rt124 { tm := [.c (.int .u64 x0), uu, uu, uu, uu, uu, uu, uu, uu, uu, uu, uu, uu, uu, uu, uu, uu, uu, uu, uu, uu, uu, uu, uu, uu, uu, uu, uu, uu, uu, uu, uu, uu, uu, uu], hp := emp }
theorem S124_eq (n : Nat × Nat) (x0 : Int) : S124 n x0 =
 (bif decide (1 < 0) then none
 else (bif decide (2 < 0) then none
 else (bif decide (4 < 0) then none
 else (bif decide (8 < 0) then none
 else (bif decide (16 < 0) then none
 else (bif decide (32 < 0) then none
 else some (wr .i64 (BitVec.ofInt (IntKind.bits .i64) (wr .i64 (wr .u64 ((wr .u64 ((wr .u64 ((wr .u64 (BitVec.ofInt (IntKind.bits .u64) (wr .u64 ((Int.fdiv (wr .u64 ((wr .u64 (BitVec.ofInt (IntKind.bits .u64) (Int.fdiv (wr .u64 ((wr .u64 (BitVec.ofInt (IntKind.bits .u64) (Int.fdiv x0 (2 ^ (min (Int.toNat 1) (IntKind.bits .u64)))) &&& BitVec.ofInt (IntKind.bits .u64) 6148914691236517205).toNat) + (wr .u64 (BitVec.ofInt (IntKind.bits .u64) x0 &&& BitVec.ofInt (IntKind.bits .u64) 6148914691236517205).toNat))) (2 ^ (min (Int.toNat 2) (IntKind.bits .u64)))) &&& BitVec.ofInt (IntKind.bits .u64) 3689348814741910323).toNat) + (wr .u64 (BitVec.ofInt (IntKind.bits .u64) (wr .u64 ((wr .u64 (BitVec.ofInt (IntKind.bits .u64) (Int.fdiv x0 (2 ^ (min (Int.toNat 1) (IntKind.bits .u64)))) &&& BitVec.ofInt (IntKind.bits .u64) 6148914691236517205).toNat) + (wr .u64 (BitVec.ofInt (IntKind.bits .u64) x0 &&& BitVec.ofInt (IntKind.bits .u64) 6148914691236517205).toNat))) &&& BitVec.ofInt (IntKind.bits .u64) 3689348814741910323).toNat))) (2 ^ (min (Int.toNat 4) (IntKind.bits .u64)))) + (wr .u64 ((wr .u64 (BitVec.ofInt (IntKind.bits .u64) (Int.fdiv (wr .u64 ((wr .u64 (BitVec.ofInt (IntKind.bits .u64) (Int.fdiv x0 (2 ^ (min (Int.toNat 1) (IntKind.bits .u64)))) &&& BitVec.ofInt (IntKind.bits .u64) 6148914691236517205).toNat) + (wr .u64 (BitVec.ofInt (IntKind.bits .u64) x0 &&& BitVec.ofInt (IntKind.bits .u64) 6148914691236517205).toNat))) (2 ^ (min (Int.toNat 2) (IntKind.bits .u64)))) &&& BitVec.ofInt (IntKind.bits .u64) 3689348814741910323).toNat) + (wr .u64 (BitVec.ofInt (IntKind.bits .u64) (wr .u64 ((wr .u64 (BitVec.ofInt (IntKind.bits .u64) (Int.fdiv x0 (2 ^ (min (Int.toNat 1) (IntKind.bits .u64)))) &&& BitVec.ofInt (IntKind.bits .u64) 6148914691236517205).toNat) + (wr .u64 (BitVec.ofInt (IntKind.bits .u64) x0 &&& BitVec.ofInt (IntKind.bits .u64) 6148914691236517205).toNat))) &&& BitVec.ofInt (IntKind.bits .u64) 3689348814741910323).toNat))))) &&& BitVec.ofInt (IntKind.bits .u64) 1085102592571150095).toNat) + (Int.fdiv (wr .u64 (BitVec.ofInt (IntKind.bits .u64) (wr .u64 ((Int.fdiv (wr .u64 ((wr .u64 (BitVec.ofInt (IntKind.bits .u64) (Int.fdiv (wr .u64 ((wr .u64 (BitVec.ofInt (IntKind.bits .u64) (Int.fdiv x0 (2 ^ (min (Int.toNat 1) (IntKind.bits .u64)))) &&& BitVec.ofInt (IntKind.bits .u64) 6148914691236517205).toNat) + (wr .u64 (BitVec.ofInt (IntKind.bits .u64) x0 &&& BitVec.ofInt (IntKind.bits .u64) 6148914691236517205).toNat))) (2 ^ (min (Int.toNat 2) (IntKind.bits .u64)))) &&& BitVec.ofInt (IntKind.bits .u64) 3689348814741910323).toNat) + (wr .u64 (BitVec.ofInt (IntKind.bits .u64) (wr .u64 ((wr .u64 (BitVec.ofInt (IntKind.bits .u64) (Int.fdiv x0 (2 ^ (min (Int.toNat 1) (IntKind.bits .u64)))) &&& BitVec.ofInt (IntKind.bits .u64) 6148914691236517205).toNat) + (wr .u64 (BitVec.ofInt (IntKind.bits .u64) x0 &&& BitVec.ofInt (IntKind.bits .u64) 6148914691236517205).toNat))) &&& BitVec.ofInt (IntKind.bits .u64) 3689348814741910323).toNat))) (2 ^ (min (Int.toNat 4) (IntKind.bits .u64)))) + (wr .u64 ((wr .u64 (BitVec.ofInt (IntKind.bits .u64) (Int.fdiv (wr .u64 ((wr .u64 (BitVec.ofInt (IntKind.bits .u64) (Int.fdiv x0 (2 ^ (min (Int.toNat 1) (IntKind.bits .u64)))) &&& BitVec.ofInt (IntKind.bits .u64) 6148914691236517205).toNat) + (wr .u64 (BitVec.ofInt (IntKind.bits .u64) x0 &&& BitVec.ofInt (IntKind.bits .u64) 6148914691236517205).toNat))) (2 ^ (min (Int.toNat 2) (IntKind.bits .u64)))) &&& BitVec.ofInt (IntKind.bits .u64) 3689348814741910323).toNat) + (wr .u64 (BitVec.ofInt (IntKind.bits .u64) (wr .u64 ((wr .u64 (BitVec.ofInt (IntKind.bits .u64) (Int.fdiv x0 (2 ^ (min (Int.toNat 1) (IntKind.bits .u64)))) &&& BitVec.ofInt (IntKind.bits .u64) 6148914691236517205).toNat) + (wr .u64 (BitVec.ofInt (IntKind.bits .u64) x0 &&& BitVec.ofInt (IntKind.bits .u64) 6148914691236517205).toNat))) &&& BitVec.ofInt (IntKind.bits .u64) 3689348814741910323).toNat))))) &&& BitVec.ofInt (IntKind.bits .u64) 1085102592571150095).toNat) (2 ^ (min (Int.toNat 8) (IntKind.bits .u64)))))) + (Int.fdiv (wr .u64 ((wr .u64 (BitVec.ofInt (IntKind.bits .u64) (wr .u64 ((Int.fdiv (wr .u64 ((wr .u64 (BitVec.ofInt (IntKind.bits .u64) (Int.fdiv (wr .u64 ((wr .u64 (BitVec.ofInt (IntKind.bits .u64) (Int.fdiv x0 (2 ^ (min (Int.toNat 1) (IntKind.bits .u64)))) &&& BitVec.ofInt (IntKind.bits .u64) 6148914691236517205).toNat) + (wr .u64 (BitVec.ofInt (IntKind.bits .u64) x0 &&& BitVec.ofInt (IntKind.bits .u64) 6148914691236517205).toNat))) (2 ^ (min (Int.toNat 2) (IntKind.bits .u64)))) &&& BitVec.ofInt (IntKind.bits .u64) 3689348814741910323).toNat) + (wr .u64 (BitVec.ofInt (IntKind.bits .u64) (wr .u64 ((wr .u64 (BitVec.ofInt (IntKind.bits .u64) (Int.fdiv x0 (2 ^ (min (Int.toNat 1) (IntKind.bits .u64)))) &&& BitVec.ofInt (IntKind.bits .u64) 6148914691236517205).toNat) + (wr .u64 (BitVec.ofInt (IntKind.bits .u64) x0 &&& BitVec.ofInt (IntKind.bits .u64) 6148914691236517205).toNat))) &&& BitVec.ofInt (IntKind.bits .u64) 3689348814741910323).toNat))) (2 ^ (min (Int.toNat 4) (IntKind.bits .u64)))) + (wr .u64 ((wr .u64 (BitVec.ofInt (IntKind.bits .u64) (Int.fdiv (wr .u64 ((wr .u64 (BitVec.ofInt (IntKind.bits .u64) (Int.fdiv x0 (2 ^ (min (Int.toNat 1) (IntKind.bits .u64)))) &&& BitVec.ofInt (IntKind.bits .u64) 6148914691236517205).toNat) + (wr .u64 (BitVec.ofInt (IntKind.bits .u64) x0 &&& BitVec.ofInt (IntKind.bits .u64) 6148914691236517205).toNat))) (2 ^ (min (Int.toNat 2) (IntKind.bits .u64)))) &&& BitVec.ofInt (IntKind.bits .u64) 3689348814741910323).toNat) + (wr .u64 (BitVec.ofInt (IntKind.bits .u64) (wr .u64 ((wr .u64 (BitVec.ofInt (IntKind.bits .u64) (Int.fdiv x0 (2 ^ (min (Int.toNat 1) (IntKind.bits .u64)))) &&& BitVec.ofInt (IntKind.bits .u64) 6148914691236517205).toNat) + (wr .u64 (BitVec.ofInt (IntKind.bits .u64) x0 &&& BitVec.ofInt (IntKind.bits .u64) 6148914691236517205).toNat))) &&& BitVec.ofInt (IntKind.bits .u64) 3689348814741910323).toNat))))) &&& BitVec.ofInt (IntKind.bits .u64) 1085102592571150095).toNat) + (Int.fdiv (wr .u64 (BitVec.ofInt (IntKind.bits .u64) (wr .u64 ((Int.fdiv (wr .u64 ((wr .u64 (BitVec.ofInt (IntKind.bits .u64) (Int.fdiv (wr .u64 ((wr .u64 (BitVec.ofInt (IntKind.bits .u64) (Int.fdiv x0 (2 ^ (min (Int.toNat 1) (IntKind.bits .u64)))) &&& BitVec.ofInt (IntKind.bits .u64) 6148914691236517205).toNat) + (wr .u64 (BitVec.ofInt (IntKind.bits .u64) x0 &&& BitVec.ofInt (IntKind.bits .u64) 6148914691236517205).toNat))) (2 ^ (min (Int.toNat 2) (IntKind.bits .u64)))) &&& BitVec.ofInt (IntKind.bits .u64) 3689348814741910323).toNat) + (wr .u64 (BitVec.ofInt (IntKind.bits .u64) (wr .u64 ((wr .u64 (BitVec.ofInt (IntKind.bits .u64) (Int.fdiv x0 (2 ^ (min (Int.toNat 1) (IntKind.bits .u64)))) &&& BitVec.ofInt (IntKind.bits .u64) 6148914691236517205).toNat) + (wr .u64 (BitVec.ofInt (IntKind.bits .u64) x0 &&& BitVec.ofInt (IntKind.bits .u64) 6148914691236517205).toNat))) &&& BitVec.ofInt (IntKind.bits .u64) 3689348814741910323).toNat))) (2 ^ (min (Int.toNat 4) (IntKind.bits .u64)))) + (wr .u64 ((wr .u64 (BitVec.ofInt (IntKind.bits .u64) (Int.fdiv (wr .u64 ((wr .u64 (BitVec.ofInt (IntKind.bits .u64) (Int.fdiv x0 (2 ^ (min (Int.toNat 1) (IntKind.bits .u64)))) &&& BitVec.ofInt (IntKind.bits .u64) 6148914691236517205).toNat) + (wr .u64 (BitVec.ofInt (IntKind.bits .u64) x0 &&& BitVec.ofInt (IntKind.bits .u64) 6148914691236517205).toNat))) (2 ^ (min (Int.toNat 2) (IntKind.bits .u64)))) &&& BitVec.ofInt (IntKind.bits .u64) 3689348814741910323).toNat) + (wr .u64 (BitVec.ofInt (IntKind.bits .u64) (wr .u64 ((wr .u64 (BitVec.ofInt (IntKind.bits .u64) (Int.fdiv x0 (2 ^ (min (Int.toNat 1) (IntKind.bits .u64)))) &&& BitVec.ofInt (IntKind.bits .u64) 6148914691236517205).toNat) + (wr .u64 (BitVec.ofInt (IntKind.bits .u64) x0 &&& BitVec.ofInt (IntKind.bits .u64) 6148914691236517205).toNat))) &&& BitVec.ofInt (IntKind.bits .u64) 3689348814741910323).toNat))))) &&& BitVec.ofInt (IntKind.bits .u64) 1085102592571150095).toNat) (2 ^ (min (Int.toNat 8) (IntKind.bits .u64)))))) (2 ^ (min (Int.toNat 16) (IntKind.bits .u64)))))) + (Int.fdiv (wr .u64 ((wr .u64 ((wr .u64 (BitVec.ofInt (IntKind.bits .u64) (wr .u64 ((Int.fdiv (wr .u64 ((wr .u64 (BitVec.ofInt (IntKind.bits .u64) (Int.fdiv (wr .u64 ((wr .u64 (BitVec.ofInt (IntKind.bits .u64) (Int.fdiv x0 (2 ^ (min (Int.toNat 1) (IntKind.bits .u64)))) &&& BitVec.ofInt (IntKind.bits .u64) 6148914691236517205).toNat) + (wr .u64 (BitVec.ofInt (IntKind.bits .u64) x0 &&& BitVec.ofInt (IntKind.bits .u64) 6148914691236517205).toNat))) (2 ^ (min (Int.toNat 2) (IntKind.bits .u64)))) &&& BitVec.ofInt (IntKind.bits .u64) 3689348814741910323).toNat) + (wr .u64 (BitVec.ofInt (IntKind.bits .u64) (wr .u64 ((wr .u64 (BitVec.ofInt (IntKind.bits .u64) (Int.fdiv x0 (2 ^ (min (Int.toNat 1) (IntKind.bits .u64)))) &&& BitVec.ofInt (IntKind.bits .u64) 6148914691236517205).toNat) + (wr .u64 (BitVec.ofInt (IntKind.bits .u64) x0 &&& BitVec.ofInt (IntKind.bits .u64) 6148914691236517205).toNat))) &&& BitVec.ofInt (IntKind.bits .u64) 3689348814741910323).toNat))) (2 ^ (min (Int.toNat 4) (IntKind.bits .u64)))) + (wr .u64 ((wr .u64 (BitVec.ofInt (IntKind.bits .u64) (Int.fdiv (wr .u64 ((wr .u64 (BitVec.ofInt (IntKind.bits .u64) (Int.fdiv x0 (2 ^ (min (Int.toNat 1) (IntKind.bits .u64)))) &&& BitVec.ofInt (IntKind.bits .u64) 6148914691236517205).toNat) + (wr .u64 (BitVec.ofInt (IntKind.bits .u64) x0 &&& BitVec.ofInt (IntKind.bits .u64) 6148914691236517205).toNat))) (2 ^ (min (Int.toNat 2) (IntKind.bits .u64)))) &&& BitVec.ofInt (IntKind.bits .u64) 3689348814741910323).toNat) + (wr .u64 (BitVec.ofInt (IntKind.bits .u64) (wr .u64 ((wr .u64 (BitVec.ofInt (IntKind.bits .u64) (Int.fdiv x0 (2 ^ (min (Int.toNat 1) (IntKind.bits .u64)))) &&& BitVec.ofInt (IntKind.bits .u64) 6148914691236517205).toNat) + (wr .u64 (BitVec.ofInt (IntKind.bits .u64) x0 &&& BitVec.ofInt (IntKind.bits .u64) 6148914691236517205).toNat))) &&& BitVec.ofInt (IntKind.bits .u64) 3689348814741910323).toNat))))) &&& BitVec.ofInt (IntKind.bits .u64) 1085102592571150095).toNat) + (Int.fdiv (wr .u64 (BitVec.ofInt (IntKind.bits .u64) (wr .u64 ((Int.fdiv (wr .u64 ((wr .u64 (BitVec.ofInt (IntKind.bits .u64) (Int.fdiv (wr .u64 ((wr .u64 (BitVec.ofInt (IntKind.bits .u64) (Int.fdiv x0 (2 ^ (min (Int.toNat 1) (IntKind.bits .u64)))) &&& BitVec.ofInt (IntKind.bits .u64) 6148914691236517205).toNat) + (wr .u64 (BitVec.ofInt (IntKind.bits .u64) x0 &&& BitVec.ofInt (IntKind.bits .u64) 6148914691236517205).toNat))) (2 ^ (min (Int.toNat 2) (IntKind.bits .u64)))) &&& BitVec.ofInt (IntKind.bits .u64) 3689348814741910323).toNat) + (wr .u64 (BitVec.ofInt (IntKind.bits .u64) (wr .u64 ((wr .u64 (BitVec.ofInt (IntKind.bits .u64) (Int.fdiv x0 (2 ^ (min (Int.toNat 1) (IntKind.bits .u64)))) &&& BitVec.ofInt (IntKind.bits .u64) 6148914691236517205).toNat) + (wr .u64 (BitVec.ofInt (IntKind.bits .u64) x0 &&& BitVec.ofInt (IntKind.bits .u64) 6148914691236517205).toNat))) &&& BitVec.ofInt (IntKind.bits .u64) 3689348814741910323).toNat))) (2 ^ (min (Int.toNat 4) (IntKind.bits .u64)))) + (wr .u64 ((wr .u64 (BitVec.ofInt (IntKind.bits .u64) (Int.fdiv (wr .u64 ((wr .u64 (BitVec.ofInt (IntKind.bits .u64) (Int.fdiv x0 (2 ^ (min (Int.toNat 1) (IntKind.bits .u64)))) &&& BitVec.ofInt (IntKind.bits .u64) 6148914691236517205).toNat) + (wr .u64 (BitVec.ofInt (IntKind.bits .u64) x0 &&& BitVec.ofInt (IntKind.bits .u64) 6148914691236517205).toNat))) (2 ^ (min (Int.toNat 2) (IntKind.bits .u64)))) &&& BitVec.ofInt (IntKind.bits .u64) 3689348814741910323).toNat) + (wr .u64 (BitVec.ofInt (IntKind.bits .u64) (wr .u64 ((wr .u64 (BitVec.ofInt (IntKind.bits .u64) (Int.fdiv x0 (2 ^ (min (Int.toNat 1) (IntKind.bits .u64)))) &&& BitVec.ofInt (IntKind.bits .u64) 6148914691236517205).toNat) + (wr .u64 (BitVec.ofInt (IntKind.bits .u64) x0 &&& BitVec.ofInt (IntKind.bits .u64) 6148914691236517205).toNat))) &&& BitVec.ofInt (IntKind.bits .u64) 3689348814741910323).toNat))))) &&& BitVec.ofInt (IntKind.bits .u64) 1085102592571150095).toNat) (2 ^ (min (Int.toNat 8) (IntKind.bits .u64)))))) + (Int.fdiv (wr .u64 ((wr .u64 (BitVec.ofInt (IntKind.bits .u64) (wr .u64 ((Int.fdiv (wr .u64 ((wr .u64 (BitVec.ofInt (IntKind.bits .u64) (Int.fdiv (wr .u64 ((wr .u64 (BitVec.ofInt (IntKind.bits .u64) (Int.fdiv x0 (2 ^ (min (Int.toNat 1) (IntKind.bits .u64)))) &&& BitVec.ofInt (IntKind.bits .u64) 6148914691236517205).toNat) + (wr .u64 (BitVec.ofInt (IntKind.bits .u64) x0 &&& BitVec.ofInt (IntKind.bits .u64) 6148914691236517205).toNat))) (2 ^ (min (Int.toNat 2) (IntKind.bits .u64)))) &&& BitVec.ofInt (IntKind.bits .u64) 3689348814741910323).toNat) + (wr .u64 (BitVec.ofInt (IntKind.bits .u64) (wr .u64 ((wr .u64 (BitVec.ofInt (IntKind.bits .u64) (Int.fdiv x0 (2 ^ (min (Int.toNat 1) (IntKind.bits .u64)))) &&& BitVec.ofInt (IntKind.bits .u64) 6148914691236517205).toNat) + (wr .u64 (BitVec.ofInt (IntKind.bits .u64) x0 &&& BitVec.ofInt (IntKind.bits .u64) 6148914691236517205).toNat))) &&& BitVec.ofInt (IntKind.bits .u64) 3689348814741910323).toNat))) (2 ^ (min (Int.toNat 4) (IntKind.bits .u64)))) + (wr .u64 ((wr .u64 (BitVec.ofInt (IntKind.bits .u64) (Int.fdiv (wr .u64 ((wr .u64 (BitVec.ofInt (IntKind.bits .u64) (Int.fdiv x0 (2 ^ (min (Int.toNat 1) (IntKind.bits .u64)))) &&& BitVec.ofInt (IntKind.bits .u64) 6148914691236517205).toNat) + (wr .u64 (BitVec.ofInt (IntKind.bits .u64) x0 &&& BitVec.ofInt (IntKind.bits .u64) 6148914691236517205).toNat))) (2 ^ (min (Int.toNat 2) (IntKind.bits .u64)))) &&& BitVec.ofInt (IntKind.bits .u64) 3689348814741910323).toNat) + (wr .u64 (BitVec.ofInt (IntKind.bits .u64) (wr .u64 ((wr .u64 (BitVec.ofInt (IntKind.bits .u64) (Int.fdiv x0 (2 ^ (min (Int.toNat 1) (IntKind.bits .u64)))) &&& BitVec.ofInt (IntKind.bits .u64) 6148914691236517205).toNat) + (wr .u64 (BitVec.ofInt (IntKind.bits .u64) x0 &&& BitVec.ofInt (IntKind.bits .u64) 6148914691236517205).toNat))) &&& BitVec.ofInt (IntKind.bits .u64) 3689348814741910323).toNat))))) &&& BitVec.ofInt (IntKind.bits .u64) 1085102592571150095).toNat) + (Int.fdiv (wr .u64 (BitVec.ofInt (IntKind.bits .u64) (wr .u64 ((Int.fdiv (wr .u64 ((wr .u64 (BitVec.ofInt (IntKind.bits .u64) (Int.fdiv (wr .u64 ((wr .u64 (BitVec.ofInt (IntKind.bits .u64) (Int.fdiv x0 (2 ^ (min (Int.toNat 1) (IntKind.bits .u64)))) &&& BitVec.ofInt (IntKind.bits .u64) 6148914691236517205).toNat) + (wr .u64 (BitVec.ofInt (IntKind.bits .u64) x0 &&& BitVec.ofInt (IntKind.bits .u64) 6148914691236517205).toNat))) (2 ^ (min (Int.toNat 2) (IntKind.bits .u64)))) &&& BitVec.ofInt (IntKind.bits .u64) 3689348814741910323).toNat) + (wr .u64 (BitVec.ofInt (IntKind.bits .u64) (wr .u64 ((wr .u64 (BitVec.ofInt (IntKind.bits .u64) (Int.fdiv x0 (2 ^ (min (Int.toNat 1) (IntKind.bits .u64)))) &&& BitVec.ofInt (IntKind.bits .u64) 6148914691236517205).toNat) + (wr .u64 (BitVec.ofInt (IntKind.bits .u64) x0 &&& BitVec.ofInt (IntKind.bits .u64) 6148914691236517205).toNat))) &&& BitVec.ofInt (IntKind.bits .u64) 3689348814741910323).toNat))) (2 ^ (min (Int.toNat 4) (IntKind.bits .u64)))) + (wr .u64 ((wr .u64 (BitVec.ofInt (IntKind.bits .u64) (Int.fdiv (wr .u64 ((wr .u64 (BitVec.ofInt (IntKind.bits .u64) (Int.fdiv x0 (2 ^ (min (Int.toNat 1) (IntKind.bits .u64)))) &&& BitVec.ofInt (IntKind.bits .u64) 6148914691236517205).toNat) + (wr .u64 (BitVec.ofInt (IntKind.bits .u64) x0 &&& BitVec.ofInt (IntKind.bits .u64) 6148914691236517205).toNat))) (2 ^ (min (Int.toNat 2) (IntKind.bits .u64)))) &&& BitVec.ofInt (IntKind.bits .u64) 3689348814741910323).toNat) + (wr .u64 (BitVec.ofInt (IntKind.bits .u64) (wr .u64 ((wr .u64 (BitVec.ofInt (IntKind.bits .u64) (Int.fdiv x0 (2 ^ (min (Int.toNat 1) (IntKind.bits .u64)))) &&& BitVec.ofInt (IntKind.bits .u64) 6148914691236517205).toNat) + (wr .u64 (BitVec.ofInt (IntKind.bits .u64) x0 &&& BitVec.ofInt (IntKind.bits .u64) 6148914691236517205).toNat))) &&& BitVec.ofInt (IntKind.bits .u64) 3689348814741910323).toNat))))) &&& BitVec.ofInt (IntKind.bits .u64) 1085102592571150095).toNat) (2 ^ (min (Int.toNat 8) (IntKind.bits .u64)))))) (2 ^ (min (Int.toNat 16) (IntKind.bits .u64)))))) (2 ^ (min (Int.toNat 32) (IntKind.bits .u64))))))) &&& BitVec.ofInt (IntKind.bits .i64) 127).toNat))))))) := by kernel_rfl
theorem S124_run (n : Nat × Nat) (xs : pksDen pk124) : S124 n xs.1 = runG (E124 n) noScope c124 an124 (rtG rk124) (fun _ _ => none) (rtG rk124) (st0 pk124 xs Tryd.f124.ntmps) := by kernel_rfl
noncomputable def P124 (n : Nat × Nat) := phiOf pk124 rk124 (fun xs => S124 n xs.1)
theorem call124 : CallOK Tryd.prog 124 := callOK_of Tryd.func124 (by kernel_rfl) (by kernel_rfl)
theorem env124 (n : Nat × Nat) : EnvOK Tryd.prog (E124 n) := envOK0 noPhi_ok rfl rfl
theorem par124 (n : Nat × Nat) : EnvPar (E124 n) := envPar0 noPhi_par rfl
theorem FC124 (n : Nat × Nat) : FCs Tryd.prog 124 (P124 n) := phiOf_FCs fun xs r h vs hv => FC.of_runG tabOK eqsOK (env124 n) (par124 n) mixed (fun _ p _ => noScope_ok p.1 p.2) Tryd.func124 (c := c124) (an := an124) (pks := pk124) (rks := rk124) (by kernel_rfl) (by kernel_rfl) hv ((S124_run n xs).symm.trans h)
/- math/bits.OnesCount -/
abbrev R109 := Int
noncomputable def c109 : Code := bodyOf Tryd.f109
noncomputable def an109 : Ann := (.s .l (.s (.j [0] .l .l) .l))
def pk109 : List PK := [.c (.int .u64)]
def rk109 : List RK := [.c (.int .i64) 2]
noncomputable def rt109 (st : St) : Option R109 := rtG rk109 st
noncomputable def E109 (n : Nat × Nat) : Env := { T := tab, phi := (consPhi 124 (fun _ => true) (P124 n) noPhi), eff := fun _ => false, fuel := n.1, hold := n.2 }
noncomputable def S109 (n : Nat × Nat) (x0 : Int) : Option R109 := run (E109 n) c109 an109 rt109 (fun _ _ => none) rt109 { tm := [.c (.int .u64 x0), uu, uu, uu, uu, uu, uu, uu], hp := emp }
theorem S109_eq (n : Nat × Nat) (x0 : Int) : S109 n x0 =
 (S124 n x0).bind fun r1' =>
 some r1' := by kernel_rfl
theorem S109_run (n : Nat × Nat) (xs : pksDen pk109) : S109 n xs.1 = runG (E109 n) noScope c109 an109 (rtG rk109) (fun _ _ => none) (rtG rk109) (st0 pk109 xs Tryd.f109.ntmps) := by kernel_rfl
noncomputable def P109 (n : Nat × Nat) := phiOf pk109 rk109 (fun xs => S109 n xs.1)
theorem call109 : CallOK Tryd.prog 109 := callOK_of Tryd.func109 (by kernel_rfl) (by kernel_rfl)
theorem env109 (n : Nat × Nat) : EnvOK Tryd.prog (E109 n) := envOK0 (consPhi_ok (FC124 n) call124 noPhi_ok) rfl rfl
theorem par109 (n : Nat × Nat) : EnvPar (E109 n) := envPar0 (consPhi_par phiOf_Par1 noPhi_par) rfl
theorem FC109 (n : Nat × Nat) : FCs Tryd.prog 109 (P109 n) := phiOf_FCs fun xs r h vs hv => FC.of_runG tabOK eqsOK (env109 n) (par109 n) mixed (fun _ p _ => noScope_ok p.1 p.2) Tryd.func109 (c := c109) (an := an109) (pks := pk109) (rks := rk109) (by kernel_rfl) (by kernel_rfl) hv ((S109_run n xs).symm.trans h)
/- (headword/stand.floor).full -/
abbrev R79 := Bool
noncomputable def c79 : Code := bodyOf Tryd.f79
noncomputable def an79 : Ann := .l
def pk79 : List PK := [.c (.pair (.int .u64) .unit), .c (.int .i64), .c (.int .i64)]
def rk79 : List RK := [.c .bool 6]
noncomputable def rt79 (st : St) : Option R79 := rtG rk79 st
noncomputable def E79 (n : Nat × Nat) : Env := { T := tab, phi := (consPhi 109 (fun _ => true) (P109 n) noPhi), eff := fun _ => false, fuel := n.1, hold := n.2 }
noncomputable def S79 (n : Nat × Nat) (f0 : Int × Unit) (page1 : Int) (room2 : Int) : Option R79 := run (E79 n) c79 an79 rt79 (fun _ _ => none) rt79 { tm := [.agg [.int .u64 f0.1], .c (.int .i64 page1), .c (.int .i64 room2), uu, uu, uu, uu, uu, uu, uu, uu, uu, uu, uu, uu, uu, uu, uu, uu, uu], hp := emp }
theorem S79_eq (n : Nat × Nat) (f0 : Int × Unit) (page1 : Int) (room2 : Int) : S79 n f0 page1 room2 =
 (bif decide (page1 < 0) then none
 else ((bif (((wr .u64 (BitVec.ofInt (IntKind.bits .u64) (Int.fdiv f0.1 (2 ^ (min (Int.toNat page1) (IntKind.bits .u64)))) &&& BitVec.ofInt (IntKind.bits .u64) 1).toNat) == 0) == true) then (S109 n f0.1).bind fun r1' =>
 some (decide (r1' ≥ room2))
 else some false)).bind fun b2' =>
 some b2') := by kernel_rfl
theorem S79_run (n : Nat × Nat) (xs : pksDen pk79) : S79 n xs.1 xs.2.1 xs.2.2.1 = runG (E79 n) noScope c79 an79 (rtG rk79) (fun _ _ => none) (rtG rk79) (st0 pk79 xs Tryd.f79.ntmps) := by kernel_rfl
noncomputable def P79 (n : Nat × Nat) := phiOf pk79 rk79 (fun xs => S79 n xs.1 xs.2.1 xs.2.2.1)
theorem env79 (n : Nat × Nat) : EnvOK Tryd.prog (E79 n) := envOK0 (consPhi_ok (FC109 n) call109 noPhi_ok) rfl rfl
theorem par79 (n : Nat × Nat) : EnvPar (E79 n) := envPar0 (consPhi_par phiOf_Par1 noPhi_par) rfl
theorem FC79 (n : Nat × Nat) : FCs Tryd.prog 79 (P79 n) := phiOf_FCs fun xs r h vs hv => FC.of_runG tabOK eqsOK (env79 n) (par79 n) mixed (fun _ p _ => noScope_ok p.1 p.2) Tryd.func79 (c := c79) (an := an79) (pks := pk79) (rks := rk79) (by kernel_rfl) (by kernel_rfl) hv ((S79_run n xs).symm.trans h)
end Go.Proofs.YtkfkbebinhkdlaaDoor
