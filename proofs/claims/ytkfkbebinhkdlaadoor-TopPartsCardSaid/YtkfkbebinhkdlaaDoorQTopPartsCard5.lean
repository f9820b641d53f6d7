/- Texts of this claim, joined: ViM to G44. -/
import Derived.BigRegion
import Derived.Carry
import Derived.ChangeAlike
import Derived.Deep.AppendSrc
import Derived.Deep.RegionLaw
import Derived.JoinedCond
import Derived.KernelRfl
import Derived.LaidLaws
import Derived.LoopIn
import Derived.LoopNIn
import Derived.LoopTactic
import Derived.OpenShut
import Derived.Outline
import Derived.OwnWalkIn
import Derived.ProofKit
import Derived.RangeFuncBound
import Derived.RangeFuncBox
import Derived.RangeFuncCalls
import Derived.RangeFuncLeaves
import Derived.RangeFuncNested
import Derived.RegionTactic
import Derived.Shelf.Abstract
import Derived.StillTailTactics
import Derived.TacticsInMore
import Derived.Test.YtkfkbebinhkdlaaDoorProg
import Derived.Test.YtkfkbebinhkdlaaDoorRows
import Derived.WalkKit
import Derived.Test.YtkfkbebinhkdlaaDoorQTopPartsCard4
/-
  Vi: functions: scopes; parameters and results; a function's contract out of its run.
-/
set_option linter.unusedVariables false
set_option linter.unusedSimpArgs false
namespace Go.Vi
open Op
section
variable {P : Program} {E : Env} {x : Cx} {γ γ' : Gam} {w w0 : World} {a : Act} {st st' : St} {A A0 A1 : Nat → Prop}
variable {Q : Exit → Act → World → Prop} {H H' : Heap} {ρ : Type} {k : St → Option ρ} {r : ρ}
/-! ### Scopes -/
/-! ### Results -/
theorem nagg_one {s : Sh} (h : s.agg = false) : s.nc = 1 := by cases s <;> first | rfl | cases h
theorem mk1_R {s : Sh} {y : s.den} {u : Value} {vs : List Value} (h : VRs w A s y vs) (hA : ∀ b, A b → A1 b) (hu : u = if s.agg = true then .agg vs.toArray else vs.headD undef) : RetR1 w0 w A1 (mk1 s y) .emp u := by
  have hc := CR.of_VRs s y vs h
  have hA' : ∀ b, A b → A1 b ∧ w.heap[b]? = w.heap[b]? := fun b hb => ⟨hA b hb, rfl⟩
  unfold mk1
  cases hs : s.agg with
  | true =>
    rw [hs] at hu
    simp only [cond_true]
    exact ⟨vs, by simpa using hu, hc.mono (CR.mono hA')⟩
  | false =>
    rw [hs] at hu
    simp only [cond_false]
    have hl := cells_length s y
    rw [nagg_one hs] at hl
    match hcs : cells s y, hl with
    | [c], _ =>
      rw [hcs] at hc
      obtain ⟨v, rfl, hv⟩ := hc.one
      simp at hu
      subst hu
      exact CR.mono hA' c _ hv
theorem valOf_VRs {s : Sh} {v : V} {y : s.den} {u : Value} (h : valOf s v = some y) (hv : VR γ w A H v u) : ∃ vs, VRs w A s y vs ∧ u = if s.agg = true then .agg vs.toArray else vs.headD undef := by
  unfold valOf at h
  split at h
  · rename_i c
    obtain ⟨hs, h⟩ := cond_none h rfl
    refine ⟨[u], VRs.of_ofC s _ y [u] h ⟨hv, trivial⟩, ?_⟩
    rw [hs]
    rfl
  · rename_i cs
    obtain ⟨hs, h⟩ := cond_some h rfl
    obtain ⟨vs, rfl, hc⟩ := hv
    refine ⟨vs, VRs.of_ofC s _ y vs h hc, ?_⟩
    rw [hs]
    rfl
  · cases h
def resF (tmps : Array Value) : ResultVar → Sem Value
  | .tmp t => pure (tmps.getD t undef)
  | .cell a t => do loadVar t (← asAddr (tmps.getD a undef))
theorem results_run {fn : Func} {us : List Value} (h : (fn.results.toList.mapM (resF a.tmps)).run P w = .ok us w) : (results fn a.tmps).run P w = .ok (retVal us) w := by
  have e : (fn.results.mapM (resF a.tmps)).run P w = .ok us.toArray w := by
    rw [Array.mapM_eq_mapM_toList, Sem.run_map, h]
    rfl
  have e2 : results fn a.tmps = fn.results.mapM (resF a.tmps) >>= fun vs => pure (if h : vs.size = 1 then vs[0] else .tuple vs) := by
    unfold results
    congr 1
  rw [e2, Sem.run_bind, e]
  simp only [Result.andThen_ok, Sem.run_pure]
  congr 1
  match us with
  | [] => rfl
  | [u] => rfl
  | u :: u' :: us =>
    unfold retVal
    rw [dif_neg (by simp)]
/-- What a result stands for in the call's own. -/
def RK.info (γ : Gam) (st : St) : RK → Info
  | .own _ t =>
    match (st.tm[t]? : Option V) with
    | some (.own k _ _) => (γ k).getD .emp
    | _ => .emp
  | .ownN _ t =>
    match (st.tm[t]? : Option V) with
    | some (.own k _ _) => (γ k).getD .emp
    | _ => .emp
  | _ => .emp
theorem castL_some {e' e : Sh} {xs : List e'.den} {ys : List e.den} (h : castL e' e xs = some ys) : ∃ he : e' = e, ys = he ▸ xs := by
  unfold castL at h
  split at h
  · rename_i he
    cases h
    exact ⟨he, rfl⟩
  · cases h
theorem OwnSl.weak {i : Info} {n len : Nat} {nilE t : Bool} {v : Value} (h : OwnSl i n len nilE none t v) : OwnSl i n len false none false v := by
  cases i with
  | emp =>
    obtain ⟨a, h1, h2, h3, h4⟩ := h
    exact ⟨a, h1, by simp, h3, h4⟩
  | «at» b c =>
    obtain ⟨h1, h2, h3⟩ := h
    exact ⟨h1, h2, by simp⟩
theorem OwnSl.weakT {i : Info} {n len : Nat} {nilE t : Bool} {v : Value} (h : OwnSl i n len nilE none t v) : OwnSl i n len nilE none false v := by
  cases i with
  | emp =>
    obtain ⟨a, h1, h2, h3, h4⟩ := h
    exact ⟨a, h1, h2, h3, h4⟩
  | «at» b c =>
    obtain ⟨h1, h2, h3⟩ := h
    exact ⟨h1, h2, by simp⟩
theorem objR.weak {e : Sh} {xs : List e.den} {nilE : Bool} {i : Info} (h : objR w A (.arr e xs nilE) i) : objR w A (.arr e xs false) i := by
  cases i with
  | emp => exact h
  | «at» b c => exact ⟨by simp, h.2⟩
/-- One result. -/
theorem RK_get (hT : TabOK P E.T) (hr : RS x γ st a w) {rv : ResultVar} {rk : RK} (hok : rksOK E.T [rv] [rk] = true) {y : rk.den} (hg : rk.get st = some y) (hA : ∀ b, Av x γ w b → A1 b)
    (hO : ∀ k ∈ rk.ownK st, ∀ b c, γ k = some (.at b c) → w0.heap.size ≤ b) (hS : ∀ k ∈ rk.slK st, ∀ b c, γ k = some (.at b c) → A1 b) : ∃ u, (resF a.tmps rv).run P w = .ok u w ∧ RetR1 w0 w A1 (rk.ret y) (rk.info γ st) u := by
  have hA' : ∀ b, Av x γ w b → A1 b ∧ w.heap[b]? = w.heap[b]? := fun b hb => ⟨hA b hb, rfl⟩
  cases rk with
  | own e t =>
    cases rv with
    | cell _ _ => cases hok
    | tmp t' =>
      simp only [rksOK, Bool.and_true] at hok
      have := Nat.eq_of_beq_eq_true hok
      subst this
      refine ⟨_, rfl, ?_⟩
      simp only [RK.get, rOwn] at hg
      split at hg
      · rename_i k b hv
        obtain ⟨i, e', xs, nilE, h1, h2, h3⟩ := hr.tm _ _ hv
        simp only [elemsAs, elems, h2, view] at hg
        obtain ⟨rfl, rfl⟩ := castL_some hg
        obtain ⟨ob, h4, h5⟩ := hr.inv.own k i h1
        rw [h2] at h4
        cases h4
        simp only [RK.info, hv, h1, Option.getD_some]
        refine ⟨(objR.mono hA' _ i (fun _ _ _ => rfl) h5).weak, h3.weak, fun b c hi => ?_⟩
        have h6 := hr.inv.rng k b c (hi ▸ h1)
        exact ⟨hO k (by simp [RK.ownK, hv]) b c (hi ▸ h1), h6.2⟩
      · cases hg
  | sl e t =>
    cases rv with
    | cell _ _ => cases hok
    | tmp t' =>
      simp only [rksOK, Bool.and_true] at hok
      have := Nat.eq_of_beq_eq_true hok
      subst this
      refine ⟨_, rfl, ?_⟩
      simp only [RK.get, rSl] at hg
      split at hg
      · rename_i v hv
        have hVR := hr.tm _ _ hv
        have key : ∀ (keys : List Nat), (∀ k ∈ v.ownKey, k ∈ keys) → (∀ k ∈ keys, ∀ b c, γ k = some (.at b c) → A1 b) → ∀ tt, gnd st.hp v = some (.c (.sl e y tt)) → RetR1 w0 w A1 (.val (.sl e y false)) .emp (a.tmps.getD t' undef) := by
          intro keys hk hkA tt hgn
          have := gnd_VR hr.inv hgn hVR hk
          obtain ⟨ad, cap, c1, c2, c3, c4⟩ : CR w (A0k x γ w keys) (.sl e y tt) (a.tmps.getD t' undef) := this
          have hA2 : ∀ b, A0k x γ w keys b → A1 b ∧ w.heap[b]? = w.heap[b]? := by
            rintro b (hb | ⟨k, hk, c, hc⟩)
            · exact hA' b hb
            · exact ⟨hkA k hk b c hc, rfl⟩
          exact ⟨ad, cap, c1, c2, by simp, c4.mono hA2 fun x us hx => VRs.mono hA2 e x us hx⟩
        simp only [elemsAs] at hg
        split at hg
        · rename_i e' xs he
          obtain ⟨rfl, rfl⟩ := castL_some hg
          cases v with
          | own k win tt =>
            simp only [elems] at he
            split at he
            · rename_i e2 xs2 n2 hH
              cases he
              refine key [k] (by simp [V.ownKey]) ?_ tt (by simp only [gnd, gnd1, hH])
              intro k' hk' b c hc
              rw [List.mem_singleton.1 hk'] at hc
              exact hS k (by simp [RK.slK, hv]) b c hc
            · cases he
          | c y' =>
            cases y' with
            | sl e2 xs2 tt =>
              cases he
              exact key [] (by simp [V.ownKey]) (by simp) tt rfl
            | _ => simp [elems] at he
          | _ => simp [elems] at he
        · cases hg
      · cases hg
  | c s t =>
    cases rv with
    | cell _ _ => cases hok
    | tmp t' =>
      simp only [rksOK, Bool.and_true] at hok
      have := Nat.eq_of_beq_eq_true hok
      subst this
      refine ⟨_, rfl, ?_⟩
      simp only [RK.get] at hg
      split at hg
      · rename_i v hv
        obtain ⟨vs, h1, h2⟩ := valOf_VRs hg (hr.tm _ _ hv)
        exact mk1_R h1 hA h2
      · cases hg
  | box s t =>
    cases rv with
    | tmp _ => cases hok
    | cell t' ty =>
      simp only [rksOK, Bool.and_true, Bool.and_eq_true] at hok
      have := Nat.eq_of_beq_eq_true hok.1
      subst this
      have hty := of_decide_eq_true hok.2
      simp only [RK.get, rBox] at hg
      split at hg
      · rename_i k off hv
        obtain ⟨b, c, h1, h2⟩ := hr.tm _ _ hv
        split at hg
        · rename_i cs hH
          obtain ⟨ob, h3, h4⟩ := hr.inv.own k _ h1
          rw [hH] at h3
          cases h3
          obtain ⟨cur, et, h5, h6⟩ := h4
          obtain ⟨hd, hg⟩ := cond_some hg rfl
          have hd := of_decide_eq_true hd
          have hV := VRs.of_ofC s _ y _ hg ((h6.drop off).take s.nc)
          have hl2 := h6.length
          simp only [Array.length_toList] at hl2
          refine ⟨if s.agg = true then .agg ((cur.toList.drop off).take s.nc).toArray else ((cur.toList.drop off).take s.nc).headD undef, ?_, mk1_R hV hA rfl⟩
          have hsh := hT.sh ty s hty
          have hnc : s.agg = false → s.nc = 1 := nagg_one
          have hle : off + s.nc ≤ cur.size := by omega
          have hrun := run_load_shape (P := P) (w := w) hsh.base h5 hle hnc
          simp only [Instr.loadAt, Instr.sureAddr, Sem.run_bind, Sem.run_pure, Result.andThen_ok] at hrun
          simp only [resF, h2, asAddr, Sem.run_bind, Sem.run_pure, Result.andThen_ok]
          rw [hrun]
          congr 1
          split
          · rfl
          · rename_i hag
            have h1 := hnc (by simpa using hag)
            rw [h1]
            have hlt : off < cur.size := by omega
            simp [List.getD, List.take_one, List.head?_drop, hlt]
        · cases hg
      · cases hg
  | lay e t => cases rv <;> cases hok
  | ownN e t =>
    cases rv with
    | cell _ _ => cases hok
    | tmp t' =>
      simp only [rksOK, Bool.and_true] at hok
      have := Nat.eq_of_beq_eq_true hok
      subst this
      refine ⟨_, rfl, ?_⟩
      simp only [RK.get, rOwnN] at hg
      split at hg
      · rename_i k b hv
        obtain ⟨i, e', xs, nilE, h1, h2, h3⟩ := hr.tm _ _ hv
        split at hg
        · rename_i e2 xs2 hH
          rw [h2] at hH
          cases hH
          simp only [elemsAs, elems, h2, view] at hg
          obtain ⟨rfl, rfl⟩ := castL_some hg
          obtain ⟨ob, h4, h5⟩ := hr.inv.own k i h1
          rw [h2] at h4
          cases h4
          simp only [RK.info, hv, h1, Option.getD_some]
          refine ⟨objR.mono hA' _ i (fun _ _ _ => rfl) h5, h3.weakT, fun b c hi => ?_⟩
          have h6 := hr.inv.rng k b c (hi ▸ h1)
          exact ⟨hO k (by simp [RK.ownK, hv]) b c (hi ▸ h1), h6.2⟩
        · cases hg
      · cases hg
theorem info_at {rk : RK} {b c : Nat} (h : rk.info γ st = .at b c) : ∃ k ∈ rk.ownK st, γ k = some (.at b c) := by
  cases rk with
  | own e t =>
    simp only [RK.info] at h
    split at h
    · rename_i k _ _ hv
      cases hg : γ k with
      | none => rw [hg] at h; cases h
      | some i =>
        rw [hg] at h
        simp only [Option.getD_some] at h
        exact ⟨k, by simp [RK.ownK, hv], by rw [hg, h]⟩
    · cases h
  | ownN e t =>
    simp only [RK.info] at h
    split at h
    · rename_i k _ _ hv
      cases hg : γ k with
      | none => rw [hg] at h; cases h
      | some i =>
        rw [hg] at h
        simp only [Option.getD_some] at h
        exact ⟨k, by simp [RK.ownK, hv], by rw [hg, h]⟩
    · cases h
  | _ => cases h
theorem rksOK_cons {T : Tab} {rv : ResultVar} {rk : RK} {rvs : List ResultVar} {rks : List RK} (h : rksOK T (rv :: rvs) (rk :: rks) = true) : rksOK T [rv] [rk] = true ∧ rksOK T rvs rks = true := by
  cases rv <;> cases rk <;> simp only [rksOK, Bool.and_eq_true, Bool.and_true] at h ⊢ <;> first | exact h | cases h
/-- All results. -/
theorem RKs_get (hT : TabOK P E.T) (hr : RS x γ st a w) (hA : ∀ b, Av x γ w b → A1 b) : ∀ (rks : List RK) (rvs : List ResultVar) (y : rksDen rks), rksOK E.T rvs rks = true → rtL st rks = some y →
    (rks.flatMap (RK.ownK st)).Nodup → (∀ k ∈ rks.flatMap (RK.ownK st), ∀ b c, γ k = some (.at b c) → w0.heap.size ≤ b) → (∀ k ∈ rks.flatMap (RK.slK st), ∀ b c, γ k = some (.at b c) → A1 b) →
    ∃ us, (rvs.mapM (resF a.tmps)).run P w = .ok us w ∧ RetRs w0 w A1 (rets rks y) (rks.map (RK.info γ st)) us := by
  intro rks
  induction rks with
  | nil =>
    intro rvs y hok h hnd hO hS
    cases rvs with
    | nil => exact ⟨[], rfl, trivial⟩
    | cons rv rvs => cases rv <;> cases hok
  | cons rk rks ih =>
    intro rvs y hok h hnd hO hS
    cases rvs with
    | nil => cases rk <;> cases hok
    | cons rv rvs =>
      obtain ⟨hok1, hok2⟩ := rksOK_cons hok
      rw [List.flatMap_cons, List.nodup_append] at hnd
      have hO1 : ∀ k ∈ rk.ownK st, ∀ b c, γ k = some (.at b c) → w0.heap.size ≤ b := fun k hk => hO k (by rw [List.flatMap_cons]; exact List.mem_append.2 (.inl hk))
      have hO2 : ∀ k ∈ rks.flatMap (RK.ownK st), ∀ b c, γ k = some (.at b c) → w0.heap.size ≤ b := fun k hk => hO k (by rw [List.flatMap_cons]; exact List.mem_append.2 (.inr hk))
      have hS1 : ∀ k ∈ rk.slK st, ∀ b c, γ k = some (.at b c) → A1 b := fun k hk => hS k (by rw [List.flatMap_cons]; exact List.mem_append.2 (.inl hk))
      have hS2 : ∀ k ∈ rks.flatMap (RK.slK st), ∀ b c, γ k = some (.at b c) → A1 b := fun k hk => hS k (by rw [List.flatMap_cons]; exact List.mem_append.2 (.inr hk))
      have dis : ∀ b c, rk.info γ st = .at b c → ∀ j ∈ rks.map (RK.info γ st), ∀ c', j ≠ .at b c' := by
        intro b c hi j hj c' he
        obtain ⟨k, hk, hg⟩ := info_at hi
        obtain ⟨rk', hm, rfl⟩ := List.mem_map.1 hj
        obtain ⟨k', hk', hg'⟩ := info_at he
        have := hr.inv.inj k k' b c c' hg hg'
        subst this
        exact hnd.2.2 k hk k (List.mem_flatMap.2 ⟨rk', hm, hk'⟩) rfl
      cases rks with
      | nil =>
        obtain ⟨u, h1, h2⟩ := RK_get hT hr hok1 (y := y) h hA hO1 hS1
        cases rvs with
        | nil =>
          refine ⟨[u], ?_, h2, dis, trivial⟩
          simp only [List.mapM_cons, List.mapM_nil, Sem.run_bind, h1, Result.andThen_ok, Sem.run_pure]
        | cons rv' rvs => cases rv' <;> cases hok2
      | cons rk' rks =>
        obtain ⟨y1, h1, h⟩ := Option.bind_eq_some_iff.1 h
        obtain ⟨y2, h2, h⟩ := Option.bind_eq_some_iff.1 h
        cases h
        obtain ⟨u, h3, h4⟩ := RK_get hT hr hok1 h1 hA hO1 hS1
        obtain ⟨us, h5, h6⟩ := ih rvs y2 hok2 h2 hnd.2.1 hO2 hS2
        refine ⟨u :: us, ?_, h4, dis, h6⟩
        simp only [List.mapM_cons, Sem.run_bind, h3, Result.andThen_ok, h5, Sem.run_pure]
theorem rtG_RetR (hT : TabOK P E.T) (hr : RS x γ st a w) (hB : x.B = w0.heap.size) (hM : ∀ b, ¬ x.M b) {fn : Func} {rks : List RK} {y : rksDen rks} (hok : rksOK E.T fn.results.toList rks = true) (h : rtG rks st = some y) :
    ∃ u, (results fn a.tmps).run P w = .ok u w ∧ RetR w0 w x.A0 (rets rks y) u := by
  unfold rtG at h
  obtain ⟨hk, h⟩ := cond_some h rfl
  simp only [rkOK, Bool.and_eq_true] at hk
  have hnd := nodupB_spec hk.1
  let A1 : Nat → Prop := newA w0 w x.A0 (rks.map (RK.info γ st))
  have hA : ∀ b, Av x γ w b → A1 b := by
    intro b hb
    refine ⟨hb.1, fun hlt => hb.2.1 (by omega), fun i hi c he => ?_⟩
    obtain ⟨rk, _, rfl⟩ := List.mem_map.1 hi
    obtain ⟨k, _, hg⟩ := info_at he
    exact hb.2.2 k c hg
  have hS : ∀ k ∈ rks.flatMap (RK.slK st), ∀ b c, γ k = some (.at b c) → A1 b := by
    intro k hkm b c hg
    have h1 := hr.inv.rng k b c hg
    have h2 := h1.1.resolve_right (hM b)
    refine ⟨h1.2, fun hlt => by omega, fun i hi c' he => ?_⟩
    obtain ⟨rk, hm, rfl⟩ := List.mem_map.1 hi
    obtain ⟨k', hk', hg'⟩ := info_at he
    have := hr.inv.inj k k' b c c' hg hg'
    subst this
    have h3 := List.all_eq_true.1 hk.2 k hkm
    rw [mem_memN.2 (List.mem_flatMap.2 ⟨rk, hm, hk'⟩)] at h3
    cases h3
  obtain ⟨us, h1, h2⟩ := RKs_get hT hr hA rks fn.results.toList y hok h hnd (fun k _ b c hg => by rw [← hB]; exact (hr.inv.rng k b c hg).1.resolve_right (hM b)) hS
  exact ⟨retVal us, results_run h1, rks.map (RK.info γ st), us, rfl, h2⟩
/-! ### Parameters -/
theorem aPtr_VR1 {s : Sh} {v : V} {y : s.den} {u : Value} (h : aPtr s v = some y) (hv : VR1 γ w A H v u) : VR1 γ w A H (.iptr (cells s y)) u := by
  unfold aPtr at h
  split at h
  · rename_i cs
    obtain ⟨b, o, cur, et, fz, h1, h2, h3, h4, h5⟩ := hv
    have hV := VRs.of_ofC s _ y _ h (h5.take s.nc)
    have hl := hV.length
    simp only [List.length_take, List.length_drop, Array.length_toList] at hl
    have hC := CR.of_VRs s y _ hV
    refine ⟨b, o, cur, et, fz, h1, h2, h3, by rw [cells_length]; omega, ?_⟩
    rw [cells_length]
    rw [List.take_take, Nat.min_eq_left (by omega)] at hC
    exact hC
  · cases h
theorem capsArg_VR1 : ∀ (l : List Sh) (vs : List V) (us : List Value) (y : capsDen l), capsArg l vs = some y → All2 (VR1 γ w A H) vs us → All2 (VR1 γ w A H) (capsV l y) us
  | [], [], us, y, h, hv => hv
  | s :: l, v :: vs, [], y, h, hv => hv.elim
  | s :: l, v :: vs, u :: us, y, h, hv => by
    simp only [capsArg] at h
    obtain ⟨y1, h1, h⟩ := Option.bind_eq_some_iff.1 h
    obtain ⟨y2, h2, h⟩ := Option.bind_eq_some_iff.1 h
    cases h
    exact ⟨aPtr_VR1 h1 hv.1, capsArg_VR1 l vs us y2 h2 hv.2⟩
  | [], _ :: _, _, _, h, _ => by cases h
  | _ :: _, [], _, _, h, _ => by cases h
theorem PK.arg_val {pk : PK} {v : V} {y : pk.den} {u : Value} (h : pk.arg v = some y) (hv : VR γ w A H v u) : VR γ w A H (pk.val y) u := by
  cases pk with
  | c s =>
    obtain ⟨vs, h1, h2⟩ := valOf_VRs h hv
    have hc := CR.of_VRs s y vs h1
    simp only [PK.val]
    cases hs : s.agg with
    | true =>
      rw [hs] at h2
      exact ⟨vs, by simpa using h2, hc⟩
    | false =>
      rw [hs] at h2
      simp only [cond_false]
      have hl := cells_length s y
      rw [nagg_one hs] at hl
      match hcs : cells s y, hl with
      | [z], _ =>
        rw [hcs] at hc
        obtain ⟨v', rfl, hv'⟩ := hc.one
        simp at h2
        subst h2
        exact hv'
  | p s =>
    have : VR1 γ w A H v u := by
      simp only [PK.arg, aPtr] at h
      split at h
      · exact hv
      · cases h
    exact aPtr_VR1 h this
  | f g caps =>
    simp only [PK.arg] at h
    split at h
    · rename_i g' vs
      obtain ⟨hg, h⟩ := cond_some h rfl
      have := Nat.eq_of_beq_eq_true hg
      subst this
      obtain ⟨us, h1, h2⟩ := hv
      exact ⟨us, h1, capsArg_VR1 caps vs us y h h2⟩
    · cases h
theorem pksV_len : ∀ (l : List PK) (xs : pksDen l), (pksV l xs).length = l.length
  | [], _ => rfl
  | _ :: l, xs => by simp [pksV, pksV_len l]
theorem pksArg_VR : ∀ (l : List PK) (vs : List V) (us : List Value) (xs : pksDen l), pksArg l vs = some xs → All2 (VR γ w A H) vs us → All2 (VR γ w A H) (pksV l xs) us
  | [], [], us, xs, h, hv => hv
  | s :: l, v :: vs, [], y, h, hv => hv.elim
  | s :: l, v :: vs, u :: us, y, h, hv => by
    simp only [pksArg] at h
    obtain ⟨y1, h1, h⟩ := Option.bind_eq_some_iff.1 h
    obtain ⟨y2, h2, h⟩ := Option.bind_eq_some_iff.1 h
    cases h
    exact ⟨PK.arg_val h1 hv.1, pksArg_VR l vs us y2 h2 hv.2⟩
  | [], _ :: _, _, _, h, _ => by cases h
  | _ :: _, [], _, _, h, _ => by cases h
/-! ### A function's contract -/
/-- The state in which a call begins. -/
theorem RS.start {pks : List PK} {xs : pksDen pks} {vs : List V} {args : List Value} {n : Nat} (hds : [] = x.ds) (hx : x.w0 = w) (hxB : x.B = w.heap.size) (hpin : ∀ k, x.pin k = none) (hA0 : ∀ b, x.A0 b → b < w.heap.size) (hv : pksArg pks vs = some xs)
    (hargs : All2 (VR noGam w x.A0 emp) vs args) : RS x noGam (st0 pks xs n) { tmps := args.toArray ++ Array.replicate (n - args.toArray.size) undef, defers := [] } w := by
  have h1 := pksArg_VR pks vs args xs hv hargs
  have hlen := h1.length
  rw [pksV_len] at hlen
  have hav : ∀ b, x.A0 b → Av x noGam w b ∧ w.heap[b]? = w.heap[b]? := fun b hb => ⟨⟨hA0 b hb, fun _ => hb, fun k c h => by cases h⟩, rfl⟩
  refine ⟨⟨by omega, by rw [hx], by rw [hx], by rw [hx], fun b _ _ => by rw [hx], fun k i h => (by cases h), fun k b c h => (by cases h), fun k k' b c c' h => (by cases h), fun k i h => by (rw [hpin k] at h; cases h), fun k cs off b c ob h1 h2 h3 h4 => by cases h3⟩, ?_, ?_, hds⟩
  · simp only [st0, List.length_append, pksV_len, List.length_replicate, Array.size_append, List.size_toArray, Array.size_replicate]
    omega
  · intro t v hv'
    simp only [st0, List.getElem?_append] at hv'
    split at hv'
    · rename_i hlt
      obtain ⟨u, hu, hvr⟩ := h1.get hv'
      have : (args.toArray ++ Array.replicate (n - args.toArray.size) undef).getD t undef = u := by
        have hta : t < args.length := (List.getElem?_eq_some_iff.1 hu).1
        rw [Array.getD_eq_getD_getElem?, Array.getElem?_append_left (by simpa using hta)]
        simp [hu]
      rw [this]
      exact VR.mono hav v u hvr
    · rw [List.getElem?_replicate] at hv'
      split at hv'
      · cases hv'
        trivial
      · cases hv'
theorem FC.of_runG (hT : TabOK P E.T) (hE : EqsOK P E.T) (hphi : EnvOK P E) (hpar : EnvPar E) (hm : P.follows .mixedOrders = true) {sc : Scp} {g : FuncId} {fn : Func} {c : Code} {an : Ann} (hsc : ∀ x, ∀ p ∈ occ c an, ScAt P x sc p.1 p.2) {pks : List PK} {rks : List RK} {xs : pksDen pks} {vs : List V}
    {r : rksDen rks} (hf : P.funcs[g]? = some fn) (hb : fn.body = some c) (hrk : rksOK E.T fn.results.toList rks = true) (hv : pksArg pks vs = some xs) (h : runG E sc c an (rtG rks) (fun _ _ => none) (rtG rks) (st0 pks xs fn.ntmps) = some r) : FC P g vs (rets rks r) := by
  intro w A0 args hA0 hargs hgl
  let x : Cx := { B := w.heap.size, M := fun _ => False, A0 := A0, w0 := w, ma := fun _ h => h.elim, glob := ⟨rfl, hgl⟩, gM := fun _ _ _ h => h }
  have hr := RS.start (x := x) (n := fn.ntmps) rfl rfl rfl (fun _ => rfl) hA0 hv hargs
  have fin : ∀ st γ a w', rtG rks st = some r → RS x γ st a w' → a.defers = [] ∧ ∃ v, (results fn a.tmps).run P w' = .ok v w' ∧ (Grows w w' ∧ RetR w w' A0 (rets rks r) v) := by
    intro st γ a w' hrt hr'
    obtain ⟨u, h1, h2⟩ := rtG_RetR (w0 := w) hT hr' rfl (fun _ h => h) hrk hrt
    exact ⟨hr'.nod, u, h1, ⟨hr'.inv.size, hr'.inv.os, hr'.inv.tape, hr'.inv.output, fun b hb => hr'.inv.blk b hb (fun h => h)⟩, h2⟩
  refine calls_of_wp hf hb (runG_sound hT hE hphi hpar hm c an (hsc x) _ _ _ _ _ _ _ _ h hr ⟨?_, ?_, ?_⟩)
  · intro st γ a w' hrt hr'
    exact fin st γ a w' hrt hr'
  · intro j st γ a w' hrt hr'
    cases hrt
  · intro st γ a w' hrt hr'
    exact fin st γ a w' hrt hr'
/-- A callee's place in what is called. -/
def FCs (P : Program) (g : FuncId) (F : List V → (ρ : Type) → (Ret → Option ρ) → Option ρ) : Prop :=
  ∀ vs ρ (K : Ret → Option ρ) r, F vs ρ K = some r → ∃ ret, K ret = some r ∧ FC P g vs ret
def Par1 (F : List V → (ρ : Type) → (Ret → Option ρ) → Option ρ) : Prop :=
  ∀ vs (ρ : Type) (K : Ret → Option ρ) r, F vs ρ K = some r → ∃ ret, K ret = some r ∧ ∀ (ρ' : Type) (K' : Ret → Option ρ'), F vs ρ' K' = K' ret
def CallOK (P : Program) (g : FuncId) : Prop := ∀ args w, (callFunc g args).run P w = .ok (.enter g args) w
theorem callOK_of {g : FuncId} {fn : Func} (hf : P.funcs[g]? = some fn) (hn : (fn.name == "runtime.NumGoroutine") = false) (hb : fn.body.isNone = false) : CallOK P g := by
  intro args w
  unfold callFunc
  simp only [Sem.run_bind]
  have : (program : Sem Program).run P w = .ok P w := rfl
  rw [this]
  simp only [Result.andThen_ok, hf, hn, hb, Bool.false_eq_true, if_false, Sem.run_pure]
theorem phiOf_FCs {g : FuncId} {pks : List PK} {rks : List RK} {S : pksDen pks → Option (rksDen rks)} (h : ∀ xs r, S xs = some r → ∀ vs, pksArg pks vs = some xs → FC P g vs (rets rks r)) : FCs P g (phiOf pks rks S) := by
  intro vs ρ K r hk
  unfold phiOf at hk
  obtain ⟨xs, h1, hk⟩ := Option.bind_eq_some_iff.1 hk
  obtain ⟨y, h2, hk⟩ := Option.bind_eq_some_iff.1 hk
  exact ⟨_, hk, h xs y h2 vs h1⟩
theorem phiOf_Par1 {pks : List PK} {rks : List RK} {S : pksDen pks → Option (rksDen rks)} : Par1 (phiOf pks rks S) := by
  intro vs ρ K r hk
  unfold phiOf at hk
  obtain ⟨xs, h1, hk⟩ := Option.bind_eq_some_iff.1 hk
  obtain ⟨y, h2, hk⟩ := Option.bind_eq_some_iff.1 hk
  refine ⟨_, hk, fun ρ' K' => ?_⟩
  simp only [phiOf, h1, Option.bind_some, h2]
def noPhi : Phi := fun _ _ _ _ => none
theorem noPhi_ok : PhiOK P noPhi := by intro g vs ρ K r h; cases h
theorem noPhi_par : PhiPar noPhi := by intro g vs ρ K r h; cases h
/-- One callee more. -/
def consPhi (g : FuncId) (q : List V → Bool) (F : List V → (ρ : Type) → (Ret → Option ρ) → Option ρ) (phi : Phi) : Phi := fun g' vs ρ K => bif Nat.beq g' g && q vs then F vs ρ K else phi g' vs ρ K
theorem consPhi_ok {g : FuncId} {q : List V → Bool} {F : List V → (ρ : Type) → (Ret → Option ρ) → Option ρ} {phi : Phi} (hF : FCs P g F) (hc : CallOK P g) (h : PhiOK P phi) : PhiOK P (consPhi g q F phi) := by
  intro g' vs ρ K r hk
  unfold consPhi at hk
  cases hb : Nat.beq g' g && q vs with
  | true =>
    rw [hb] at hk
    rw [Bool.and_eq_true] at hb
    have := Nat.eq_of_beq_eq_true hb.1
    subst this
    obtain ⟨ret, h1, h2⟩ := hF vs ρ K r hk
    exact ⟨ret, h1, h2, hc⟩
  | false =>
    rw [hb] at hk
    exact h g' vs ρ K r hk
theorem consPhi_par {g : FuncId} {q : List V → Bool} {F : List V → (ρ : Type) → (Ret → Option ρ) → Option ρ} {phi : Phi} (hF : Par1 F) (h : PhiPar phi) : PhiPar (consPhi g q F phi) := by
  intro g' vs ρ K r hk
  unfold consPhi at hk ⊢
  cases hb : Nat.beq g' g && q vs with
  | true =>
    rw [hb] at hk
    exact hF vs ρ K r hk
  | false =>
    rw [hb] at hk
    exact h g' vs ρ K r hk
theorem eqsB_ok {T : Tab} (h : T.eqs.all (eqsB P) = true) : EqsOK P T :=
  ⟨fun t s hl => List.all_eq_true.1 h _ (look_mem hl)⟩
end
end Go.Vi
/-
  Vi: functions that write what they are handed: a contract out of a run.
-/
set_option linter.unusedVariables false
set_option linter.unusedSimpArgs false
namespace Go.Vi
open Op
section
variable {P : Program} {E : Env} {x : Cx} {γ γ' : Gam} {w w0 : World} {a : Act} {st st' : St} {A A0 A1 : Nat → Prop}
variable {Q : Exit → Act → World → Prop} {H H' : Heap} {ρ : Type} {k : St → Option ρ} {r : ρ}
theorem updAll_in {H : Heap} : ∀ {L : List (Nat × O)} {k : Nat} {ob : O}, (L.map (·.1)).Nodup → (k, ob) ∈ L → updAll H L k = some ob
  | [], _, _, _, h => by cases h
  | (k', ob') :: L, k, ob, hn, h => by
    obtain ⟨h1, h2⟩ := List.nodup_cons.1 hn
    simp only [updAll]
    rcases List.mem_cons.1 h with h | h
    · cases h
      exact upd_self _ _ _
    · have hne : k ≠ k' := fun e => h1 (by
        simp only
        rw [← e]
        exact List.mem_map.2 ⟨(k, ob), h, rfl⟩)
      rw [upd_ne _ _ hne]
      exact updAll_in h2 h
def qksCnt : List QK → Nat
  | [] => 0
  | k :: r => k.cnt + qksCnt r
theorem boxes_keys : ∀ (n : Nat) (l : List Sh) (y : capsDen l), (boxes n l y).map (·.1) = List.range' (pinLo + n) l.length
  | _, [], _ => rfl
  | n, s :: r, y => by
    simp only [boxes, List.map_cons, List.length_cons, List.range'_succ]
    rw [boxes_keys (n + 1) r y.2, Nat.add_assoc]
theorem objs_keys (n : Nat) (k : QK) (y : k.den) : (k.objs n y).map (·.1) = List.range' (pinLo + n) k.cnt := by
  cases k with
  | pl k => rfl
  | oa e => rfl
  | ob s => rfl
  | «of» g caps => exact boxes_keys n caps y
  | fp g caps => exact boxes_keys n caps y
  | sf f cds => rfl
theorem qksH_keys : ∀ (n : Nat) (l : List QK) (y : qksDen l), (qksH n l y).map (·.1) = List.range' (pinLo + n) (qksCnt l)
  | _, [], _ => rfl
  | n, k :: r, y => by
    simp only [qksH, List.map_append, objs_keys, qksH_keys (n + k.cnt) r, qksCnt]
    rw [← Nat.add_assoc, List.range'_append_1]
theorem boxOf_io {s : Sh} {v : V} {y : s.den} {i : Info} {u : Value} (h : boxOf s v = some y) (hv : IoV w A0 v i u) : (∃ b c, i = .at b c ∧ u = .pointer (some ⟨b, 0, none⟩)) ∧ objR w A0 (.box (cells s y)) i := by
  unfold boxOf at h
  split at h
  · rename_i cs
    obtain ⟨⟨b, c, rfl, hu⟩, cur, et, h1, h2⟩ := hv
    exact ⟨⟨b, c, rfl, hu⟩, cur, et, h1, CR.of_VRs s y _ (VRs.of_ofC s cs y _ h h2)⟩
  · cases h
/-- The things that are handed in, one by one: the value in the slot, and what it stands for. -/
theorem boxes_VR : ∀ (n : Nat) (l : List Sh) (vs : List V) (is : List Info) (us : List Value) (y : capsDen l), boxesOf l vs = some y → IoL w A0 vs is us → (∀ j i, is[j]? = some i → γ (pinLo + (n + j)) = some i) →
    All2 (VR1 γ w A H) (ptrs n l) us ∧ is.length = l.length ∧ ∀ j i, is[j]? = some i → ∃ ob, (pinLo + (n + j), ob) ∈ boxes n l y ∧ objR w A0 ob i
  | n, [], [], [], [], y, h, hv, hg => ⟨trivial, rfl, by simp⟩
  | n, s :: l, v :: vs, i :: is, u :: us, y, h, hv, hg => by
    simp only [boxesOf] at h
    obtain ⟨y1, h1, h⟩ := Option.bind_eq_some_iff.1 h
    obtain ⟨y2, h2, h⟩ := Option.bind_eq_some_iff.1 h
    cases h
    obtain ⟨⟨b, c, hi, hu⟩, ho⟩ := boxOf_io h1 hv.1
    obtain ⟨i1, i2, i3⟩ := boxes_VR (n + 1) l vs is us y2 h2 hv.2 fun j i' hj => by
      have := hg (j + 1) i' (by simpa using hj)
      rwa [show n + 1 + j = n + (j + 1) by omega]
    refine ⟨⟨⟨b, c, by rw [← hi]; exact hg 0 i (by simp), hu⟩, i1⟩, by simp [i2], fun j i' hj => ?_⟩
    cases j with
    | zero =>
      simp at hj
      subst hj
      exact ⟨_, by simp [boxes], ho⟩
    | succ j =>
      obtain ⟨ob, hm, hr⟩ := i3 j i' (by simpa using hj)
      rw [show n + 1 + j = n + (j + 1) by omega] at hm
      exact ⟨ob, by simp [boxes, hm], hr⟩
  | _, [], _ :: _, _, _, _, h, _, _ => by cases h
  | _, _ :: _, [], _, _, _, h, _, _ => by cases h
  | _, [], [], _ :: _, _, _, _, h, _ => by exact h.elim
  | _, [], [], [], _ :: _, _, _, h, _ => h.elim
  | _, _ :: _, _ :: _, [], _, _, _, h, _ => h.elim
  | _, _ :: _, _ :: _, _ :: _, [], _, _, h, _ => h.elim
theorem PK.val_refs (pk : PK) (y : pk.den) (k : Nat) : refs k (pk.val y) = false := by
  cases pk with
  | c s =>
    simp only [PK.val]
    cases hs : s.agg with
    | true => rfl
    | false =>
      simp only [cond_false]
      split <;> rfl
  | p s => rfl
  | f g caps =>
    have : ∀ (l : List Sh) (y : capsDen l), refsAny k (capsV l y) = false := by
      intro l
      induction l with
      | nil => intro _; rfl
      | cons s l ih => intro y; exact ih y.2
    exact this caps y
theorem PtrR.gam (hG : ∀ k i, γ k = some i → γ' k = some i) : ∀ (k : Nat) (u : Value), PtrR γ k u → PtrR γ' k u := by
  rintro k u ⟨b, c, h1, h2⟩
  exact ⟨b, c, hG k _ h1, h2⟩
theorem CDR.gam (hG : ∀ k i, γ k = some i → γ' k = some i) {b : Nat} : ∀ (c : CD) (u : Value), CDR γ w A b c u → CDR γ' w A b c u := by
  intro c u h
  cases c with
  | b k => exact PtrR.gam hG k u h
  | s => exact h
  | v g ks =>
    obtain ⟨b', us, h1, h2, h3⟩ := h
    exact ⟨b', us, h1, h2, h3.mono (PtrR.gam hG)⟩
theorem ptrs_CDR {b : Nat} : ∀ (n : Nat) (l : List Sh) (us : List Value), All2 (VR1 γ w A H) (ptrs n l) us → All2 (CDR γ w A b) (pinBs n l) us
  | _, [], [], _ => trivial
  | n, _ :: l, u :: us, h => ⟨h.1, ptrs_CDR (n + 1) l us h.2⟩
  | _, [], _ :: _, h => h.elim
  | _, _ :: _, [], h => h.elim
theorem qks_VR {is0 : List Info} (hG : ∀ k i, pinG is0 k = some i → γ k = some i) (hA : ∀ b, A0 b → A b) (hH : ∀ k ob, (k, ob) ∈ (qksH 0 ([] : List QK) ()) → H k = some ob) : ∀ (l : List QK) (n : Nat) (vs : List V) (is : List Info) (us : List Value) (y : qksDen l), qksArg l vs = some y → IoRel w A0 is0 (l.map QK.flag) vs is us →
    (∀ j i, is[j]? = some i → γ (pinLo + (n + j)) = some i) → (∀ p ∈ qksH n l y, H p.1 = some p.2) →
    All2 (VR γ w A H) (qksV n l y) us ∧ is.length = qksCnt l ∧ ∀ j i, is[j]? = some i → ∃ ob, (pinLo + (n + j), ob) ∈ qksH n l y ∧ objR w A0 ob i
  | [], n, [], [], [], y, h, hv, hg, hH => ⟨trivial, rfl, by simp⟩
  | .pl k :: l, n, v :: vs, is, u :: us, y, h, hv, hg, hH => by
    simp only [qksArg] at h
    obtain ⟨y1, h1, h⟩ := Option.bind_eq_some_iff.1 h
    obtain ⟨y2, h2, h⟩ := Option.bind_eq_some_iff.1 h
    cases h
    obtain ⟨hv1, hv2⟩ := hv
    obtain ⟨i1, i2, i3⟩ := qks_VR hG hA (fun _ _ h => by cases h) l (n + 0) vs is us y2 h2 hv2 hg fun p hp => hH p (by simpa [qksH, QK.objs, QK.cnt] using hp)
    refine ⟨⟨?_, i1⟩, by simp [qksCnt, QK.cnt, i2], fun j i hj => ?_⟩
    · have h3 : VR (pinG is0) w A0 emp (k.val y1) u := PK.arg_val h1 hv1
      refine VR.keyr _ _ (fun q hq => by
        have hq' : refs q (k.val y1) = true := hq
        rw [PK.val_refs] at hq'
        cases hq') (VR.mono (fun b hb => ⟨hA b hb, rfl⟩) _ _ h3)
    · obtain ⟨ob, hm, hr⟩ := i3 j i hj
      exact ⟨ob, by simpa [qksH, QK.objs, QK.cnt] using hm, hr⟩
  | .oa e :: l, n, v :: vs, [], u :: us, y, h, hv, hg, hH => by
    cases v with
    | fn g caps => simp only [qksArg, QK.arg, Option.bind_none] at h; cases h
    | fpb g caps => simp only [qksArg, QK.arg, Option.bind_none] at h; cases h
    | _ => exact hv.elim
  | .oa e :: l, n, v :: vs, i :: is, u :: us, y, h, hv, hg, hH => by
    simp only [qksArg] at h
    obtain ⟨y1, h1, h⟩ := Option.bind_eq_some_iff.1 h
    obtain ⟨y2, h2, h⟩ := Option.bind_eq_some_iff.1 h
    cases h
    simp only [QK.arg] at h1
    split at h1
    · rename_i e' xs t
      obtain ⟨he, rfl⟩ := castL_eq' h1
      subst he
      obtain ⟨hv1, hv2⟩ : IoV w A0 (.c (.sl e' xs t)) i u ∧ IoRel w A0 is0 (l.map QK.flag) vs is us := hv
      obtain ⟨i1, i2, i3⟩ := qks_VR hG hA (fun _ _ h => by cases h) l (n + 1) vs is us y2 h2 hv2 (fun j i' hj => by
        have := hg (j + 1) i' (by simpa using hj)
        rwa [show n + 1 + j = n + (j + 1) by omega]) fun p hp => hH p (by simp only [qksH, QK.cnt, List.mem_append]; exact .inr hp)
      refine ⟨⟨⟨i, e', xs, false, hg 0 i (by simp), hH (pinLo + n, .arr e' xs false) (by simp [qksH, QK.objs]), hv1.1⟩, i1⟩, by simp [qksCnt, QK.cnt, i2]; omega, fun j i' hj => ?_⟩
      cases j with
      | zero =>
        simp at hj
        subst hj
        exact ⟨_, by simp [qksH, QK.objs], hv1.2⟩
      | succ j =>
        obtain ⟨ob, hm, hr⟩ := i3 j i' (by simpa using hj)
        rw [show n + 1 + j = n + (j + 1) by omega] at hm
        exact ⟨ob, by simp only [qksH, QK.cnt, List.mem_append]; exact .inr hm, hr⟩
    · cases h1
  | .ob s :: l, n, v :: vs, [], u :: us, y, h, hv, hg, hH => by
    cases v with
    | fn g caps => simp only [qksArg, QK.arg, boxOf, Option.bind_none] at h; cases h
    | fpb g caps => simp only [qksArg, QK.arg, boxOf, Option.bind_none] at h; cases h
    | _ => exact hv.elim
  | .ob s :: l, n, v :: vs, i :: is, u :: us, y, h, hv, hg, hH => by
    simp only [qksArg] at h
    obtain ⟨y1, h1, h⟩ := Option.bind_eq_some_iff.1 h
    obtain ⟨y2, h2, h⟩ := Option.bind_eq_some_iff.1 h
    cases h
    obtain ⟨cs, rfl⟩ : ∃ cs, v = .iptr cs := by
      simp only [QK.arg, boxOf] at h1
      split at h1
      · exact ⟨_, rfl⟩
      · cases h1
    obtain ⟨hv1, hv2⟩ : IoV w A0 (.iptr cs) i u ∧ IoRel w A0 is0 (l.map QK.flag) vs is us := hv
    obtain ⟨⟨b, c, hi, hu⟩, ho⟩ := boxOf_io (s := s) (y := y1) (v := .iptr cs) h1 hv1
    obtain ⟨i1, i2, i3⟩ := qks_VR hG hA (fun _ _ h => by cases h) l (n + 1) vs is us y2 h2 hv2 (fun j i' hj => by
      have := hg (j + 1) i' (by simpa using hj)
      rwa [show n + 1 + j = n + (j + 1) by omega]) fun p hp => hH p (by simp only [qksH, QK.cnt, List.mem_append]; exact .inr hp)
    refine ⟨⟨⟨b, c, by rw [← hi]; exact hg 0 i (by simp), hu⟩, i1⟩, by simp [qksCnt, QK.cnt, i2]; omega, fun j i' hj => ?_⟩
    cases j with
    | zero =>
      simp at hj
      subst hj
      exact ⟨_, by simp [qksH, QK.objs], ho⟩
    | succ j =>
      obtain ⟨ob, hm, hr⟩ := i3 j i' (by simpa using hj)
      rw [show n + 1 + j = n + (j + 1) by omega] at hm
      exact ⟨ob, by simp only [qksH, QK.cnt, List.mem_append]; exact .inr hm, hr⟩
  | .of g caps :: l, n, v :: vs, is, u :: us, y, h, hv, hg, hH => by
    simp only [qksArg] at h
    obtain ⟨y1, h1, h⟩ := Option.bind_eq_some_iff.1 h
    obtain ⟨y2, h2, h⟩ := Option.bind_eq_some_iff.1 h
    cases h
    simp only [QK.arg] at h1
    split at h1
    · rename_i g' vs'
      obtain ⟨hgg, h1⟩ := cond_some h1 rfl
      have := Nat.eq_of_beq_eq_true hgg
      subst this
      obtain ⟨is1, is2, us', rfl, hu, hv1, hv2⟩ := hv
      obtain ⟨j1, j2, j3⟩ := boxes_VR (γ := γ) (A := A) (H := H) n caps vs' is1 us' y1 h1 hv1 fun j i hj => hg j i (by
        rw [List.getElem?_append_left (List.getElem?_eq_some_iff.1 hj).1]
        exact hj)
      obtain ⟨i1, i2, i3⟩ := qks_VR hG hA (fun _ _ h => by cases h) l (n + caps.length) vs is2 us y2 h2 hv2 (fun j i' hj => by
        have := hg (caps.length + j) i' (by
          rw [List.getElem?_append_right (by omega), j2, show caps.length + j - caps.length = j by omega]
          exact hj)
        rwa [show n + caps.length + j = n + (caps.length + j) by omega]) fun p hp => hH p (by simp only [qksH, QK.cnt, List.mem_append]; exact .inr hp)
      refine ⟨⟨⟨us', hu, j1⟩, i1⟩, by simp [qksCnt, QK.cnt, i2, j2], fun j i' hj => ?_⟩
      rcases Nat.lt_or_ge j is1.length with hlt | hge
      · rw [List.getElem?_append_left hlt] at hj
        obtain ⟨ob, hm, hr⟩ := j3 j i' hj
        exact ⟨ob, by simp only [qksH, QK.objs, List.mem_append]; exact .inl hm, hr⟩
      · rw [List.getElem?_append_right hge] at hj
        obtain ⟨ob, hm, hr⟩ := i3 (j - is1.length) i' hj
        rw [show n + caps.length + (j - is1.length) = n + j by omega] at hm
        exact ⟨ob, by simp only [qksH, QK.cnt, List.mem_append]; exact .inr hm, hr⟩
    · cases h1
  | .fp g caps :: l, n, v :: vs, is, u :: us, y, h, hv, hg, hH => by
    simp only [qksArg] at h
    obtain ⟨y1, h1, h⟩ := Option.bind_eq_some_iff.1 h
    obtain ⟨y2, h2, h⟩ := Option.bind_eq_some_iff.1 h
    cases h
    simp only [QK.arg] at h1
    split at h1
    · rename_i g' css
      obtain ⟨hgg, h1⟩ := cond_some h1 rfl
      have := Nat.eq_of_beq_eq_true hgg
      subst this
      obtain ⟨is1, is2, us', b, rfl, hu, hbox, hv1, hv2⟩ := hv
      obtain ⟨j1, j2, j3⟩ := boxes_VR (γ := γ) (A := A) (H := H) n caps (css.map .iptr) is1 us' y1 h1 hv1 fun j i hj => hg j i (by
        rw [List.getElem?_append_left (List.getElem?_eq_some_iff.1 hj).1]
        exact hj)
      obtain ⟨i1, i2, i3⟩ := qks_VR hG hA (fun _ _ h => by cases h) l (n + caps.length) vs is2 us y2 h2 hv2 (fun j i' hj => by
        have := hg (caps.length + j) i' (by
          rw [List.getElem?_append_right (by omega), j2, show caps.length + j - caps.length = j by omega]
          exact hj)
        rwa [show n + caps.length + j = n + (caps.length + j) by omega]) fun p hp => hH p (by simp only [qksH, QK.cnt, List.mem_append]; exact .inr hp)
      refine ⟨⟨⟨b, us', hu, hbox.mono (fun b hb => ⟨hA b hb, rfl⟩), ptrs_CDR n caps us' j1⟩, i1⟩, by simp [qksCnt, QK.cnt, i2, j2], fun j i' hj => ?_⟩
      rcases Nat.lt_or_ge j is1.length with hlt | hge
      · rw [List.getElem?_append_left hlt] at hj
        obtain ⟨ob, hm, hr⟩ := j3 j i' hj
        exact ⟨ob, by simp only [qksH, QK.objs, List.mem_append]; exact .inl hm, hr⟩
      · rw [List.getElem?_append_right hge] at hj
        obtain ⟨ob, hm, hr⟩ := i3 (j - is1.length) i' hj
        rw [show n + caps.length + (j - is1.length) = n + j by omega] at hm
        exact ⟨ob, by simp only [qksH, QK.cnt, List.mem_append]; exact .inr hm, hr⟩
    · cases h1
  | .sf f cds :: l, n, v :: vs, is, u :: us, y, h, hv, hg, hH => by
    simp only [qksArg] at h
    obtain ⟨y1, h1, h⟩ := Option.bind_eq_some_iff.1 h
    obtain ⟨y2, h2, h⟩ := Option.bind_eq_some_iff.1 h
    cases h
    obtain ⟨hv1, hv2⟩ := hv
    obtain ⟨i1, i2, i3⟩ := qks_VR hG hA (fun _ _ h => by cases h) l (n + 0) vs is us y2 h2 hv2 hg fun p hp => hH p (by simpa [qksH, QK.objs, QK.cnt] using hp)
    refine ⟨⟨?_, i1⟩, by simp [qksCnt, QK.cnt, i2], fun j i hj => ?_⟩
    · simp only [QK.arg] at h1
      split at h1
      · rename_i f' cds'
        obtain ⟨hd, h1⟩ := cond_some h1 rfl
        rw [Bool.and_eq_true, decide_eq_true_eq] at hd
        obtain ⟨hd1, rfl⟩ := hd
        have := Nat.eq_of_beq_eq_true hd1
        subst this
        obtain ⟨b, us', e1, e2, e3⟩ := hv1
        have hA' : ∀ b, A0 b → A b ∧ w.heap[b]? = w.heap[b]? := fun b hb => ⟨hA b hb, rfl⟩
        exact ⟨b, us', e1, e2.mono hA', (e3.mono (CDR.mono hA')).mono (CDR.gam hG)⟩
      · cases h1
    · obtain ⟨ob, hm, hr⟩ := i3 j i hj
      exact ⟨ob, by simpa [qksH, QK.objs, QK.cnt] using hm, hr⟩
  | [], _, _ :: _, _, _, _, h, _, _, _ => by cases h
  | _ :: _, _, [], _, _, _, h, _, _, _ => by cases h
  | [], _, [], _ :: _, _, _, _, h, _, _ => h.elim
  | [], _, [], [], _ :: _, _, _, h, _, _ => h.elim
  | .pl _ :: _, _, _ :: _, [], [], _, _, h, _, _ => h.elim
  | .pl _ :: _, _, _ :: _, _ :: _, [], _, _, h, _, _ => h.elim
  | .oa _ :: _, _, v :: _, [], [], _, _, h, _, _ => by cases v <;> exact h.elim
  | .oa _ :: _, _, v :: _, _ :: _, [], _, _, h, _, _ => by cases v <;> exact h.elim
  | .ob _ :: _, _, v :: _, [], [], _, _, h, _, _ => by cases v <;> exact h.elim
  | .ob _ :: _, _, v :: _, _ :: _, [], _, _, h, _, _ => by cases v <;> exact h.elim
  | .of _ _ :: _, _, v :: _, [], [], _, _, h, _, _ => by cases v <;> exact h.elim
  | .of _ _ :: _, _, v :: _, _ :: _, [], _, _, h, _, _ => by cases v <;> exact h.elim
  | .fp _ _ :: _, _, v :: _, [], [], _, _, h, _, _ => by cases v <;> exact h.elim
  | .fp _ _ :: _, _, v :: _, _ :: _, [], _, _, h, _, _ => by cases v <;> exact h.elim
  | .sf _ _ :: _, _, _ :: _, [], [], _, _, h, _, _ => h.elim
  | .sf _ _ :: _, _, _ :: _, _ :: _, [], _, _, h, _, _ => h.elim
theorem qksV_len : ∀ (n : Nat) (l : List QK) (xs : qksDen l), (qksV n l xs).length = l.length
  | _, [], _ => rfl
  | n, k :: l, xs => by simp [qksV, qksV_len (n + k.cnt) l]
theorem qksCnt_ods : ∀ (l : List QK), (l.flatMap QK.ods).length = qksCnt l
  | [] => rfl
  | k :: l => by
    rw [List.flatMap_cons, List.length_append, qksCnt_ods l, qksCnt]
    congr 1
    cases k <;> simp [QK.ods, QK.cnt]
theorem OD.get_R {d : OD} {ob : O} {y : d.den} {i : Info} (h : d.get ob = some y) (ho : objR w A ob i) (hA : ∀ b, A b → A1 b) : OutR w A1 (d.out y) i := by
  have hA' : ∀ b, A b → A1 b ∧ w.heap[b]? = w.heap[b]? := fun b hb => ⟨hA b hb, rfl⟩
  cases d with
  | a e =>
    cases ob with
    | arr e' ys n =>
      obtain ⟨he, rfl⟩ := castL_eq' h
      subst he
      exact (objR.mono hA' _ i (fun _ _ _ => rfl) ho).weak
    | _ => cases h
  | b s =>
    cases ob with
    | box cs =>
      cases i with
      | emp => exact ho.elim
      | «at» b c =>
        obtain ⟨cur, et, h1, h2⟩ := ho
        exact ⟨cur, et, h1, (CR.of_VRs s y _ (VRs.of_ofC s cs y _ h h2)).mono (CR.mono hA')⟩
    | _ => cases h
theorem odsGet_R (hr : RS x γ st a w) (hA : ∀ b, Av x γ w b → A1 b) : ∀ (l : List OD) (n : Nat) (is : List Info) (y : odsDen l), odsGet st.hp n l = some y → is.length = l.length → (∀ j i, is[j]? = some i → x.pin (pinLo + (n + j)) = some i) →
    All2 (OutR w A1) (outsOf l y) is ∧ ∀ j i, is[j]? = some i → γ (pinLo + (n + j)) = some i
  | [], n, [], y, h, hl, hp => ⟨trivial, by simp⟩
  | d :: l, n, i :: is, y, h, hl, hp => by
    simp only [odsGet] at h
    split at h
    · rename_i ob hob
      obtain ⟨y1, h1, h⟩ := Option.bind_eq_some_iff.1 h
      obtain ⟨y2, h2, h⟩ := Option.bind_eq_some_iff.1 h
      cases h
      have hpin := hr.inv.pin (pinLo + n) i (hp 0 i (by simp)) (by rw [hob]; simp)
      obtain ⟨ob', h3, h4⟩ := hr.inv.own _ _ hpin
      rw [hob] at h3
      cases h3
      obtain ⟨j1, j2⟩ := odsGet_R hr hA l (n + 1) is y2 h2 (by simpa using hl) fun j i' hj => by
        have := hp (j + 1) i' (by simpa using hj)
        rwa [show n + 1 + j = n + (j + 1) by omega]
      refine ⟨⟨OD.get_R h1 h4 hA, j1⟩, fun j i' hj => ?_⟩
      cases j with
      | zero =>
        simp at hj
        subst hj
        exact hpin
      | succ j =>
        have := j2 j i' (by simpa using hj)
        rwa [show n + 1 + j = n + (j + 1) by omega] at this
    · cases h
  | [], _, _ :: _, _, _, hl, _ => by simp at hl
  | _ :: _, _, [], _, _, hl, _ => by simp at hl
theorem boxes_no : ∀ (n : Nat) (l : List Sh) (y : capsDen l), ∀ p ∈ boxes n l y, NoOsl p.2
  | _, [], _, p, h => by cases h
  | n, s :: l, y, p, h => by
    simp only [boxes, List.mem_cons] at h
    rcases h with rfl | h
    · exact NoOsl.box (noOsl_cells s y.1)
    · exact boxes_no (n + 1) l y.2 p h
theorem objs_no (n : Nat) (k : QK) (y : k.den) : ∀ p ∈ k.objs n y, NoOsl p.2 := by
  cases k with
  | pl k => intro p h; cases h
  | sf f c => intro p h; cases h
  | oa e => intro p h; simp only [QK.objs, List.mem_singleton] at h; subst h; exact NoOsl.arr
  | ob s => intro p h; simp only [QK.objs, List.mem_singleton] at h; subst h; exact NoOsl.box (noOsl_cells s y)
  | of g caps => exact boxes_no n caps y
  | fp g caps => exact boxes_no n caps y
theorem qksH_no : ∀ (n : Nat) (l : List QK) (y : qksDen l), ∀ p ∈ qksH n l y, NoOsl p.2
  | _, [], _, p, h => by cases h
  | n, k :: l, y, p, h => by
    rcases List.mem_append.1 h with h | h
    · exact objs_no n k y.1 p h
    · exact qksH_no _ l y.2 p h
theorem updAll_mem {k : Nat} {ob : O} : ∀ {L : List (Nat × O)}, updAll emp L k = some ob → ∃ p ∈ L, p.2 = ob
  | [], h => by cases h
  | (k', ob') :: L, h => by
    simp only [updAll, upd] at h
    cases hb : Nat.beq k k' with
    | true => rw [hb] at h; cases h; exact ⟨_, List.mem_cons_self, rfl⟩
    | false =>
      rw [hb] at h
      obtain ⟨p, hp, e⟩ := updAll_mem (L := L) h
      exact ⟨p, List.mem_cons_of_mem _ hp, e⟩
theorem FCio.of_runG (hT : TabOK P E.T) (hE : EqsOK P E.T) (hphi : EnvOK P E) (hpar : EnvPar E) (hm : P.follows .mixedOrders = true) {sc : Scp} {g : FuncId} {fn : Func} {c : Code} {an : Ann} (hsc : ∀ x, ∀ p ∈ occ c an, ScAt P x sc p.1 p.2) {qks : List QK} {rks : List RK} {xs : qksDen qks} {vs : List V}
    {r : rksDen rks × odsDen (qks.flatMap QK.ods)} (hf : P.funcs[g]? = some fn) (hb : fn.body = some c) (hrk : rksOK E.T fn.results.toList rks = true) (hv : qksArg qks vs = some xs)
    (h : runG E sc c an (rtIO rks (qks.flatMap QK.ods)) (fun _ _ => none) (rtIO rks (qks.flatMap QK.ods)) (st1 qks xs fn.ntmps) = some r) : FCio P g (qks.map QK.flag) vs (rets rks r.1) (outsOf (qks.flatMap QK.ods) r.2) := by
  intro w A0 is args hA0 hrel hap hdis hgl
  let M : Nat → Prop := fun b => ∃ i ∈ is, ∃ c, i = .at b c
  let x : Cx := { B := w.heap.size, M := M, A0 := fun b => A0 b ∨ M b, w0 := w, ma := fun _ h => .inr h, pin := fun k => if pinLo ≤ k then is[k - pinLo]? else none,
                  glob := ⟨rfl, hgl.mono (Nat.le_refl _) fun b hb => ⟨.inl hb, rfl⟩⟩,
                  gM := fun g ns hg hM => by
                    obtain ⟨i, hi, c, hic⟩ := hM
                    exact (hdis i hi g c hic).2 (hgl g ns hg).2.1,
                  pinlo := fun k i hk => by
                    have hk' : (if pinLo ≤ k then is[k - pinLo]? else none) = some i := hk
                    split at hk'
                    · assumption
                    · cases hk' }
  let γ : Gam := x.pin
  let H : Heap := updAll emp (qksH 0 qks xs)
  have hpin : ∀ j, γ (pinLo + (0 + j)) = is[j]? := fun j => by
    show (if pinLo ≤ pinLo + (0 + j) then is[pinLo + (0 + j) - pinLo]? else none) = is[j]?
    rw [if_pos (by omega), show pinLo + (0 + j) - pinLo = j by omega]
  have hγ : ∀ k i, γ k = some i → ∃ j, k = pinLo + (0 + j) ∧ is[j]? = some i := by
    intro k i hk
    have hlo := x.pinlo k i hk
    refine ⟨k - pinLo, by omega, ?_⟩
    have := hpin (k - pinLo)
    rw [show pinLo + (0 + (k - pinLo)) = k by omega] at this
    rw [← this]
    exact hk
  have hMA : ∀ b, M b → b < w.heap.size ∧ ¬ A0 b := by
    rintro b ⟨i, hi, c, rfl⟩
    exact hdis _ hi b c rfl
  have hav : ∀ b, A0 b → Av x γ w b := fun b hb => ⟨hA0 b hb, fun _ => .inl hb, fun k c hk => by
    obtain ⟨j, _, hj⟩ := hγ k _ hk
    exact (hMA b ⟨_, List.mem_of_getElem? hj, c, rfl⟩).2 hb⟩
  have hpg : ∀ k i, pinG is k = some i → γ k = some i := by
    intro k i hk
    show (if pinLo ≤ k then is[k - pinLo]? else none) = some i
    unfold pinG at hk
    cases hb : Nat.ble pinLo k with
    | true => rw [hb] at hk; rw [if_pos (Nat.le_of_ble_eq_true hb)]; exact hk
    | false => rw [hb] at hk; cases hk
  have hkeys : ((qksH 0 qks xs).map (·.1)).Nodup := by rw [qksH_keys]; exact List.nodup_range'
  obtain ⟨hV, hlen, hobj⟩ := qks_VR (γ := γ) (H := H) (A := Av x γ w) (is0 := is) hpg hav (fun _ _ h => by cases h) qks 0 vs is args xs hv hrel (fun j i hj => by rw [hpin]; exact hj) (fun p hp => updAll_in hkeys hp)
  have hal := hV.length
  rw [qksV_len] at hal
  have hr : RS x γ (st1 qks xs fn.ntmps) { tmps := args.toArray ++ Array.replicate (fn.ntmps - args.toArray.size) undef, defers := [] } w := by
    refine ⟨⟨Nat.le_refl _, rfl, rfl, rfl, fun b _ _ => rfl, ?_, ?_, ?_, fun k i hk _ => hk, fun k cs off b c ob h1 h2 h3 h4 => by
      obtain ⟨p, hp, e⟩ := updAll_mem h1
      exact absurd h2 (qksH_no 0 qks xs p hp cs off e)⟩, ?_, ?_, rfl⟩
    · intro k i hk
      obtain ⟨j, rfl, hj⟩ := hγ k i hk
      obtain ⟨ob, hm, ho⟩ := hobj j i hj
      exact ⟨ob, updAll_in hkeys hm, objR.mono (fun b hb => ⟨hav b hb, rfl⟩) _ _ (fun _ _ _ => rfl) ho⟩
    · intro k b c hk
      obtain ⟨j, rfl, hj⟩ := hγ k _ hk
      have hm : M b := ⟨_, List.mem_of_getElem? hj, c, rfl⟩
      exact ⟨.inr hm, (hMA b hm).1⟩
    · intro k k' b c c' hk hk'
      obtain ⟨j, rfl, hj⟩ := hγ k _ hk
      obtain ⟨j', rfl, hj'⟩ := hγ k' _ hk'
      have : j = j' := by
        rcases Nat.lt_trichotomy j j' with hlt | he | hlt
        · exfalso
          have h1 := (List.getElem?_eq_some_iff.1 hj)
          have h2 := (List.getElem?_eq_some_iff.1 hj')
          exact List.pairwise_iff_getElem.1 hap j j' h1.1 h2.1 hlt b c c' h1.2 h2.2
        · exact he
        · exfalso
          have h1 := (List.getElem?_eq_some_iff.1 hj)
          have h2 := (List.getElem?_eq_some_iff.1 hj')
          exact List.pairwise_iff_getElem.1 hap j' j h2.1 h1.1 hlt b c' c h2.2 h1.2
      rw [this]
    · simp only [st1, List.length_append, qksV_len, List.length_replicate, Array.size_append, List.size_toArray, Array.size_replicate]
      omega
    · intro t v hv'
      simp only [st1, List.getElem?_append] at hv'
      split at hv'
      · rename_i hlt
        obtain ⟨u, hu, hvr⟩ := hV.get hv'
        have : (args.toArray ++ Array.replicate (fn.ntmps - args.toArray.size) undef).getD t undef = u := by
          have hta : t < args.length := (List.getElem?_eq_some_iff.1 hu).1
          rw [Array.getD_eq_getD_getElem?, Array.getElem?_append_left (by simpa using hta)]
          simp [hu]
        rw [this]
        exact hvr
      · rw [List.getElem?_replicate] at hv'
        split at hv'
        · cases hv'
          trivial
        · cases hv'
  have fin : ∀ st γ' a w', rtIO rks (qks.flatMap QK.ods) st = some r → RS x γ' st a w' → a.defers = [] ∧ ∃ v, (results fn a.tmps).run P w' = .ok v w' ∧
      (GrowsBut is w w' ∧ ∃ js us, v = retVal us ∧ RetRs w w' (newA w w' A0 (js ++ is)) (rets rks r.1) js us ∧ All2 (OutR w' (newA w w' A0 (js ++ is))) (outsOf (qks.flatMap QK.ods) r.2) is) := by
    intro st γ' a w' hrt hr'
    unfold rtIO at hrt
    obtain ⟨hkl, hrt⟩ := cond_some hrt rfl
    obtain ⟨y1, h1, hrt⟩ := Option.bind_eq_some_iff.1 hrt
    obtain ⟨y2, h2, hrt⟩ := Option.bind_eq_some_iff.1 hrt
    cases hrt
    unfold rtG at h1
    obtain ⟨hk, h1⟩ := cond_some h1 rfl
    simp only [rkOK, Bool.and_eq_true] at hk
    have hnd := nodupB_spec hk.1
    have hklo : ∀ k ∈ (rks.flatMap (RK.ownK st)) ++ (rks.flatMap (RK.slK st)), k < pinLo := fun k hkm => Nat.le_of_ble_eq_true (List.all_eq_true.1 hkl k hkm)
    have hpins : ∀ j i, is[j]? = some i → γ' (pinLo + (0 + j)) = some i := by
      obtain ⟨_, j2⟩ := odsGet_R (A1 := Av x γ' w') hr' (fun b hb => hb) (qks.flatMap QK.ods) 0 is y2 h2 (by rw [hlen, qksCnt_ods]) (fun j i hj => by
        have := hpin j
        rw [hj] at this
        exact this)
      exact j2
    -- what the call may not give back lies in blocks of its own
    have hnM : ∀ k b c, k < pinLo → γ' k = some (.at b c) → w.heap.size ≤ b := by
      intro k b c hklt hkb
      rcases (hr'.inv.rng k b c hkb).1 with h | ⟨i, hi, c', rfl⟩
      · exact h
      · exfalso
        obtain ⟨j, hj⟩ := List.getElem?_of_mem hi
        have := hr'.inv.inj k _ b c c' hkb (hpins j _ hj)
        omega
    let js := rks.map (RK.info γ' st)
    have hjs : ∀ i ∈ js, ∀ b c, i = .at b c → ∃ k ∈ rks.flatMap (RK.ownK st), γ' k = some (.at b c) := by
      intro i hi b c he
      obtain ⟨rk, hm, rfl⟩ := List.mem_map.1 hi
      obtain ⟨k, hk, hg⟩ := info_at he
      exact ⟨k, List.mem_flatMap.2 ⟨rk, hm, hk⟩, hg⟩
    have hA1 : ∀ b, Av x γ' w' b → newA w w' A0 (js ++ is) b := by
      intro b hb
      refine ⟨hb.1, fun hlt => ?_, fun i hi c he => ?_⟩
      · rcases hb.2.1 hlt with h | ⟨i, hi, c, rfl⟩
        · exact h
        · exfalso
          obtain ⟨j, hj⟩ := List.getElem?_of_mem hi
          exact hb.2.2 _ c (hpins j _ hj)
      · rcases List.mem_append.1 hi with hi | hi
        · obtain ⟨k, _, hg⟩ := hjs i hi b c he
          exact hb.2.2 k c hg
        · obtain ⟨j, hj⟩ := List.getElem?_of_mem hi
          rw [he] at hj
          exact hb.2.2 _ c (hpins j _ hj)
    have hS : ∀ k ∈ rks.flatMap (RK.slK st), ∀ b c, γ' k = some (.at b c) → newA w w' A0 (js ++ is) b := by
      intro k hkm b c hg
      have hlo := hklo k (List.mem_append.2 (.inr hkm))
      have h5 := hnM k b c hlo hg
      refine ⟨(hr'.inv.rng k b c hg).2, fun hlt => by omega, fun i hi c' he => ?_⟩
      rcases List.mem_append.1 hi with hi | hi
      · obtain ⟨k', hk', hg'⟩ := hjs i hi b c' he
        have := hr'.inv.inj k k' b c c' hg hg'
        subst this
        have h3 := List.all_eq_true.1 hk.2 k hkm
        rw [mem_memN.2 hk'] at h3
        cases h3
      · have := (hMA b ⟨i, hi, c', he⟩).1
        omega
    obtain ⟨us, q1, q2⟩ := RKs_get (w0 := w) hT hr' hA1 rks fn.results.toList y1 hrk h1 hnd (fun k hkm b c hg => hnM k b c (hklo k (List.mem_append.2 (.inl hkm))) hg) hS
    obtain ⟨o1, _⟩ := odsGet_R (A1 := newA w w' A0 (js ++ is)) hr' hA1 (qks.flatMap QK.ods) 0 is y2 h2 (by rw [hlen, qksCnt_ods]) (fun j i hj => by
      have := hpin j
      rw [hj] at this
      exact this)
    refine ⟨hr'.nod, retVal us, results_run q1, ⟨hr'.inv.size, hr'.inv.os, hr'.inv.tape, hr'.inv.output, fun b hb hn => hr'.inv.blk b hb ?_⟩, js, us, rfl, q2, o1⟩
    rintro ⟨i, hi, c, he⟩
    exact hn i hi c he
  refine calls_of_wp hf hb (runG_sound hT hE hphi hpar hm c an (hsc x) _ _ _ _ _ _ _ _ h hr ⟨?_, ?_, ?_⟩)
  · intro st γ a w' hrt hr'
    exact fin st γ a w' hrt hr'
  · intro j st γ a w' hrt hr'
    cases hrt
  · intro st γ a w' hrt hr'
    exact fin st γ a w' hrt hr'
/-! ### What is called -/
/-- The callees that write: which one, by what its arguments are; what is handed in; what it does. -/
structure IoE where
  g : FuncId
  q : List V → Bool
  flags : List Bool
  F : List V → (ρ : Type) → (Ret → List Out → Option ρ) → Option ρ
theorem envOK0 (h1 : PhiOK P E.phi) (hp : E.phio = fun _ _ _ _ => none) (hi : E.iop = fun _ => none) : EnvOK P E :=
  ⟨h1, fun g flags vs ρ K r hfl hk => by rw [hi] at hfl; cases hfl⟩
theorem envPar0 (h1 : PhiPar E.phi) (hp : E.phio = fun _ _ _ _ => none) : EnvPar E :=
  ⟨h1, fun g flags vs ρ K r _ hk => by rw [hp] at hk; cases hk⟩
end
end Go.Vi
/-
  Vi: from what a statement's reading of the arguments says to the data that a contract wants; the given row.
-/
set_option linter.unusedVariables false
set_option linter.unusedSimpArgs false
namespace Go.Vi
open Go.ChangeShapes Go.WideShapes Go.ChangeAt Go.RowKit
def rdL (P : Program) (rd : TypeId → Sh → Bool) : Nat → List (Nat × TypeId) → Sh → Bool
  | off, [(o, t)], s => (Nat.beq o off && Nat.beq (P.cellsOf t) s.nc && rd t s) || (match s with | .pair a .unit => Nat.beq o off && Nat.beq (P.cellsOf t) a.nc && rd t a | _ => false)
  | off, (o, t) :: r, .pair a b => (Nat.beq o off && Nat.beq (P.cellsOf t) a.nc && rd t a) && rdL P rd (off + a.nc) r b
  | _, [], .unit => true
  | _, _, _ => false
/-- Does a type read as this shape? -/
def rdB (P : Program) : Nat → TypeId → Sh → Bool
  | 0, _, _ => false
  | n + 1, t, s =>
    match P.underlying t with
    | some .bool => decide (s = .bool)
    | some (.int k) => decide (s = .int k)
    | some .string => decide (s = .str)
    | some (.slice e) => (match s with | .sl e' => rdB P n e e' && Nat.beq (P.cellsOf e) e'.nc && Nat.ble 1 e'.nc | _ => false)
    | some (.struct fs) => s.agg && Nat.beq (P.cellsOf t) s.nc && rdL P (rdB P n) 0 (fs.toList.map fun f => (f.offset, f.type)) s
    | some (.array m e) => s.agg && Nat.beq (P.cellsOf t) s.nc && rdL P (rdB P n) 0 ((List.range m).map fun i => (i * P.cellsOf e, e)) s
    | _ => false
/-- Numbers lie within their kinds. -/
def Wf : (s : Sh) → s.den → Prop
  | .int k, n => (Lit.int k n).wf = true
  | .sl e, xs => xs.length ≤ 9223372036854775807 ∧ ∀ x ∈ xs, Wf e x
  | .pair a b, x => Wf a x.1 ∧ Wf b x.2
  | .str, s => s.size ≤ 9223372036854775807
  | _, _ => True
theorem mapM_some {α β : Type} {f : α → Option β} : ∀ {l : List α} {ys : List β}, l.mapM f = some ys → All2 (fun a y => f a = some y) l ys
  | [], ys, h => by
    simp at h
    subst h
    trivial
  | a :: l, ys, h => by
    rw [List.mapM_cons] at h
    cases h1 : f a with
    | none => rw [h1] at h; cases h
    | some y =>
      rw [h1] at h
      cases h2 : l.mapM f with
      | none =>
        rw [h2] at h
        cases h
      | some zs =>
        rw [h2] at h
        cases h
        exact ⟨h1, mapM_some h2⟩
theorem All2.unmap {α β γ : Type} {R : β → γ → Prop} {f : α → β} : ∀ {l : List α} {ys : List γ}, All2 (fun a y => R (f a) y) l ys → All2 R (l.map f) ys
  | [], [], _ => trivial
  | _ :: _, _ :: _, h => ⟨h.1, All2.unmap h.2⟩
section
variable {P : Program} {W : World} {H : Type} {enc : TypeId × Value → H} {sp : Nat → Bool} {held : Bool} {A : Nat → Prop}
theorem rdL_sound {rd : TypeId → Sh → Bool} {f : TypeId → List Value → Option (DataW H × List MemPlace)} (IH : ∀ t s cs d, rd t s = true → f t cs = some d → ∃ x : s.den, VRs W A s x cs ∧ Wf s x) (cs : List Value) :
    ∀ (l : List (Nat × TypeId)) (off : Nat) (s : Sh) (ys : List (DataW H × List MemPlace)), rdL P rd off l s = true → All2 (fun p y => f p.2 ((cs.drop p.1).take (P.cellsOf p.2)) = some y) l ys →
      ∃ x : s.den, VRs W A s x ((cs.drop off).take s.nc) ∧ Wf s x
  | [], off, s, ys, h, hy => by
    cases s <;> simp [rdL] at h
    exact ⟨(), by simp [VRs, Sh.nc], trivial⟩
  | [(o, t)], off, s, [y], h, hy => by
    simp only [rdL, Bool.or_eq_true, Bool.and_eq_true] at h
    rcases h with ⟨⟨h1, h2⟩, h3⟩ | h
    · have := Nat.eq_of_beq_eq_true h1
      have h2 := Nat.eq_of_beq_eq_true h2
      subst this
      have hy1 := hy.1
      simp only [h2] at hy1
      exact IH t s _ y h3 hy1
    · cases s with
      | pair a b =>
        cases b with
        | unit =>
          simp only [Bool.and_eq_true] at h
          obtain ⟨⟨h1, h2⟩, h3⟩ := h
          have := Nat.eq_of_beq_eq_true h1
          have h2 := Nat.eq_of_beq_eq_true h2
          subst this
          have hy1 := hy.1
          simp only [h2] at hy1
          obtain ⟨x, hx, hw⟩ := IH t a _ y h3 hy1
          refine ⟨(x, ()), ⟨?_, ?_⟩, hw, trivial⟩
          · simpa [Sh.nc, List.take_take] using hx
          · simp [Sh.nc, VRs]
        | _ => simp at h
      | _ => simp at h
  | (o, t) :: p :: r, off, s, y :: ys, h, hy => by
    cases s with
    | pair a b =>
      simp only [rdL, Bool.and_eq_true] at h
      obtain ⟨⟨⟨h1, h2⟩, h3⟩, h4⟩ := h
      have := Nat.eq_of_beq_eq_true h1
      have h2 := Nat.eq_of_beq_eq_true h2
      subst this
      have hy1 := hy.1
      simp only [h2] at hy1
      obtain ⟨x, hx, hw⟩ := IH t a _ y h3 hy1
      obtain ⟨x2, hx2, hw2⟩ := rdL_sound IH cs (p :: r) _ b ys h4 hy.2
      refine ⟨(x, x2), ⟨?_, ?_⟩, hw, hw2⟩
      · rw [Sh.nc, List.take_take, Nat.min_eq_left (by omega)]
        exact hx
      · rw [Sh.nc, List.drop_take, List.drop_drop, Nat.add_sub_cancel_left]
        exact hx2
    | _ => simp [rdL] at h
  | [_], _, _, [], _, hy => hy.elim
  | [_], _, _, _ :: _ :: _, _, hy => hy.2.elim
  | _ :: _ :: _, _, _, [], _, hy => hy.elim
theorem rows_of {e : Sh} {f : List Value → Option (DataW H × List MemPlace)} (IH : ∀ cs d, f cs = some d → ∃ x : e.den, VRs W A e x cs ∧ Wf e x) {n : Nat} {a : Addr} : ∀ (l : List Nat) (ys : List (DataW H × List MemPlace)),
    All2 (fun i y => (W.cells? 0 (a.add (i * n)) n).bind f = some y) l ys → ∃ xs : List e.den, All2 (fun i x => ∃ us, W.cells? 0 (a.add (i * n)) n = some us ∧ VRs W A e x us) l xs ∧ ∀ x ∈ xs, Wf e x
  | [], [], _ => ⟨[], trivial, by simp⟩
  | i :: l, y :: ys, h => by
    obtain ⟨us, h1, h2⟩ := Option.bind_eq_some_iff.1 h.1
    obtain ⟨x, hx, hw⟩ := IH us y h2
    obtain ⟨xs, hxs, hws⟩ := rows_of IH l ys h.2
    exact ⟨x :: xs, ⟨⟨us, h1, hx⟩, hxs⟩, by simpa using ⟨hw, hws⟩⟩
theorem cells_row {b o : Nat} {cur : Array Value} {et : TypeId} {fz : Nat × Nat} (h : W.heap[b]? = some (.cells cur et fz)) : ∀ {n : Nat} {us : List Value}, W.cells? 0 ⟨b, o, none⟩ n = some us → us = (cur.toList.drop o).take n ∧ o + us.length ≤ o + n ∧ us.length = n ∧ (0 < n → o + n ≤ cur.size) := by
  intro n us hu
  simp only [World.cells?, Nat.zero_le, if_true] at hu
  have h1 := mapM_some hu
  have hl := h1.length
  simp at hl
  have hg : ∀ i, i < n → us[i]? = cur.toList[o + i]? ∧ o + i < cur.size := by
    intro i hi
    obtain ⟨v, h2, h3⟩ := h1.get (i := i) (a := i) (by simp [hi])
    rw [add_eq, cell_row h] at h3
    rw [h2, h3]
    refine ⟨rfl, ?_⟩
    have := List.getElem?_eq_some_iff.1 h3
    obtain ⟨this, _⟩ := this
    simpa using this
  refine ⟨?_, by omega, hl.symm, fun hn => by have := (hg (n - 1) (by omega)).2; omega⟩
  apply List.ext_getElem?
  intro i
  rw [List.getElem?_take, List.getElem?_drop]
  split
  · rename_i hi
    exact (hg i hi).1
  · rename_i hi
    exact List.getElem?_eq_none (by omega)
theorem All2.range {α : Type} {R : Nat → α → Prop} {n : Nat} {xs : List α} (h : All2 R (List.range n) xs) : xs.length = n ∧ ∀ i x, xs[i]? = some x → R i x := by
  have hl := h.length
  simp at hl
  refine ⟨hl.symm, fun i x hx => ?_⟩
  have hi : i < n := by
    obtain ⟨hi, _⟩ := List.getElem?_eq_some_iff.1 hx
    omega
  obtain ⟨y, h1, h2⟩ := h.get (i := i) (a := i) (by simp [hi])
  rw [h1] at hx
  cases hx
  exact h2
theorem rdB_sound (hA : ∀ b, b < W.heap.size → A b) : ∀ (n : Nat) (t : TypeId) (s : Sh) (fuel : Nat) (cs : List Value) (d : DataW H × List MemPlace), rdB P n t s = true → DataW.trod enc P W 0 sp held fuel t cs = some d →
    ∃ x : s.den, VRs W A s x cs ∧ Wf s x
  | 0, _, _, _, _, _, h, _ => by cases h
  | n + 1, t, s, 0, cs, d, h, hd => by cases hd
  | n + 1, t, s, fuel + 1, cs, d, h, hd => by
    unfold rdB at h
    split at h
    · rename_i hu
      have hs := of_decide_eq_true h
      subst hs
      simp only [DataW.trod, hu] at hd
      match cs, hd with
      | [.bool b], _ => exact ⟨(b : Bool), rfl, trivial⟩
    · rename_i k hu
      have hs := of_decide_eq_true h
      subst hs
      simp only [DataW.trod, hu] at hd
      match cs, hd with
      | [.int k' m], hd =>
        have hd : (if k' = k ∧ (Lit.int k m).wf = true then some (DataW.lit (Lit.int k m), []) else none) = some d := hd
        by_cases hc : k' = k ∧ (Lit.int k m).wf = true
        · obtain ⟨rfl, hw⟩ := hc
          exact ⟨(m : Int), rfl, hw⟩
        · rw [if_neg hc] at hd
          cases hd
    · rename_i hu
      have hs := of_decide_eq_true h
      subst hs
      simp only [DataW.trod, hu] at hd
      match cs, hd with
      | [.string b], hd =>
        have hd : (if b.size ≤ maxLen then some (DataW.lit (Lit.string b.data.toList), []) else none) = some d := hd
        by_cases hc : b.size ≤ maxLen
        · refine ⟨(b : ByteArray), rfl, ?_⟩
          simp only [Wf]
          exact Nat.le_trans hc (by decide)
        · rw [if_neg hc] at hd
          cases hd
    · rename_i et hu
      cases s with
      | sl e =>
        simp only [Bool.and_eq_true] at h
        obtain ⟨⟨h1, h2⟩, h3⟩ := h
        have h2 := Nat.eq_of_beq_eq_true h2
        have h3 := Nat.le_of_ble_eq_true h3
        simp only [DataW.trod, hu] at hd
        match cs, hd with
        | [.slice none 0 0], _ => exact ⟨[], ⟨none, 0, rfl, by simp, .inl rfl⟩, by simp [Wf]⟩
        | [.slice (some a) len cap], hd =>
          by_cases hc : 0 ≤ a.block ∧ len ≤ cap ∧ cap ≤ maxLen
          · simp only [hc, and_self, if_true] at hd
            obtain ⟨elems, he, hd⟩ := Option.bind_eq_some_iff.1 hd
            have he := mapM_some he
            rw [h2] at he
            obtain ⟨xs, hxs, hw⟩ := rows_of (e := e) (f := DataW.trod enc P W 0 sp held fuel et) (fun cs d hd => rdB_sound hA n et e fuel cs d h1 hd) _ _ he
            obtain ⟨hlen, hget⟩ := All2.range hxs
            refine ⟨xs, ⟨some a, cap, by rw [hlen], by omega, ?_⟩, ?_, hw⟩
            · cases hxl : xs with
              | nil => exact .inl rfl
              | cons y ys =>
                right
                have hlp : 0 < xs.length := by rw [hxl]; simp
                obtain ⟨us0, hu0, _⟩ := hget 0 xs[0] (List.getElem?_eq_getElem hlp)
                have hc0 := mapM_some (by simpa [World.cells?] using hu0 : (List.range e.nc).mapM (fun i => W.cell? ((a.add (0 * e.nc)).add i)) = some us0)
                obtain ⟨v0, _, hv0⟩ := hc0.get (i := 0) (a := 0) (List.getElem?_range (by omega))
                simp [Addr.add] at hv0
                have hsp := World.cell?_spot hv0
                obtain ⟨b, o, spot⟩ := a
                simp at hsp
                subst hsp
                have hblk : ∃ cur et' fz, W.heap[b]? = some (.cells cur et' fz) := by
                  unfold World.cell? at hv0
                  simp only at hv0
                  split at hv0
                  · rename_i c _ _ hb
                    exact ⟨_, _, _, hb⟩
                  · cases hv0
                obtain ⟨cur, et', fz, hb⟩ := hblk
                have hbl : b < W.heap.size := by
                  obtain ⟨hi, _⟩ := Array.getElem?_eq_some_iff.1 hb
                  exact hi
                rw [← hxl]
                refine ⟨b, o, cur, et', fz, rfl, hA b hbl, hb, ?_, ?_⟩
                · obtain ⟨us, hus, _⟩ := hget (xs.length - 1) (xs[xs.length - 1]'(by omega)) (by simp [hlp])
                  rw [add_eq] at hus
                  have := (cells_row hb hus).2.2.2 (by omega)
                  have e2 : (xs.length - 1) * e.nc + e.nc = xs.length * e.nc := by
                    conv => rhs; rw [show xs.length = (xs.length - 1) + 1 by omega, Nat.add_mul, Nat.one_mul]
                  omega
                · intro i x hx
                  obtain ⟨us, hus, hv⟩ := hget i x hx
                  rw [add_eq] at hus
                  rw [← (cells_row hb hus).1]
                  exact hv
            · have h4 := hc.2.2
              have h5 : cap ≤ 9223372036854775807 := Nat.le_trans h4 (by decide)
              omega
          · simp only [hc, if_false] at hd
            cases hd
      | _ => cases h
    · rename_i fs hu
      simp only [Bool.and_eq_true] at h
      obtain ⟨⟨h1, h2⟩, h3⟩ := h
      have h2 := Nat.eq_of_beq_eq_true h2
      simp only [DataW.trod, hu] at hd
      split at hd
      · rename_i hc
        obtain ⟨ys, hy, _⟩ := Option.map_eq_some_iff.1 hd
        have hy := mapM_some hy
        have hy2 := All2.unmap (R := fun (p : Nat × TypeId) y => DataW.trod enc P W 0 sp held fuel p.2 ((cs.drop p.1).take (P.cellsOf p.2)) = some y) (f := fun (f : Field) => (f.offset, f.type)) hy
        obtain ⟨x, hx, hw⟩ := rdL_sound (fun t s cs d ht hd => rdB_sound hA n t s fuel cs d ht hd) cs _ 0 s ys h3 hy2
        refine ⟨x, ?_, hw⟩
        rwa [List.drop_zero, List.take_of_length_le (by omega)] at hx
      · cases hd
    · rename_i m e hu
      simp only [Bool.and_eq_true] at h
      obtain ⟨⟨h1, h2⟩, h3⟩ := h
      have h2 := Nat.eq_of_beq_eq_true h2
      simp only [DataW.trod, hu] at hd
      split at hd
      · rename_i hc
        obtain ⟨ys, hy, _⟩ := Option.map_eq_some_iff.1 hd
        have hy := mapM_some hy
        have hy2 := All2.unmap (R := fun (p : Nat × TypeId) y => DataW.trod enc P W 0 sp held fuel p.2 ((cs.drop p.1).take (P.cellsOf p.2)) = some y) (f := fun i => (i * P.cellsOf e, e)) hy
        obtain ⟨x, hx, hw⟩ := rdL_sound (fun t s cs d ht hd => rdB_sound hA n t s fuel cs d ht hd) cs _ 0 s ys h3 hy2
        refine ⟨x, ?_, hw⟩
        rwa [List.drop_zero, List.take_of_length_le (by omega)] at hx
      · cases hd
    · cases h
theorem ofC_cells : ∀ (s : Sh) (x : s.den), ofC s (cells s x) = some x
  | .int k, x => by simp [cells, ofC]
  | .bool, x => rfl
  | .str, x => rfl
  | .sl e, xs => by simp [cells, ofC]
  | .unit, x => rfl
  | .pair a b, x => by
    have h1 : (cells a x.1 ++ cells b x.2).take a.nc = cells a x.1 := by rw [← cells_length a x.1, List.take_left]
    have h2 : (cells a x.1 ++ cells b x.2).drop a.nc = cells b x.2 := by rw [← cells_length a x.1, List.drop_left]
    simp only [cells, ofC, h1, h2, ofC_cells a, ofC_cells b]
theorem valOf_val (s : Sh) (x : s.den) : valOf s ((PK.c s).val x) = some x := by
  cases hs : s.agg with
  | true => simp only [PK.val, hs, cond_true, valOf, ofC_cells]
  | false =>
    have hl := cells_length s x
    rw [nagg_one hs] at hl
    match hc : cells s x, hl with
    | [c], _ =>
      have e : (PK.c s).val x = .c c := by simp only [PK.val, hs, cond_false, hc]
      rw [e]
      simp only [valOf, hs, cond_false]
      rw [← hc]
      exact ofC_cells s x
theorem rdB_agg {n : Nat} {t : TypeId} {s : Sh} (h : rdB P n t s = true) (hs : s.agg = true) : (∃ fs, P.underlying t = some (.struct fs)) ∨ ∃ m e, P.underlying t = some (.array m e) := by
  cases n with
  | zero => cases h
  | succ n =>
    unfold rdB at h
    split at h
    · have := of_decide_eq_true h; subst this; cases hs
    · have := of_decide_eq_true h; subst this; cases hs
    · have := of_decide_eq_true h; subst this; cases hs
    · cases s <;> first | cases h | cases hs
    · rename_i fs hu; exact .inl ⟨_, hu⟩
    · rename_i m e hu; exact .inr ⟨_, _, hu⟩
    · cases h
theorem rdB_nagg {n : Nat} {t : TypeId} {s : Sh} (h : rdB P n t s = true) (hs : s.agg = false) : P.underlying t = some .bool ∨ (∃ k, P.underlying t = some (.int k)) ∨ P.underlying t = some .string ∨ ∃ e, P.underlying t = some (.slice e) := by
  cases n with
  | zero => cases h
  | succ n =>
    unfold rdB at h
    split at h
    · rename_i hu; exact .inl hu
    · rename_i k hu; exact .inr (.inl ⟨k, hu⟩)
    · rename_i hu; exact .inr (.inr (.inl hu))
    · rename_i e hu; exact .inr (.inr (.inr ⟨e, hu⟩))
    · simp [hs] at h
    · simp [hs] at h
    · cases h
theorem trod_arg {n : Nat} {t : TypeId} {s : Sh} {v : Value} {d : DataW H} {ps : List MemPlace} {base : Nat} {r : Reach} (hn : rdB P n t s = true) (hval : Value.okWide P W r base t v) (h : DataW.Trod enc P W 0 sp held t v d ps) (hA : ∀ b, b < W.heap.size → A b) :
    ∃ x : s.den, VR noGam W A emp ((PK.c s).val x) v ∧ Wf s x := by
  obtain ⟨fuel, h⟩ := h
  obtain ⟨x, hx, hw⟩ := rdB_sound hA n t s fuel _ _ hn h
  refine ⟨x, ?_, hw⟩
  have hc := CR.of_VRs s x _ hx
  cases hs : s.agg with
  | true =>
    simp only [PK.val, hs, cond_true]
    have : ∃ cs, v = .agg cs := by
      rcases rdB_agg hn hs with ⟨fs, hu⟩ | ⟨m, e, hu⟩
      · simp only [Value.okWide, hu] at hval
        obtain ⟨cs, h1, _⟩ := hval
        exact ⟨cs, h1⟩
      · simp only [Value.okWide, hu] at hval
        obtain ⟨cs, h1, _⟩ := hval
        exact ⟨cs, h1⟩
    obtain ⟨cs, rfl⟩ := this
    exact ⟨cs.toList, by simp, hc⟩
  | false =>
    have hl := cells_length s x
    rw [nagg_one hs] at hl
    match hcs : cells s x, hl with
    | [c], _ =>
      rw [hcs] at hc
      obtain ⟨u, hu, hcr⟩ := hc.one
      have : v = u := by
        cases v with
        | agg cs =>
          exfalso
          rcases rdB_nagg hn hs with h1 | ⟨k, h1⟩ | h1 | ⟨e, h1⟩ <;> simp [Value.okWide, h1, Cell.okWide, Cell.ok] at hval
        | _ => simpa [Value.cells] using hu
      subst this
      simp only [PK.val, hs, cond_false, hcs]
      exact hcr
end
end Go.Vi
/-
  Vi: a law's contract out of its contract in data: it returns true, and what it was handed reads as before.
-/
set_option linter.unusedVariables false
set_option linter.unusedSimpArgs false
namespace Go.Vi
open Go.ChangeShapes Go.WideShapes Go.ChangeAt Go.RowKit
section
variable {P : Program} {W W' : World} {H : Type} {enc : TypeId × Value → H} {A : Nat → Prop}
def pks (ss : List Sh) : List PK := ss.map .c
def rdArgs (P : Program) (n : Nat) : List TypeId → List Sh → Bool
  | [], [] => true
  | t :: ts, s :: ss => rdB P n t s && rdArgs P n ts ss
  | _, _ => false
def WfL : (ss : List Sh) → pksDen (pks ss) → Prop
  | [], _ => True
  | s :: ss, x => Wf s x.1 ∧ WfL ss x.2
theorem trodAll_args {n base : Nat} {r : Reach} {sp : Nat → Bool} {held : Bool} (hA : ∀ b, b < W.heap.size → A b) : ∀ {ts : List TypeId} {ss : List Sh} {vs : List Value} {ds : List (DataW H)} {ps : List MemPlace}, rdArgs P n ts ss = true →
    (∀ (j : Nat) t v, ts[j]? = some t → vs[j]? = some v → Value.okWide P W r base t v) → DataW.TrodAll enc P W 0 sp held ts vs ds ps →
    ∃ xs : pksDen (pks ss), All2 (VR noGam W A emp) (pksV (pks ss) xs) vs ∧ WfL ss xs
  | [], [], vs, ds, ps, _, _, h => by
    obtain ⟨rfl, _, _⟩ := trodAll_nil h
    exact ⟨(), trivial, trivial⟩
  | t :: ts, s :: ss, vs, ds, ps, hr, hv, h => by
    simp only [rdArgs, Bool.and_eq_true] at hr
    obtain ⟨v, vs', d, ds', p, q, rfl, rfl, rfl, h1, h2⟩ := trodAll_cons h
    obtain ⟨x, hx, hw⟩ := trod_arg hr.1 (hv 0 t v rfl rfl) h1 hA
    obtain ⟨xs, hxs, hws⟩ := trodAll_args hA hr.2 (fun j t v ht hv' => hv (j + 1) t v (by simpa using ht) (by simpa using hv')) h2
    exact ⟨(x, xs), ⟨hx, hxs⟩, hw, hws⟩
  | [], _ :: _, _, _, _, hr, _, _ => by cases hr
  | _ :: _, [], _, _, _, hr, _, _ => by cases hr
theorem pksArg_val : ∀ (ss : List Sh) (xs : pksDen (pks ss)), pksArg (pks ss) (pksV (pks ss) xs) = some xs
  | [], _ => rfl
  | s :: ss, xs => by
    have h1 : (PK.c s).arg ((PK.c s).val xs.1) = some xs.1 := valOf_val s xs.1
    have h2 := pksArg_val ss xs.2
    show ((PK.c s).arg ((PK.c s).val xs.1)).bind (fun x => (pksArg (pks ss) (pksV (pks ss) xs.2)).bind fun y => some (x, y)) = _
    rw [h1, h2]
    rfl
theorem Grows.below (h : Grows W W') : RowKit.Below W.heap.size W W' := ⟨h.os, h.tape, h.output, h.size, h.blk⟩
/-- The call returns true. -/
theorem law_calls {g : FuncId} {ss : List Sh} {t0 : Nat} {S : pksDen (pks ss) → Option Bool} (hfc : FCs P g (phiOf (pks ss) [.c .bool t0] S)) {xs : pksDen (pks ss)} (hS : S xs = some true) {args : Array Value} (hA : ∀ b, A b → b < W.heap.size)
    (ha : All2 (VR noGam W A emp) (pksV (pks ss) xs) args.toList) (hgl : GlobOK W A) : Calls P g args W fun e W' => e = .returned (.bool true) ∧ Grows W W' := by
  have hrun : phiOf (pks ss) [RK.c .bool t0] S (pksV (pks ss) xs) Ret some = some [.val (.bool true)] := by
    unfold phiOf
    rw [pksArg_val]
    simp only [Option.bind_some, hS]
    rfl
  obtain ⟨ret, hret, hf⟩ := hfc _ _ _ _ hrun
  cases hret
  have := hf W A args.toList hA ha hgl
  refine this.mono fun e w' he => ?_
  cases e with
  | returned u =>
    obtain ⟨hg, is, us, rfl, hr⟩ := he
    match is, us, hr with
    | [i], [u], hr =>
      have : u = .bool true := hr.1
      subst this
      exact ⟨rfl, hg⟩
    | _ :: _ :: _, _ :: us, hr => cases us <;> exact hr.2.2.elim
  | panicked _ => exact he.elim
  | outgrown => exact he.elim
theorem trodAll_stays (hl : laidOutB P = true) (hb : RowKit.Below W.heap.size W W') : ∀ {ts : List TypeId} {vs : List Value} {ds : List (DataW H)} {ps : List MemPlace}, (∀ t ∈ ts, P.readableRec t = true ∧ t < P.types.size) → (∀ x ∈ ps, x.block < W.heap.size) →
    DataW.TrodAll enc P W 0 (fun _ => true) true ts vs ds ps → DataW.TrodAll enc P W' 0 (fun b => decide (b < W.heap.size)) true ts vs ds ps
  | [], vs, ds, ps, _, _, h => by
    obtain ⟨rfl, rfl, rfl⟩ := trodAll_nil h
    rfl
  | t :: ts, vs, ds, ps, ht, hps, h => by
    obtain ⟨v, vs', d, ds', p, q, rfl, rfl, rfl, h1, h2⟩ := trodAll_cons h
    have := ht t (by simp)
    exact ⟨p, q, Below.trod hl this.1 this.2 h1 hb (fun x hx => hps x (List.mem_append.2 (.inl hx))), trodAll_stays hl hb (fun t' ht' => ht t' (List.mem_cons_of_mem _ ht')) (fun x hx => hps x (List.mem_append.2 (.inr hx))) h2, rfl⟩
/-- What a row asks of a call. -/
theorem law_post {g : FuncId} {fn : Func} {spec : ChangeSpec} {ss : List Sh} {t0 n base tb : Nat} {S : Nat × Nat → pksDen (pks ss) → Option Bool} (hfc : ∀ n, FCs P g (phiOf (pks ss) [.c .bool t0] (S n)))
    (hS : ∀ xs, WfL ss xs → ∃ n, S n xs = some true) (hl : laidOutB P = true) (hr : rdArgs P n fn.params.toList ss = true) (hts : fn.params.toList.all (fun t => P.readableRec t && decide (t < P.types.size)) = true)
    (hrt : fn.resultTypes = #[tb]) (hu : P.underlying tb = some .bool) (hvars : spec.vars = [])
    (hspec : ∀ (H : Type) (ds : List (DataW H)), ds.length = ss.length → spec.fn H ds = { results := [.lit (.bool true)], args := ds, vars := [] })
    {args : Array Value} {ds gs : List (DataW H)} {before : List MemPlace} (hval : ∀ (j : Nat) t v, fn.params[j]? = some t → args[j]? = some v → Value.okWide P W .any base t v)
    (hW : DataW.Whole enc P fn.params.toList spec.vars false W args.toList ds gs before) (hgl : GlobOK W (fun b => b < W.heap.size)) :
    Calls P g args W fun e W' => ∃ v, e = .returned v ∧ spec.post enc P fn false true false false W args v W' := by
  have hW' := hW
  obtain ⟨p, q, hA0, hV, rfl, hfz, hnd⟩ := hW
  have hlt : ∀ x ∈ p ++ q, x.block < W.heap.size := fun x hx => by simpa using hW'.lt x hx
  rw [hvars] at hV
  obtain ⟨rfl, rfl⟩ := trodVars_none hV
  obtain ⟨xs, hxs, hws⟩ := trodAll_args (A := fun b => b < W.heap.size) (fun b hb => hb) hr (fun j t v ht hv => hval j t v (by simpa using ht) (by simpa using hv)) hA0
  obtain ⟨m, hm⟩ := hS xs hws
  refine (law_calls (hfc m) hm (fun b hb => hb) hxs hgl).mono fun e W' ⟨he, hg⟩ => ?_
  subst he
  have hlen : ds.length = ss.length := by
    have h1 : ∀ {ts : List TypeId} {vs : List Value} {ds : List (DataW H)} {ps : List MemPlace}, DataW.TrodAll enc P W 0 (fun _ => true) true ts vs ds ps → ds.length = ts.length := by
      intro ts
      induction ts with
      | nil =>
        intro vs ds ps h
        obtain ⟨_, rfl, _⟩ := trodAll_nil h
        rfl
      | cons t ts ih =>
        intro vs ds ps h
        obtain ⟨v, vs', d, ds', p, q, rfl, rfl, rfl, h1, h2⟩ := trodAll_cons h
        simp [ih h2]
    have h2 : ∀ {ts : List TypeId} {ss : List Sh}, rdArgs P n ts ss = true → ts.length = ss.length := by
      intro ts
      induction ts with
      | nil => intro ss h; cases ss <;> first | rfl | cases h
      | cons t ts ih =>
        intro ss h
        cases ss with
        | nil => cases h
        | cons s ss =>
          simp only [rdArgs, Bool.and_eq_true] at h
          simp [ih h.2]
    rw [h1 hA0, h2 hr]
  have hsp := hspec H (ds ++ []) (by simpa using hlen)
  refine ⟨_, rfl, ds, [], p ++ [], [], p, [], hW', ?_, ?_, ?_, hg.below.frame _, fun h => by cases h⟩
  · rw [hsp, hrt]
    exact trodAll_mk1 (shut_bool hu _)
  · rw [hsp]
    simp only [List.append_nil]
    refine trodAll_stays hl hg.below ?_ (fun x hx => hlt x (List.mem_append.2 (.inl hx))) hA0
    intro t ht
    have := List.all_eq_true.1 hts t ht
    simp only [Bool.and_eq_true, decide_eq_true_eq] at this
    exact this
  · rw [hsp, hvars]
    rfl
end
end Go.Vi
set_option linter.unusedVariables false
set_option linter.unusedSimpArgs false
set_option maxRecDepth 100000
namespace Go.Proofs.YtkfkbebinhkdlaaDoor
open Go.ChangeShapes Go.WideShapes Go.ChangeAt Go.RowKit Go.Vi
def tab32 : List Int := [0, 1, 28, 2, 29, 14, 24, 3, 30, 22, 20, 15, 25, 17, 4, 8, 31, 27, 13, 23, 21, 19, 16, 7, 26, 12, 18, 6, 11, 5, 10, 9]
def tab64 : List Int := [0, 1, 56, 2, 57, 49, 28, 3, 61, 58, 42, 50, 38, 29, 17, 4, 62, 47, 59, 36, 45, 43, 51, 22, 53, 39, 33, 30, 24, 18, 12, 5, 63, 55, 48, 27, 60, 41, 37, 16, 46, 35, 44, 21, 52, 32, 23, 11, 54, 26, 40, 15, 34, 20, 31, 10, 25, 14, 19, 9, 13, 8, 7, 6]
def setTab (w : World) (b : Nat) (k : IntKind) (l : List Int) : World :=
  { w with heap := w.heap.modify b fun
      | .cells _ t frozen => .cells (l.map fun m => Value.int k m).toArray t frozen
      | o => o }
noncomputable def laidWorld (os : Os) : World := setTab (setTab (World.holding Tryd.prog os ⟨#[], #[], []⟩) 0 .u8 tab32) 1 .u8 tab64
abbrev laidL : List (String × DataW Unit) := [("math/bits.deBruijn32tab", Rows.laid_math_bits_deBruijn32tab), ("math/bits.deBruijn64tab", Rows.laid_math_bits_deBruijn64tab)]
theorem laidWorld_met (os : Os) (args : Array Value) : laidMet Tryd.prog laidL ((laidWorld os).forCall (fun _ _ => 0) ⟨#[], args, []⟩).memory :=
  laidMet_of_run' 8 (by kernel_rfl) (by kernel_rfl)
/-- A listed table of numbers lies where the row says. -/
theorem glob_of_vars {P : Program} {W : World} {nm : String} {g t n e : Nat} {k : IntKind} {ns : List Int} {rest : List (String × DataW Unit)} {ps : List MemPlace} (h : DataW.LaidVars P W ((nm, .agg (ns.map fun m => .lit (.int k m))) :: rest) ps) (hg : P.globalNamed nm = some g) (ht : (P.globals[g]?).map (·.type) = some t)
    (hu : P.underlying t = some (.array n e)) (he : P.underlying e = some (.int k)) (hc : P.cellsOf e = 1) (hct : P.cellsOf t = n) : (∃ cur et fz, W.heap[g]? = some (.cells cur et fz) ∧ cur.toList = ns.map fun m => .int k m) ∧ ∃ q, DataW.LaidVars P W rest q := by
  obtain ⟨g0, t0, cs0, f0, p0, q0, hg0, ht0, hv0, hd0, hq, _⟩ := h
  refine ⟨?_, q0, hq⟩
  obtain rfl := Option.some.inj (hg.symm.trans hg0)
  obtain rfl := Option.some.inj (ht.symm.trans ht0)
  obtain ⟨xs, m, _, hx, hl, hxl, hget⟩ := DataW.trod_array hu hd0
  have hcur : ∃ et fz, W.heap[g]? = some (.cells cs0 et fz) := by
    unfold World.var? at hv0
    rw [hg, Option.bind_some] at hv0
    split at hv0
    · rename_i c et fz hb
      cases hv0
      exact ⟨et, fz, hb⟩
    · cases hv0
  obtain ⟨et, fz, hb⟩ := hcur
  refine ⟨cs0, et, fz, hb, ?_⟩
  have e1 : xs.map (·.1) = ns.map fun m => .lit (.int k m) := by
    have := congrArg Prod.fst hx
    simp only [DataW.agg.injEq] at this
    exact this.symm
  have hnl : ns.length = n := by
    have := congrArg List.length e1
    simp only [List.length_map] at this
    omega
  apply List.ext_getElem
  · rw [hl, hct, List.length_map, hnl]
  · intro i h1 h2
    have hi : i < n := by rw [hl, hct] at h1; exact h1
    have h3 := hget i hi
    rw [List.getElem?_eq_getElem (by omega)] at h3
    obtain ⟨z, e2, e3, _⟩ := DataW.trod_int he h3
    have e4 : xs[i].1 = .lit (.int k (ns[i]'(by omega))) := by
      have := congrArg (fun l => l[i]?) e1
      simp only [List.getElem?_map, List.getElem?_eq_getElem (show i < xs.length by omega), List.getElem?_eq_getElem (show i < ns.length by omega), Option.map_some, Option.some.injEq] at this
      exact this
    rw [e3] at e4
    simp only [DataW.lit.injEq, Lit.int.injEq, true_and] at e4
    rw [hc, Nat.mul_one, List.drop_eq_getElem_cons h1] at e2
    simp only [List.take_succ_cons, List.take_zero, List.cons.injEq, and_true] at e2
    rw [e2, List.getElem_map, e4]
theorem globs_vars {W : World} {rest : List (String × DataW Unit)} (h : laidMet Tryd.prog (laidL ++ rest) W) : GlobOK W (fun b => b < W.heap.size) := by
  obtain ⟨ps, h, _, _⟩ := h
  obtain ⟨⟨cur, et, fz, hb, hc⟩, q, h⟩ := glob_of_vars (P := Tryd.prog) (nm := "math/bits.deBruijn32tab") (g := 0) (t := 179) (n := 32) (e := 5) (k := .u8) (ns := tab32) h (by kernel_rfl) (by kernel_rfl) (by kernel_rfl) (by kernel_rfl) (by kernel_rfl) (by kernel_rfl)
  obtain ⟨⟨cur1, et1, fz1, hb1, hc1⟩, _⟩ := glob_of_vars (P := Tryd.prog) (nm := "math/bits.deBruijn64tab") (g := 1) (t := 180) (n := 64) (e := 5) (k := .u8) (ns := tab64) h (by kernel_rfl) (by kernel_rfl) (by kernel_rfl) (by kernel_rfl) (by kernel_rfl) (by kernel_rfl)
  intro g ns hg
  match g, hg with
  | 0, hg =>
    cases hg
    exact ⟨(Array.getElem?_eq_some_iff.1 hb).1, (Array.getElem?_eq_some_iff.1 hb).1, cur, et, fz, hb, hc⟩
  | 1, hg =>
    cases hg
    exact ⟨(Array.getElem?_eq_some_iff.1 hb1).1, (Array.getElem?_eq_some_iff.1 hb1).1, cur1, et1, fz1, hb1, hc1⟩
  | g + 2, hg => cases hg
theorem globs_ok {W : World} (h : laidMet Tryd.prog laidL W) : GlobOK W (fun b => b < W.heap.size) := globs_vars (rest := []) h
/-! With the two tables of utf8. -/
def setRow (w : World) (b : Nat) (l : List Value) : World :=
  { w with heap := w.heap.modify b fun
      | .cells _ t frozen => .cells l.toArray t frozen
      | o => o }
end Go.Proofs.YtkfkbebinhkdlaaDoor
/-
  Vi: marked code that a text of ours walks: it makes one thing, and may leave some temporaries in disorder.
-/
set_option linter.unusedVariables false
set_option linter.unusedSimpArgs false
namespace Go.Vi
/-- The call's surroundings, from here on: what is not the call's own may turn no more. -/
def Cx.anew (x : Cx) {γ : Gam} {H : Heap} {w : World} (hi : Inv x γ H w) (ds : List Deferred) : Cx where
  B := w.heap.size
  M := fun b => ∃ k c, γ k = some (.at b c)
  A0 := fun b => Av x γ w b ∨ ∃ k c, γ k = some (.at b c)
  w0 := w
  ma := fun _ h => .inr h
  pin := x.pin
  pinlo := x.pinlo
  ds := ds
  glob := ⟨rfl, hi.globs.mono (Nat.le_refl _) fun b hb => ⟨.inl hb, rfl⟩⟩
  gM := fun g ns hg h => by
    obtain ⟨k, c, hk⟩ := h
    exact (hi.globs g ns hg).2.1.2.2 k c hk
theorem Av.anew {x : Cx} {γ : Gam} {H : Heap} {w : World} {ds : List Deferred} (hi : Inv x γ H w) (b : Nat) (h : Av x γ w b) : Av (x.anew hi ds) γ w b ∧ w.heap[b]? = w.heap[b]? :=
  ⟨⟨h.1, fun _ => .inl h, h.2.2⟩, rfl⟩
theorem RS.anew {x : Cx} {γ : Gam} {st : St} {a : Act} {w : World} (h : RS x γ st a w) : RS (x.anew h.inv x.ds) γ st a w where
  inv := ⟨Nat.le_refl _, rfl, rfl, rfl, fun _ _ _ => rfl, fun k i hk => by
    obtain ⟨ob, h1, h2⟩ := h.inv.own k i hk
    exact ⟨ob, h1, objR.mono (Av.anew h.inv) ob i (fun _ _ _ => rfl) h2⟩, fun k b c hk => ⟨.inr ⟨k, c, hk⟩, (h.inv.rng k b c hk).2⟩, h.inv.inj, h.inv.pin, h.inv.lnk⟩
  len := h.len
  tm := fun t v hv => VR.mono (Av.anew h.inv) v _ (h.tm t v hv)
  nod := h.nod
section
variable {P : Program} {E : Env} {x : Cx} {ρ : Type} {r : ρ}
end
end Go.Vi
set_option linter.unusedVariables false
set_option linter.unusedSimpArgs false
set_option maxRecDepth 100000
namespace Go.Proofs.YtkfkbebinhkdlaaDoor
open Go.Vi
abbrev uu : V := .undef
def tab : Tab := { sh := [(3, (.int .i64)), (4, .bool), (5, (.int .u8)), (9, .str), (21, (.int .i32)), (22, (.pair (.int .u8) (.pair (.int .u8) (.pair (.int .u8) (.pair (.int .u8) (.pair (.int .u8) (.int .u8))))))), (23, (.pair (.pair (.int .u8) (.pair (.int .u8) (.pair (.int .u8) (.pair (.int .u8) (.pair (.int .u8) (.int .u8)))))) (.pair (.pair (.int .u8) (.pair (.int .u8) (.pair (.int .u8) (.pair (.int .u8) (.pair (.int .u8) (.int .u8)))))) (.pair (.pair (.int .u8) (.pair (.int .u8) (.pair (.int .u8) (.pair (.int .u8) (.pair (.int .u8) (.int .u8)))))) (.pair (.pair (.int .u8) (.pair (.int .u8) (.pair (.int .u8) (.pair (.int .u8) (.pair (.int .u8) (.int .u8)))))) (.pair (.pair (.int .u8) (.pair (.int .u8) (.pair (.int .u8) (.pair (.int .u8) (.pair (.int .u8) (.int .u8)))))) (.pair (.pair (.int .u8) (.pair (.int .u8) (.pair (.int .u8) (.pair (.int .u8) (.pair (.int .u8) (.int .u8)))))) (.pair (.pair (.int .u8) (.pair (.int .u8) (.pair (.int .u8) (.pair (.int .u8) (.pair (.int .u8) (.int .u8)))))) (.pair (.int .u8) (.pair (.int .u8) (.pair (.int .u8) (.pair (.int .u8) (.pair (.int .u8) (.int .u8)))))))))))))), (24, (.sl .str)), (26, (.sl (.pair (.int .i64) (.int .i64)))), (28, (.pair (.int .i64) (.sl (.pair (.int .i64) (.int .i64))))), (29, (.sl (.int .i64))), (30, (.int .i64)), (34, (.pair (.int .i64) (.int .i64))), (35, (.sl (.sl (.int .i64)))), (49, (.sl (.int .u8))), (76, (.sl (.pair (.int .u8) (.pair (.int .u8) (.pair (.int .u8) (.pair (.int .u8) (.pair (.int .u8) (.int .u8)))))))), (79, (.int .u64)), (80, (.pair (.int .u64) (.pair (.int .u64) (.pair (.int .u64) (.pair (.int .u64) (.pair (.int .u64) (.pair (.int .u64) (.int .u64)))))))), (82, (.pair (.int .i64) (.pair (.int .u64) (.pair (.int .u64) (.pair (.int .u64) (.pair (.int .u64) (.pair (.int .u64) (.pair (.int .u64) (.int .u64))))))))), (94, (.sl (.int .u64))), (145, (.int .u64)), (166, (.int .i64)), (196, (.int .u64))], flds := [(28, [(.int .i64), (.sl (.pair (.int .i64) (.int .i64)))]), (82, [(.int .i64), (.pair (.int .u64) (.pair (.int .u64) (.pair (.int .u64) (.pair (.int .u64) (.pair (.int .u64) (.pair (.int .u64) (.int .u64)))))))])], arrs := [(22, (6, (.int .u8))), (23, (8, (.pair (.int .u8) (.pair (.int .u8) (.pair (.int .u8) (.pair (.int .u8) (.pair (.int .u8) (.int .u8)))))))), (34, (2, (.int .i64))), (80, (7, (.int .u64)))], maps := [(202, (.i32, .bool))], eqs := [(34, (.pair (.int .i64) (.int .i64)))], idf := [22], del := [], lits := [], nils := false }
theorem id22 : IdC Tryd.prog 22 := ⟨callOK_of Tryd.func22 (by kernel_rfl) (by kernel_rfl), fun u w => by
  go_enter Tryd.func22, Tryd.ntmps22
  go_wp2
  go_ret
  exact ⟨rfl, rfl⟩⟩
theorem idOK : ∀ g ∈ tab.idf, IdC Tryd.prog g := by
  intro g hg
  simp only [tab, List.mem_cons, List.not_mem_nil, or_false] at hg
  subst hg
  exact id22
theorem delOK : ∀ g ∈ tab.del, DelC Tryd.prog g := by
  intro g hg
  cases hg
theorem tabOK : TabOK Tryd.prog tab := tabB_ok (by kernel_rfl) idOK delOK
theorem eqsOK : EqsOK Tryd.prog tab := eqsB_ok (by kernel_rfl)
def tabL : Tab := { tab with lits := [26, 29, 61] }
theorem tabLOK : TabOK Tryd.prog tabL := tabB_ok (by kernel_rfl) idOK delOK
theorem eqsLOK : EqsOK Tryd.prog tabL := eqsB_ok (by kernel_rfl)
theorem mixed : Tryd.prog.follows .mixedOrders = true := by kernel_rfl
/- slices.Index[[]string,string] -/
abbrev R64 := Int
noncomputable def c64 : Code := bodyOf Tryd.f64
noncomputable def an64 : Ann := (.s .l (.s (.s .l (.j [] (.j [0, 1, 7, 8] (.s .l (.s (.j [0, 1, 7, 8] .l .l) (.s (.j [0, 1, 7, 8] (.s .l (.s .l (.j [0, 1, 7, 8] .l .l))) .l) .l))) .l) .l)) .l))
def pk64 : List PK := [.c (.sl .str), .c .str]
def rk64 : List RK := [.c (.int .i64) 4]
noncomputable def rt64 (st : St) : Option R64 := rtG rk64 st
noncomputable def E64 (n : Nat × Nat) : Env := { T := tab, phi := noPhi, eff := fun _ => false, fuel := n.1, hold := n.2 }
noncomputable def kq64_1 (n : Nat × Nat) : St → Option R64 := run (E64 n) (cB (cB c64)) (Ann.snd (Ann.snd an64)) rt64 (fun _ _ => none) rt64
noncomputable def xb64_3 (n : Nat × Nat) : Nat → St → Option R64 := fun j s => bif Nat.beq j 0 then normC [] s (kq64_1 n) else (fun _ _ => none) j s
noncomputable def F64_4 (n : Nat × Nat) : (St → Option R64) → St → Option R64 := fun K s => run (E64 n) (cA (cA (cB (cA (cB c64))))) (Ann.fst (Ann.fst (Ann.snd (Ann.fst (Ann.snd an64))))) (fun s => normC [0, 1, 7, 8] s K) (xb64_3 n) rt64 s
noncomputable def L64_1 (n : Nat × Nat) (m : Nat) (s0 : List ByteArray) (v1 : ByteArray) (v7 : Int) (v8 : Int) : Option R64 := loopN (F64_4 n) m { tm := [.c (.sl .str s0 false), .c (.str v1), uu, uu, uu, uu, uu, .c (.int .i64 v7), .c (.int .i64 v8), uu, uu, uu, uu, uu, uu, uu, uu, uu, uu], hp := emp }
theorem L64_1_eq (n : Nat × Nat) (m1 : Nat) (s0 : List ByteArray) (v1 : ByteArray) (v7 : Int) (v8 : Int) : L64_1 n (m1 + 1) s0 v1 v7 v8 =
 (bif decide (v8 < v7) then (idx s0 v8).bind fun x1' =>
 (bif strEq v1 x1' then some v8
 else L64_1 n m1 s0 v1 v7 (wr .i64 (v8 + 1)))
 else some (-1)) := by kernel_rfl
noncomputable def S64 (n : Nat × Nat) (s0 : List ByteArray) (v1 : ByteArray) : Option R64 := run (E64 n) c64 an64 rt64 (fun _ _ => none) rt64 { tm := [.c (.sl .str s0 false), .c (.str v1), uu, uu, uu, uu, uu, uu, uu, uu, uu, uu, uu, uu, uu, uu, uu, uu, uu], hp := emp }
theorem S64_eq (n : Nat × Nat) (s0 : List ByteArray) (v1 : ByteArray) : S64 n s0 v1 =
    L64_1 n n.1 s0 v1 (s0.length : Int) 0 := by kernel_rfl
theorem S64_run (n : Nat × Nat) (xs : pksDen pk64) : S64 n xs.1 xs.2.1 = runG (E64 n) noScope c64 an64 (rtG rk64) (fun _ _ => none) (rtG rk64) (st0 pk64 xs Tryd.f64.ntmps) := by kernel_rfl
noncomputable def P64 (n : Nat × Nat) := phiOf pk64 rk64 (fun xs => S64 n xs.1 xs.2.1)
theorem call64 : CallOK Tryd.prog 64 := callOK_of Tryd.func64 (by kernel_rfl) (by kernel_rfl)
theorem env64 (n : Nat × Nat) : EnvOK Tryd.prog (E64 n) := envOK0 noPhi_ok rfl rfl
theorem par64 (n : Nat × Nat) : EnvPar (E64 n) := envPar0 noPhi_par rfl
theorem FC64 (n : Nat × Nat) : FCs Tryd.prog 64 (P64 n) := phiOf_FCs fun xs r h vs hv => FC.of_runG tabOK eqsOK (env64 n) (par64 n) mixed (fun _ p _ => noScope_ok p.1 p.2) Tryd.func64 (c := c64) (an := an64) (pks := pk64) (rks := rk64) (by kernel_rfl) (by kernel_rfl) hv ((S64_run n xs).symm.trans h)
/- slices.Contains[[]string,string] -/
abbrev R30 := Bool
noncomputable def c30 : Code := bodyOf Tryd.f30
noncomputable def an30 : Ann := .l
def pk30 : List PK := [.c (.sl .str), .c .str]
def rk30 : List RK := [.c .bool 4]
noncomputable def rt30 (st : St) : Option R30 := rtG rk30 st
noncomputable def E30 (n : Nat × Nat) : Env := { T := tab, phi := (consPhi 64 (fun _ => true) (P64 n) noPhi), eff := fun _ => false, fuel := n.1, hold := n.2 }
noncomputable def S30 (n : Nat × Nat) (s0 : List ByteArray) (v1 : ByteArray) : Option R30 := run (E30 n) c30 an30 rt30 (fun _ _ => none) rt30 { tm := [.c (.sl .str s0 false), .c (.str v1), uu, uu, uu, uu, uu, uu, uu], hp := emp }
theorem S30_eq (n : Nat × Nat) (s0 : List ByteArray) (v1 : ByteArray) : S30 n s0 v1 =
 (S64 n s0 v1).bind fun r1' =>
 some (decide (r1' ≥ 0)) := by kernel_rfl
theorem S30_run (n : Nat × Nat) (xs : pksDen pk30) : S30 n xs.1 xs.2.1 = runG (E30 n) noScope c30 an30 (rtG rk30) (fun _ _ => none) (rtG rk30) (st0 pk30 xs Tryd.f30.ntmps) := by kernel_rfl
noncomputable def P30 (n : Nat × Nat) := phiOf pk30 rk30 (fun xs => S30 n xs.1 xs.2.1)
theorem call30 : CallOK Tryd.prog 30 := callOK_of Tryd.func30 (by kernel_rfl) (by kernel_rfl)
theorem env30 (n : Nat × Nat) : EnvOK Tryd.prog (E30 n) := envOK0 (consPhi_ok (FC64 n) call64 noPhi_ok) rfl rfl
theorem par30 (n : Nat × Nat) : EnvPar (E30 n) := envPar0 (consPhi_par phiOf_Par1 noPhi_par) rfl
theorem FC30 (n : Nat × Nat) : FCs Tryd.prog 30 (P30 n) := phiOf_FCs fun xs r h vs hv => FC.of_runG tabOK eqsOK (env30 n) (par30 n) mixed (fun _ p _ => noScope_ok p.1 p.2) Tryd.func30 (c := c30) (an := an30) (pks := pk30) (rks := rk30) (by kernel_rfl) (by kernel_rfl) hv ((S30_run n xs).symm.trans h)
abbrev R8 := List ByteArray
noncomputable def c8 : Code := bodyOf Tryd.f8
noncomputable def an8 : Ann := (.s .l (.s .l (.s (.s .l (.j [7] (.j [2, 7, 14, 15, 16] (.s .l (.s (.j [2, 7, 14, 15, 16] .l .l) (.j [] (.j [2, 7, 14, 15, 16] (.s .l (.s .l (.s (.s .l (.j [2, 7, 10, 14, 15, 16] (.j [2, 7, 10, 14, 15, 16, 27, 28, 29] (.s .l (.s (.j [2, 7, 10, 14, 15, 16, 27, 28, 29] .l .l) (.s (.j [2, 7, 10, 14, 15, 16, 27, 28, 29] .l .l) .l))) .l) .l)) (.s .l (.j [2, 7, 14, 15, 16] .l .l))))) .l) .l))) .l) .l)) .l)))
def pk8 : List PK := [.c (.pair (.pair (.int .u8) (.pair (.int .u8) (.pair (.int .u8) (.pair (.int .u8) (.pair (.int .u8) (.int .u8)))))) (.pair (.pair (.int .u8) (.pair (.int .u8) (.pair (.int .u8) (.pair (.int .u8) (.pair (.int .u8) (.int .u8)))))) (.pair (.pair (.int .u8) (.pair (.int .u8) (.pair (.int .u8) (.pair (.int .u8) (.pair (.int .u8) (.int .u8)))))) (.pair (.pair (.int .u8) (.pair (.int .u8) (.pair (.int .u8) (.pair (.int .u8) (.pair (.int .u8) (.int .u8)))))) (.pair (.pair (.int .u8) (.pair (.int .u8) (.pair (.int .u8) (.pair (.int .u8) (.pair (.int .u8) (.int .u8)))))) (.pair (.pair (.int .u8) (.pair (.int .u8) (.pair (.int .u8) (.pair (.int .u8) (.pair (.int .u8) (.int .u8)))))) (.pair (.pair (.int .u8) (.pair (.int .u8) (.pair (.int .u8) (.pair (.int .u8) (.pair (.int .u8) (.int .u8)))))) (.pair (.int .u8) (.pair (.int .u8) (.pair (.int .u8) (.pair (.int .u8) (.pair (.int .u8) (.int .u8))))))))))))), .c (.int .i64), .c (.int .i64)]
def rk8 : List RK := [.own .str 6]
noncomputable def rt8 (st : St) : Option R8 := rtG rk8 st
noncomputable def E8 (n : Nat × Nat) : Env := { T := tab, phi := (consPhi 30 (fun _ => true) (P30 n) noPhi), eff := fun _ => false, fuel := n.1, hold := n.2 }
noncomputable def kq8_1 (n : Nat × Nat) : St → Option R8 := run (E8 n) (cB (cB (cB c8))) (Ann.snd (Ann.snd (Ann.snd an8))) rt8 (fun _ _ => none) rt8
noncomputable def xb8_3 (n : Nat × Nat) : Nat → St → Option R8 := fun j s => bif Nat.beq j 0 then normC [7] s (kq8_1 n) else (fun _ _ => none) j s
noncomputable def F8_4 (n : Nat × Nat) : (St → Option R8) → St → Option R8 := fun K s => run (E8 n) (cA (cA (cB (cA (cB (cB c8)))))) (Ann.fst (Ann.fst (Ann.snd (Ann.fst (Ann.snd (Ann.snd an8)))))) (fun s => normC [2, 7, 14, 15, 16] s K) (xb8_3 n) rt8 s
noncomputable def kq8_7 (n : Nat × Nat) (m1 : Nat) : St → Option R8 := run (E8 n) (cB (cB (cB (cA (cA (cB (cA (cB (cB c8))))))))) (Ann.snd (Ann.snd (Ann.snd (Ann.fst (Ann.fst (Ann.snd (Ann.fst (Ann.snd (Ann.snd an8))))))))) (fun s => normC [2, 7, 14, 15, 16] s (loopN (F8_4 n) m1)) (xb8_3 n) rt8
noncomputable def kc8_8 (n : Nat × Nat) (m1 : Nat) : St → Option R8 := fun s => normC [2, 7, 14, 15, 16] s (loopN (fun _ => (kq8_7 n m1)) n.2)
noncomputable def xb8_9 (n : Nat × Nat) (m1 : Nat) : Nat → St → Option R8 := fun j s => bif Nat.beq j 1 then normC [2, 7, 14, 15, 16] s (loopN (fun _ => (kq8_7 n m1)) n.2) else (xb8_3 n) j s
noncomputable def kq8_10 (n : Nat × Nat) (m1 : Nat) : St → Option R8 := run (E8 n) (cB (cB (cB (cA (cA (cB (cB (cA (cA (cB (cA (cB (cB c8))))))))))))) (Ann.snd (Ann.snd (Ann.snd (Ann.fst (Ann.fst (Ann.snd (Ann.snd (Ann.fst (Ann.fst (Ann.snd (Ann.fst (Ann.snd (Ann.snd an8))))))))))))) (kc8_8 n m1) (xb8_9 n m1) rt8
noncomputable def xb8_12 (n : Nat × Nat) (m1 : Nat) : Nat → St → Option R8 := fun j s => bif Nat.beq j 2 then normC [2, 7, 10, 14, 15, 16] s (kq8_10 n m1) else (xb8_9 n m1) j s
noncomputable def F8_13 (n : Nat × Nat) (m1 : Nat) : (St → Option R8) → St → Option R8 := fun K s => run (E8 n) (cA (cA (cB (cA (cB (cB (cA (cA (cB (cB (cA (cA (cB (cA (cB (cB c8)))))))))))))))) (Ann.fst (Ann.fst (Ann.snd (Ann.fst (Ann.snd (Ann.snd (Ann.fst (Ann.fst (Ann.snd (Ann.snd (Ann.fst (Ann.fst (Ann.snd (Ann.fst (Ann.snd (Ann.snd an8)))))))))))))))) (fun s => normC [2, 7, 10, 14, 15, 16, 27, 28, 29] s K) (xb8_12 n m1) rt8 s
noncomputable def L8_1 (n : Nat × Nat) (m : Nat) (letters2 : Int) (v14 : List (Int × Int × Int × Int × Int × Int)) (v15 : Int) (v16 : Int) (out7 : List ByteArray) : Option R8 := loopN (F8_4 n) m { tm := [uu, uu, .c (.int .i64 letters2), uu, uu, uu, uu, .own 7 none false, uu, uu, uu, uu, uu, uu, .c (.sl (.pair (.int .u8) (.pair (.int .u8) (.pair (.int .u8) (.pair (.int .u8) (.pair (.int .u8) (.int .u8)))))) v14 false), .c (.int .i64 v15), .c (.int .i64 v16), uu, uu, uu, uu, uu, uu, uu, uu, uu, uu, uu, uu, uu, uu, uu, uu, uu, uu, uu, uu, uu, uu, uu, uu, uu, uu, uu, uu, uu, uu, uu, uu, uu, uu, uu], hp := (upd emp 7 (.arr .str out7 false)) }
noncomputable def L8_2 (n : Nat × Nat) (m1 : Nat) (m : Nat) (letters2 : Int) (w10 : ByteArray) (v14 : List (Int × Int × Int × Int × Int × Int)) (v15 : Int) (v16 : Int) (v27 : List Int) (v28 : Int) (v29 : Int) (out7 : List ByteArray) : Option R8 := loopN (F8_13 n m1) m { tm := [uu, uu, .c (.int .i64 letters2), uu, uu, uu, uu, .own 7 none false, uu, uu, .c (.str w10), uu, uu, uu, .c (.sl (.pair (.int .u8) (.pair (.int .u8) (.pair (.int .u8) (.pair (.int .u8) (.pair (.int .u8) (.int .u8)))))) v14 false), .c (.int .i64 v15), .c (.int .i64 v16), uu, uu, uu, uu, uu, uu, uu, uu, uu, uu, .c (.sl (.int .u8) v27 false), .c (.int .i64 v28), .c (.int .i64 v29), uu, uu, uu, uu, uu, uu, uu, uu, uu, uu, uu, uu, uu, uu, uu, uu, uu, uu, uu, uu, uu, uu], hp := (upd emp 7 (.arr .str out7 false)) }
noncomputable def L8_3 (n : Nat × Nat) (m1 : Nat) (letters2 : Int) (v14 : List (Int × Int × Int × Int × Int × Int)) (v15 : Int) (v16 : Int) (out7 : List ByteArray) : Option R8 := loopN (fun _ => (kq8_7 n m1)) n.2 { tm := [uu, uu, .c (.int .i64 letters2), uu, uu, uu, uu, .own 7 none false, uu, uu, uu, uu, uu, uu, .c (.sl (.pair (.int .u8) (.pair (.int .u8) (.pair (.int .u8) (.pair (.int .u8) (.pair (.int .u8) (.int .u8)))))) v14 false), .c (.int .i64 v15), .c (.int .i64 v16), uu, uu, uu, uu, uu, uu, uu, uu, uu, uu, uu, uu, uu, uu, uu, uu, uu, uu, uu, uu, uu, uu, uu, uu, uu, uu, uu, uu, uu, uu, uu, uu, uu, uu, uu], hp := (upd emp 7 (.arr .str out7 false)) }
theorem L8_1_eq (n : Nat × Nat) (m1 : Nat) (letters2 : Int) (v14 : List (Int × Int × Int × Int × Int × Int)) (v15 : Int) (v16 : Int) (out7 : List ByteArray) : L8_1 n (m1 + 1) letters2 v14 v15 v16 out7 =
 (bif decide (v16 < v15) then (idx v14 v16).bind fun x1' =>
 (bif inB 0 6 then (idx [x1'.1, x1'.2.1, x1'.2.2.1, x1'.2.2.2.1, x1'.2.2.2.2.1, x1'.2.2.2.2.2] 0).bind fun x2' =>
 (bif (wr .i64 (letters2 + 1)) == 0 then none
 else (bif bounds (some 1) (some (wr .i64 (1 + (Int.tmod (wr .i64 x2') (wr .i64 (letters2 + 1)))))) none 6 then L8_2 n m1 n.1 letters2 (⟨#[]⟩ : ByteArray) v14 v15 v16 (([x1'.1, x1'.2.1, x1'.2.2.1, x1'.2.2.2.1, x1'.2.2.2.2.1, x1'.2.2.2.2.2].take (Int.toNat (wr .i64 (1 + (Int.tmod (wr .i64 x2') (wr .i64 (letters2 + 1))))))).drop (Int.toNat 1)) ((([x1'.1, x1'.2.1, x1'.2.2.1, x1'.2.2.2.1, x1'.2.2.2.2.1, x1'.2.2.2.2.2].take (Int.toNat (wr .i64 (1 + (Int.tmod (wr .i64 x2') (wr .i64 (letters2 + 1))))))).drop (Int.toNat 1)).length : Int) 0 out7
 else none))
 else none)
 else some out7) := by kernel_rfl
theorem L8_2_eq (n : Nat × Nat) (m1 m2 : Nat) (letters2 : Int) (w10 : ByteArray) (v14 : List (Int × Int × Int × Int × Int × Int)) (v15 : Int) (v16 : Int) (v27 : List Int) (v28 : Int) (v29 : Int) (out7 : List ByteArray) : L8_2 n m1 (m2 + 1) letters2 w10 v14 v15 v16 v27 v28 v29 out7 =
 (bif decide (v29 < v28) then (idx v27 v29).bind fun x3' =>
 (bif 3 == 0 then none
 else (bif 3 == 0 then none
 else (bif bounds (some (Int.tmod x3' 3)) (some (wr .u8 ((Int.tmod x3' 3) + 1))) none (⟨#[97, 98, 99]⟩ : ByteArray).size then (bif decide (w10.size + (strCut (some (Int.tmod x3' 3)) (some (wr .u8 ((Int.tmod x3' 3) + 1))) (⟨#[97, 98, 99]⟩ : ByteArray)).size ≤ lim) then L8_2 n m1 m2 letters2 (strApp w10 (strCut (some (Int.tmod x3' 3)) (some (wr .u8 ((Int.tmod x3' 3) + 1))) (⟨#[97, 98, 99]⟩ : ByteArray))) v14 v15 v16 v27 v28 (wr .i64 (v29 + 1)) out7
 else none)
 else none)))
 else (S30 n out7 w10).bind fun r4' =>
 (bif (!r4') then (bif decide (out7.length + [w10].length ≤ lim) then L8_3 n m1 letters2 v14 v15 v16 (out7 ++ [w10])
 else none)
 else L8_3 n m1 letters2 v14 v15 v16 out7)) := by kernel_rfl
theorem L8_3_raw (n : Nat × Nat) (m1 : Nat) (letters2 : Int) (v14 : List (Int × Int × Int × Int × Int × Int)) (v15 : Int) (v16 : Int) (out7 : List ByteArray) : (kq8_7 n m1) { tm := [uu, uu, .c (.int .i64 letters2), uu, uu, uu, uu, .own 7 none false, uu, uu, uu, uu, uu, uu, .c (.sl (.pair (.int .u8) (.pair (.int .u8) (.pair (.int .u8) (.pair (.int .u8) (.pair (.int .u8) (.int .u8)))))) v14 false), .c (.int .i64 v15), .c (.int .i64 v16), uu, uu, uu, uu, uu, uu, uu, uu, uu, uu, uu, uu, uu, uu, uu, uu, uu, uu, uu, uu, uu, uu, uu, uu, uu, uu, uu, uu, uu, uu, uu, uu, uu, uu, uu], hp := (upd emp 7 (.arr .str out7 false)) } =
    L8_1 n m1 letters2 v14 v15 (wr .i64 (v16 + 1)) out7 := by kernel_rfl
noncomputable def S8 (n : Nat × Nat) (words0 : (Int × Int × Int × Int × Int × Int) × (Int × Int × Int × Int × Int × Int) × (Int × Int × Int × Int × Int × Int) × (Int × Int × Int × Int × Int × Int) × (Int × Int × Int × Int × Int × Int) × (Int × Int × Int × Int × Int × Int) × (Int × Int × Int × Int × Int × Int) × Int × Int × Int × Int × Int × Int) (many1 : Int) (letters2 : Int) : Option R8 := run (E8 n) c8 an8 rt8 (fun _ _ => none) rt8 { tm := [.agg [.int .u8 words0.1.1, .int .u8 words0.1.2.1, .int .u8 words0.1.2.2.1, .int .u8 words0.1.2.2.2.1, .int .u8 words0.1.2.2.2.2.1, .int .u8 words0.1.2.2.2.2.2, .int .u8 words0.2.1.1, .int .u8 words0.2.1.2.1, .int .u8 words0.2.1.2.2.1, .int .u8 words0.2.1.2.2.2.1, .int .u8 words0.2.1.2.2.2.2.1, .int .u8 words0.2.1.2.2.2.2.2, .int .u8 words0.2.2.1.1, .int .u8 words0.2.2.1.2.1, .int .u8 words0.2.2.1.2.2.1, .int .u8 words0.2.2.1.2.2.2.1, .int .u8 words0.2.2.1.2.2.2.2.1, .int .u8 words0.2.2.1.2.2.2.2.2, .int .u8 words0.2.2.2.1.1, .int .u8 words0.2.2.2.1.2.1, .int .u8 words0.2.2.2.1.2.2.1, .int .u8 words0.2.2.2.1.2.2.2.1, .int .u8 words0.2.2.2.1.2.2.2.2.1, .int .u8 words0.2.2.2.1.2.2.2.2.2, .int .u8 words0.2.2.2.2.1.1, .int .u8 words0.2.2.2.2.1.2.1, .int .u8 words0.2.2.2.2.1.2.2.1, .int .u8 words0.2.2.2.2.1.2.2.2.1, .int .u8 words0.2.2.2.2.1.2.2.2.2.1, .int .u8 words0.2.2.2.2.1.2.2.2.2.2, .int .u8 words0.2.2.2.2.2.1.1, .int .u8 words0.2.2.2.2.2.1.2.1, .int .u8 words0.2.2.2.2.2.1.2.2.1, .int .u8 words0.2.2.2.2.2.1.2.2.2.1, .int .u8 words0.2.2.2.2.2.1.2.2.2.2.1, .int .u8 words0.2.2.2.2.2.1.2.2.2.2.2, .int .u8 words0.2.2.2.2.2.2.1.1, .int .u8 words0.2.2.2.2.2.2.1.2.1, .int .u8 words0.2.2.2.2.2.2.1.2.2.1, .int .u8 words0.2.2.2.2.2.2.1.2.2.2.1, .int .u8 words0.2.2.2.2.2.2.1.2.2.2.2.1, .int .u8 words0.2.2.2.2.2.2.1.2.2.2.2.2, .int .u8 words0.2.2.2.2.2.2.2.1, .int .u8 words0.2.2.2.2.2.2.2.2.1, .int .u8 words0.2.2.2.2.2.2.2.2.2.1, .int .u8 words0.2.2.2.2.2.2.2.2.2.2.1, .int .u8 words0.2.2.2.2.2.2.2.2.2.2.2.1, .int .u8 words0.2.2.2.2.2.2.2.2.2.2.2.2], .c (.int .i64 many1), .c (.int .i64 letters2), uu, uu, uu, uu, uu, uu, uu, uu, uu, uu, uu, uu, uu, uu, uu, uu, uu, uu, uu, uu, uu, uu, uu, uu, uu, uu, uu, uu, uu, uu, uu, uu, uu, uu, uu, uu, uu, uu, uu, uu, uu, uu, uu, uu, uu, uu, uu, uu, uu], hp := emp }
theorem S8_eq (n : Nat × Nat) (words0 : (Int × Int × Int × Int × Int × Int) × (Int × Int × Int × Int × Int × Int) × (Int × Int × Int × Int × Int × Int) × (Int × Int × Int × Int × Int × Int) × (Int × Int × Int × Int × Int × Int) × (Int × Int × Int × Int × Int × Int) × (Int × Int × Int × Int × Int × Int) × Int × Int × Int × Int × Int × Int) (many1 : Int) (letters2 : Int) : S8 n words0 many1 letters2 =
 (bif bounds none (some many1) none 8 then L8_1 n n.1 letters2 ([words0.1, words0.2.1, words0.2.2.1, words0.2.2.2.1, words0.2.2.2.2.1, words0.2.2.2.2.2.1, words0.2.2.2.2.2.2.1, words0.2.2.2.2.2.2.2].take (Int.toNat many1)) (([words0.1, words0.2.1, words0.2.2.1, words0.2.2.2.1, words0.2.2.2.2.1, words0.2.2.2.2.2.1, words0.2.2.2.2.2.2.1, words0.2.2.2.2.2.2.2].take (Int.toNat many1)).length : Int) 0 []
 else none) := by kernel_rfl
theorem S8_run (n : Nat × Nat) (xs : pksDen pk8) : S8 n xs.1 xs.2.1 xs.2.2.1 = runG (E8 n) noScope c8 an8 (rtG rk8) (fun _ _ => none) (rtG rk8) (st0 pk8 xs Tryd.f8.ntmps) := by kernel_rfl
noncomputable def P8 (n : Nat × Nat) := phiOf pk8 rk8 (fun xs => S8 n xs.1 xs.2.1 xs.2.2.1)
theorem call8 : CallOK Tryd.prog 8 := callOK_of Tryd.func8 (by kernel_rfl) (by kernel_rfl)
theorem env8 (n : Nat × Nat) : EnvOK Tryd.prog (E8 n) := envOK0 (consPhi_ok (FC30 n) call30 noPhi_ok) rfl rfl
theorem par8 (n : Nat × Nat) : EnvPar (E8 n) := envPar0 (consPhi_par phiOf_Par1 noPhi_par) rfl
theorem FC8 (n : Nat × Nat) : FCs Tryd.prog 8 (P8 n) := phiOf_FCs fun xs r h vs hv => FC.of_runG tabOK eqsOK (env8 n) (par8 n) mixed (fun _ p _ => noScope_ok p.1 p.2) Tryd.func8 (c := c8) (an := an8) (pks := pk8) (rks := rk8) (by kernel_rfl) (by kernel_rfl) hv ((S8_run n xs).symm.trans h)
/- slices.Index[[][2]int,[2]int] -/
abbrev R117 := Int
noncomputable def c117 : Code := bodyOf Tryd.f117
noncomputable def an117 : Ann := (.s .l (.s (.s .l (.j [] (.j [0, 3, 7, 8] (.s .l (.s (.j [0, 3, 7, 8] .l .l) (.s (.j [0, 3, 7, 8] (.s .l (.s .l (.j [0, 3, 7, 8] .l .l))) .l) .l))) .l) .l)) .l))
def pk117 : List PK := [.c (.sl (.pair (.int .i64) (.int .i64))), .c (.pair (.int .i64) (.int .i64))]
def rk117 : List RK := [.c (.int .i64) 4]
noncomputable def rt117 (st : St) : Option R117 := rtG rk117 st
noncomputable def E117 (n : Nat × Nat) : Env := { T := tab, phi := noPhi, eff := fun _ => false, fuel := n.1, hold := n.2 }
noncomputable def kq117_1 (n : Nat × Nat) : St → Option R117 := run (E117 n) (cB (cB c117)) (Ann.snd (Ann.snd an117)) rt117 (fun _ _ => none) rt117
noncomputable def xb117_3 (n : Nat × Nat) : Nat → St → Option R117 := fun j s => bif Nat.beq j 0 then normC [] s (kq117_1 n) else (fun _ _ => none) j s
noncomputable def F117_4 (n : Nat × Nat) : (St → Option R117) → St → Option R117 := fun K s => run (E117 n) (cA (cA (cB (cA (cB c117))))) (Ann.fst (Ann.fst (Ann.snd (Ann.fst (Ann.snd an117))))) (fun s => normC [0, 3, 7, 8] s K) (xb117_3 n) rt117 s
noncomputable def L117_1 (n : Nat × Nat) (m : Nat) (s0 : List (Int × Int)) (v7 : Int) (v8 : Int) (v3_0 : Int) (v3_1 : Int) : Option R117 := loopN (F117_4 n) m { tm := [.c (.sl (.pair (.int .i64) (.int .i64)) s0 false), uu, uu, .ptr 3 0, uu, uu, uu, .c (.int .i64 v7), .c (.int .i64 v8), uu, uu, uu, uu, uu, uu, uu, uu, uu, uu], hp := (upd emp 3 (.box [.int .i64 v3_0, .int .i64 v3_1])) }
theorem L117_1_eq (n : Nat × Nat) (m1 : Nat) (s0 : List (Int × Int)) (v7 : Int) (v8 : Int) (v3_0 : Int) (v3_1 : Int) : L117_1 n (m1 + 1) s0 v7 v8 v3_0 v3_1 =
 (bif decide (v8 < v7) then (idx s0 v8).bind fun x1' =>
 (bif ((v3_0 == x1'.1) && ((v3_1 == x1'.2) && true)) then some v8
 else L117_1 n m1 s0 v7 (wr .i64 (v8 + 1)) v3_0 v3_1)
 else some (-1)) := by kernel_rfl
noncomputable def S117 (n : Nat × Nat) (s0 : List (Int × Int)) (v1 : Int × Int) : Option R117 := run (E117 n) c117 an117 rt117 (fun _ _ => none) rt117 { tm := [.c (.sl (.pair (.int .i64) (.int .i64)) s0 false), .agg [.int .i64 v1.1, .int .i64 v1.2], uu, uu, uu, uu, uu, uu, uu, uu, uu, uu, uu, uu, uu, uu, uu, uu, uu], hp := emp }
theorem S117_eq (n : Nat × Nat) (s0 : List (Int × Int)) (v1 : Int × Int) : S117 n s0 v1 =
    L117_1 n n.1 s0 (s0.length : Int) 0 v1.1 v1.2 := by kernel_rfl
theorem S117_run (n : Nat × Nat) (xs : pksDen pk117) : S117 n xs.1 xs.2.1 = runG (E117 n) noScope c117 an117 (rtG rk117) (fun _ _ => none) (rtG rk117) (st0 pk117 xs Tryd.f117.ntmps) := by kernel_rfl
noncomputable def P117 (n : Nat × Nat) := phiOf pk117 rk117 (fun xs => S117 n xs.1 xs.2.1)
theorem call117 : CallOK Tryd.prog 117 := callOK_of Tryd.func117 (by kernel_rfl) (by kernel_rfl)
theorem env117 (n : Nat × Nat) : EnvOK Tryd.prog (E117 n) := envOK0 noPhi_ok rfl rfl
theorem par117 (n : Nat × Nat) : EnvPar (E117 n) := envPar0 noPhi_par rfl
theorem FC117 (n : Nat × Nat) : FCs Tryd.prog 117 (P117 n) := phiOf_FCs fun xs r h vs hv => FC.of_runG tabOK eqsOK (env117 n) (par117 n) mixed (fun _ p _ => noScope_ok p.1 p.2) Tryd.func117 (c := c117) (an := an117) (pks := pk117) (rks := rk117) (by kernel_rfl) (by kernel_rfl) hv ((S117_run n xs).symm.trans h)
/- slices.Contains[[][2]int,[2]int] -/
abbrev R90 := Bool
noncomputable def c90 : Code := bodyOf Tryd.f90
noncomputable def an90 : Ann := .l
def pk90 : List PK := [.c (.sl (.pair (.int .i64) (.int .i64))), .c (.pair (.int .i64) (.int .i64))]
def rk90 : List RK := [.c .bool 4]
noncomputable def rt90 (st : St) : Option R90 := rtG rk90 st
noncomputable def E90 (n : Nat × Nat) : Env := { T := tab, phi := (consPhi 117 (fun _ => true) (P117 n) noPhi), eff := fun _ => false, fuel := n.1, hold := n.2 }
noncomputable def S90 (n : Nat × Nat) (s0 : List (Int × Int)) (v1 : Int × Int) : Option R90 := run (E90 n) c90 an90 rt90 (fun _ _ => none) rt90 { tm := [.c (.sl (.pair (.int .i64) (.int .i64)) s0 false), .agg [.int .i64 v1.1, .int .i64 v1.2], uu, uu, uu, uu, uu, uu, uu], hp := emp }
theorem S90_eq (n : Nat × Nat) (s0 : List (Int × Int)) (v1 : Int × Int) : S90 n s0 v1 =
 (S117 n s0 v1).bind fun r1' =>
 some (decide (r1' ≥ 0)) := by kernel_rfl
theorem S90_run (n : Nat × Nat) (xs : pksDen pk90) : S90 n xs.1 xs.2.1 = runG (E90 n) noScope c90 an90 (rtG rk90) (fun _ _ => none) (rtG rk90) (st0 pk90 xs Tryd.f90.ntmps) := by kernel_rfl
noncomputable def P90 (n : Nat × Nat) := phiOf pk90 rk90 (fun xs => S90 n xs.1 xs.2.1)
theorem call90 : CallOK Tryd.prog 90 := callOK_of Tryd.func90 (by kernel_rfl) (by kernel_rfl)
theorem env90 (n : Nat × Nat) : EnvOK Tryd.prog (E90 n) := envOK0 (consPhi_ok (FC117 n) call117 noPhi_ok) rfl rfl
theorem par90 (n : Nat × Nat) : EnvPar (E90 n) := envPar0 (consPhi_par phiOf_Par1 noPhi_par) rfl
theorem FC90 (n : Nat × Nat) : FCs Tryd.prog 90 (P90 n) := phiOf_FCs fun xs r h vs hv => FC.of_runG tabOK eqsOK (env90 n) (par90 n) mixed (fun _ p _ => noScope_ok p.1 p.2) Tryd.func90 (c := c90) (an := an90) (pks := pk90) (rks := rk90) (by kernel_rfl) (by kernel_rfl) hv ((S90_run n xs).symm.trans h)
abbrev R66 := Int
noncomputable def c66 : Code := bodyOf Tryd.f66
noncomputable def an66 : Ann := (.s .l (.s (.j [1, 35, 36, 37, 38, 39, 40, 41, 42] (.s .l (.j [1, 35, 36, 37, 38, 39, 40, 41, 42] .l (.s .l (.j [1, 35, 36, 37, 38, 39, 40, 41, 42] .l .l)))) .l) (.s (.s .l (.j [] (.j [1, 20, 21, 22, 35, 36, 37, 38, 39, 40, 41, 42] (.s .l (.s (.j [1, 20, 21, 22, 35, 36, 37, 38, 39, 40, 41, 42] .l .l) (.s (.j [1, 20, 21, 22, 35, 36, 37, 38, 39, 40, 41, 42] (.s .l (.j [1, 20, 21, 22, 35, 36, 37, 38, 39, 40, 41, 42] (.s .l (.j [1, 20, 21, 22, 35, 36, 37, 38, 39, 40, 41, 42] .l (.s .l (.j [1, 20, 21, 22, 35, 36, 37, 38, 39, 40, 41, 42] .l (.s .l (.j [1, 20, 21, 22, 35, 36, 37, 38, 39, 40, 41, 42] .l .l)))))) .l)) .l) .l))) .l) .l)) .l)))
def pk66 : List PK := [.c (.pair (.int .i64) (.sl (.pair (.int .i64) (.int .i64))))]
def rk66 : List RK := [.c (.int .i64) 2]
noncomputable def rt66 (st : St) : Option R66 := rtG rk66 st
noncomputable def E66 (n : Nat × Nat) : Env := { T := tab, phi := (consPhi 90 (fun _ => true) (P90 n) noPhi), eff := fun _ => false, fuel := n.1, hold := n.2 }
noncomputable def kq66_6 (n : Nat × Nat) : St → Option R66 := run (E66 n) (cB (cB (cB c66))) (Ann.snd (Ann.snd (Ann.snd an66))) rt66 (fun _ _ => none) rt66
noncomputable def xb66_8 (n : Nat × Nat) : Nat → St → Option R66 := fun j s => bif Nat.beq j 1 then normC [] s (kq66_6 n) else (fun _ _ => none) j s
noncomputable def F66_9 (n : Nat × Nat) : (St → Option R66) → St → Option R66 := fun K s => run (E66 n) (cA (cA (cB (cA (cB (cB c66)))))) (Ann.fst (Ann.fst (Ann.snd (Ann.fst (Ann.snd (Ann.snd an66)))))) (fun s => normC [1, 20, 21, 22, 35, 36, 37, 38, 39, 40, 41, 42] s K) (xb66_8 n) rt66 s
noncomputable def L66_1 (n : Nat × Nat) (m : Nat) (v20 : List (Int × Int)) (v21 : Int) (v22 : Int) (b1_0 : Int) (b1_1 : List (Int × Int)) : Option R66 := loopN (F66_9 n) m { tm := [uu, .ptr 1 0, uu, uu, uu, uu, uu, uu, uu, uu, uu, uu, uu, uu, uu, uu, uu, uu, uu, uu, .c (.sl (.pair (.int .i64) (.int .i64)) v20 false), .c (.int .i64 v21), .c (.int .i64 v22), uu, uu, uu, uu, uu, uu, uu, uu, uu, uu, uu, uu, uu, uu, uu, uu, uu, uu, uu, uu, uu, uu, uu, uu, uu, uu, uu, uu, uu, uu, uu, uu, uu, uu, uu], hp := (upd emp 1 (.box [.int .i64 b1_0, .sl (.pair (.int .i64) (.int .i64)) b1_1 false])) }
theorem L66_1_eq (n : Nat × Nat) (m1 : Nat) (v20 : List (Int × Int)) (v21 : Int) (v22 : Int) (b1_0 : Int) (b1_1 : List (Int × Int)) : L66_1 n (m1 + 1) v20 v21 v22 b1_0 b1_1 =
 (bif decide (v22 < v21) then (idx v20 v22).bind fun x2' =>
 (bif inB 0 2 then (idx [x2'.1, x2'.2] 0).bind fun x3' =>
 (bif inB 1 2 then (idx [x2'.1, x2'.2] 1).bind fun x4' =>
 ((bif (decide ((if x4' < x3' then x4' else x3') < 0) == false) then (bif inB 0 2 then (idx [x2'.1, x2'.2] 0).bind fun x5' =>
 (bif inB 1 2 then (idx [x2'.1, x2'.2] 1).bind fun x6' =>
 some (decide ((if x6' > x5' then x6' else x5') ≥ b1_0))
 else none)
 else none)
 else some true)).bind fun b7' =>
 (bif b7' then some 2
 else (bif inB 0 2 then (idx [x2'.1, x2'.2] 0).bind fun x8' =>
 (bif inB 1 2 then (idx [x2'.1, x2'.2] 1).bind fun x9' =>
 (bif (x8' == x9') then some 5
 else (bif bounds none (some v22) none b1_1.length then (S90 n (b1_1.take (Int.toNat v22)) x2').bind fun r10' =>
 (bif r10' then some 6
 else L66_1 n m1 v20 v21 (wr .i64 (v22 + 1)) b1_0 b1_1)
 else none))
 else none)
 else none))
 else none)
 else none)
 else some 0) := by kernel_rfl
noncomputable def S66 (n : Nat × Nat) (b0 : Int × List (Int × Int)) : Option R66 := run (E66 n) c66 an66 rt66 (fun _ _ => none) rt66 { tm := [.agg [.int .i64 b0.1, .sl (.pair (.int .i64) (.int .i64)) b0.2 false], uu, uu, uu, uu, uu, uu, uu, uu, uu, uu, uu, uu, uu, uu, uu, uu, uu, uu, uu, uu, uu, uu, uu, uu, uu, uu, uu, uu, uu, uu, uu, uu, uu, uu, uu, uu, uu, uu, uu, uu, uu, uu, uu, uu, uu, uu, uu, uu, uu, uu, uu, uu, uu, uu, uu, uu, uu], hp := emp }
theorem S66_eq (n : Nat × Nat) (b0 : Int × List (Int × Int)) : S66 n b0 =
 ((bif (decide (b0.1 < 1) == false) then some (decide (b0.1 > 7))
 else some true)).bind fun b1' =>
 (bif b1' then some 1
 else (bif decide ((b0.2.length : Int) > 16) then some 3
 else L66_1 n n.1 b0.2 (b0.2.length : Int) 0 b0.1 b0.2)) := by kernel_rfl
theorem S66_run (n : Nat × Nat) (xs : pksDen pk66) : S66 n xs.1 = runG (E66 n) noScope c66 an66 (rtG rk66) (fun _ _ => none) (rtG rk66) (st0 pk66 xs Tryd.f66.ntmps) := by kernel_rfl
noncomputable def P66 (n : Nat × Nat) := phiOf pk66 rk66 (fun xs => S66 n xs.1)
theorem call66 : CallOK Tryd.prog 66 := callOK_of Tryd.func66 (by kernel_rfl) (by kernel_rfl)
theorem env66 (n : Nat × Nat) : EnvOK Tryd.prog (E66 n) := envOK0 (consPhi_ok (FC90 n) call90 noPhi_ok) rfl rfl
theorem par66 (n : Nat × Nat) : EnvPar (E66 n) := envPar0 (consPhi_par phiOf_Par1 noPhi_par) rfl
theorem FC66 (n : Nat × Nat) : FCs Tryd.prog 66 (P66 n) := phiOf_FCs fun xs r h vs hv => FC.of_runG tabOK eqsOK (env66 n) (par66 n) mixed (fun _ p _ => noScope_ok p.1 p.2) Tryd.func66 (c := c66) (an := an66) (pks := pk66) (rks := rk66) (by kernel_rfl) (by kernel_rfl) hv ((S66_run n xs).symm.trans h)
abbrev R33 := (Int × Int × Int × Int × Int × Int × Int × Int) × Int
noncomputable def c33 : Code := bodyOf Tryd.f33
noncomputable def an33 : Ann := (.s .l (.s .l (.s (.s .l (.s .l (.j [1, 2, 4] .l .l))) (.s (.s .l (.j [2, 4] (.j [2, 4, 18, 19, 20] (.s .l (.s (.j [2, 4, 18, 19, 20] .l .l) (.s (.j [2, 4, 18, 19, 20] .l .l) .l))) .l) .l)) .l))))
def pk33 : List PK := [.c (.pair (.int .i64) (.sl (.pair (.int .i64) (.int .i64))))]
def rk33 : List RK := [.box (.pair (.int .i64) (.pair (.int .u64) (.pair (.int .u64) (.pair (.int .u64) (.pair (.int .u64) (.pair (.int .u64) (.pair (.int .u64) (.int .u64)))))))) 2, .c (.int .i64) 3]
noncomputable def rt33 (st : St) : Option R33 := rtG rk33 st
noncomputable def E33 (n : Nat × Nat) : Env := { T := tab, phi := (consPhi 66 (fun _ => true) (P66 n) noPhi), eff := fun _ => false, fuel := n.1, hold := n.2 }
noncomputable def kq33_3 (n : Nat × Nat) : St → Option R33 := run (E33 n) (cB (cB (cB (cB c33)))) (Ann.snd (Ann.snd (Ann.snd (Ann.snd an33)))) rt33 (fun _ _ => none) rt33
noncomputable def xb33_5 (n : Nat × Nat) : Nat → St → Option R33 := fun j s => bif Nat.beq j 0 then normC [2, 4] s (kq33_3 n) else (fun _ _ => none) j s
noncomputable def F33_6 (n : Nat × Nat) : (St → Option R33) → St → Option R33 := fun K s => run (E33 n) (cA (cA (cB (cA (cB (cB (cB c33))))))) (Ann.fst (Ann.fst (Ann.snd (Ann.fst (Ann.snd (Ann.snd (Ann.snd an33))))))) (fun s => normC [2, 4, 18, 19, 20] s K) (xb33_5 n) rt33 s
noncomputable def L33_1 (n : Nat × Nat) (m : Nat) (v18 : List (Int × Int)) (v19 : Int) (v20 : Int) (v2_0 : Int) (v2_1 : Int) (v2_2 : Int) (v2_3 : Int) (v2_4 : Int) (v2_5 : Int) (v2_6 : Int) (v2_7 : Int) (w4_0 : Int) (w4_1 : Int) (w4_2 : Int) (w4_3 : Int) (w4_4 : Int) (w4_5 : Int) (w4_6 : Int) (w4_7 : Int) : Option R33 := loopN (F33_6 n) m { tm := [uu, uu, .ptr 2 0, uu, .ptr 4 0, uu, uu, uu, uu, uu, uu, uu, uu, uu, uu, uu, uu, uu, .c (.sl (.pair (.int .i64) (.int .i64)) v18 false), .c (.int .i64 v19), .c (.int .i64 v20), uu, uu, uu, uu, uu, uu, uu, uu, uu, uu, uu, uu, uu, uu, uu, uu], hp := (upd (upd emp 4 (.box [.int .i64 w4_0, .int .u64 w4_1, .int .u64 w4_2, .int .u64 w4_3, .int .u64 w4_4, .int .u64 w4_5, .int .u64 w4_6, .int .u64 w4_7])) 2 (.box [.int .i64 v2_0, .int .u64 v2_1, .int .u64 v2_2, .int .u64 v2_3, .int .u64 v2_4, .int .u64 v2_5, .int .u64 v2_6, .int .u64 v2_7])) }
theorem L33_1_eq (n : Nat × Nat) (m1 : Nat) (v18 : List (Int × Int)) (v19 : Int) (v20 : Int) (v2_0 : Int) (v2_1 : Int) (v2_2 : Int) (v2_3 : Int) (v2_4 : Int) (v2_5 : Int) (v2_6 : Int) (v2_7 : Int) (w4_0 : Int) (w4_1 : Int) (w4_2 : Int) (w4_3 : Int) (w4_4 : Int) (w4_5 : Int) (w4_6 : Int) (w4_7 : Int) : L33_1 n (m1 + 1) v18 v19 v20 v2_0 v2_1 v2_2 v2_3 v2_4 v2_5 v2_6 v2_7 w4_0 w4_1 w4_2 w4_3 w4_4 w4_5 w4_6 w4_7 =
 (bif decide (v20 < v19) then (idx v18 v20).bind fun x2' =>
 (bif inB 0 2 then (idx [x2'.1, x2'.2] 0).bind fun x3' =>
 (bif inB x3' 7 then (idx [w4_1, w4_2, w4_3, w4_4, w4_5, w4_6, w4_7] x3').bind fun x4' =>
 (bif inB 1 2 then (idx [x2'.1, x2'.2] 1).bind fun x5' =>
 (bif decide (x5' < 0) then none
 else (bif inB x3' 7 then L33_1 n m1 v18 v19 (wr .i64 (v20 + 1)) v2_0 v2_1 v2_2 v2_3 v2_4 v2_5 v2_6 v2_7 w4_0 (bif (x3' == 0) then wr .u64 (BitVec.ofInt (IntKind.bits .u64) x4' ||| BitVec.ofInt (IntKind.bits .u64) (wr .u64 (1 * 2 ^ (min (Int.toNat x5') (IntKind.bits .u64))))).toNat else w4_1) (bif (x3' == 1) then wr .u64 (BitVec.ofInt (IntKind.bits .u64) x4' ||| BitVec.ofInt (IntKind.bits .u64) (wr .u64 (1 * 2 ^ (min (Int.toNat x5') (IntKind.bits .u64))))).toNat else w4_2) (bif (x3' == 2) then wr .u64 (BitVec.ofInt (IntKind.bits .u64) x4' ||| BitVec.ofInt (IntKind.bits .u64) (wr .u64 (1 * 2 ^ (min (Int.toNat x5') (IntKind.bits .u64))))).toNat else w4_3) (bif (x3' == 3) then wr .u64 (BitVec.ofInt (IntKind.bits .u64) x4' ||| BitVec.ofInt (IntKind.bits .u64) (wr .u64 (1 * 2 ^ (min (Int.toNat x5') (IntKind.bits .u64))))).toNat else w4_4) (bif (x3' == 4) then wr .u64 (BitVec.ofInt (IntKind.bits .u64) x4' ||| BitVec.ofInt (IntKind.bits .u64) (wr .u64 (1 * 2 ^ (min (Int.toNat x5') (IntKind.bits .u64))))).toNat else w4_5) (bif (x3' == 5) then wr .u64 (BitVec.ofInt (IntKind.bits .u64) x4' ||| BitVec.ofInt (IntKind.bits .u64) (wr .u64 (1 * 2 ^ (min (Int.toNat x5') (IntKind.bits .u64))))).toNat else w4_6) (bif (x3' == 6) then wr .u64 (BitVec.ofInt (IntKind.bits .u64) x4' ||| BitVec.ofInt (IntKind.bits .u64) (wr .u64 (1 * 2 ^ (min (Int.toNat x5') (IntKind.bits .u64))))).toNat else w4_7)
 else none))
 else none)
 else none)
 else none)
 else some ((w4_0, w4_1, w4_2, w4_3, w4_4, w4_5, w4_6, w4_7), 0)) := by kernel_rfl
noncomputable def S33 (n : Nat × Nat) (b0 : Int × List (Int × Int)) : Option R33 := run (E33 n) c33 an33 rt33 (fun _ _ => none) rt33 { tm := [.agg [.int .i64 b0.1, .sl (.pair (.int .i64) (.int .i64)) b0.2 false], uu, uu, uu, uu, uu, uu, uu, uu, uu, uu, uu, uu, uu, uu, uu, uu, uu, uu, uu, uu, uu, uu, uu, uu, uu, uu, uu, uu, uu, uu, uu, uu, uu, uu, uu, uu], hp := emp }
theorem S33_eq (n : Nat × Nat) (b0 : Int × List (Int × Int)) : S33 n b0 =
 (S66 n b0).bind fun r1' =>
 (bif (r1' != 0) then some ((b0.1, 0, 0, 0, 0, 0, 0, 0), r1')
 else L33_1 n n.1 b0.2 (b0.2.length : Int) 0 0 0 0 0 0 0 0 0 b0.1 0 0 0 0 0 0 0) := by kernel_rfl
theorem S33_run (n : Nat × Nat) (xs : pksDen pk33) : S33 n xs.1 = runG (E33 n) noScope c33 an33 (rtG rk33) (fun _ _ => none) (rtG rk33) (st0 pk33 xs Tryd.f33.ntmps) := by kernel_rfl
noncomputable def P33 (n : Nat × Nat) := phiOf pk33 rk33 (fun xs => S33 n xs.1)
theorem call33 : CallOK Tryd.prog 33 := callOK_of Tryd.func33 (by kernel_rfl) (by kernel_rfl)
theorem env33 (n : Nat × Nat) : EnvOK Tryd.prog (E33 n) := envOK0 (consPhi_ok (FC66 n) call66 noPhi_ok) rfl rfl
theorem par33 (n : Nat × Nat) : EnvPar (E33 n) := envPar0 (consPhi_par phiOf_Par1 noPhi_par) rfl
theorem FC33 (n : Nat × Nat) : FCs Tryd.prog 33 (P33 n) := phiOf_FCs fun xs r h vs hv => FC.of_runG tabOK eqsOK (env33 n) (par33 n) mixed (fun _ p _ => noScope_ok p.1 p.2) Tryd.func33 (c := c33) (an := an33) (pks := pk33) (rks := rk33) (by kernel_rfl) (by kernel_rfl) hv ((S33_run n xs).symm.trans h)
/- (headword/see.web).judged -/
abbrev R34 := Int
noncomputable def c34 : Code := bodyOf Tryd.f34
noncomputable def an34 : Ann := (.s .l (.s .l (.s (.s .l (.j [5] (.j [1, 5, 12, 13, 14, 27, 28, 29, 30, 36, 37, 38, 39] (.s .l (.s (.j [1, 5, 12, 13, 14, 27, 28, 29, 30, 36, 37, 38, 39] .l .l) (.j [] (.j [1, 5, 12, 13, 14, 27, 28, 29, 30, 36, 37, 38, 39] (.s .l (.s .l (.j [1, 5, 12, 13, 14, 27, 28, 29, 30, 36, 37, 38, 39] (.s .l (.j [1, 5, 12, 13, 14, 27, 28, 29, 30, 36, 37, 38, 39] .l (.s .l (.j [1, 5, 12, 13, 14, 27, 28, 29, 30, 36, 37, 38, 39] .l .l)))) .l))) .l) .l))) .l) .l)) (.s (.s .l (.j [] .l .l)) .l))))
def pk34 : List PK := [.c (.pair (.int .i64) (.pair (.int .u64) (.pair (.int .u64) (.pair (.int .u64) (.pair (.int .u64) (.pair (.int .u64) (.pair (.int .u64) (.int .u64)))))))), .c (.int .u64)]
def rk34 : List RK := [.c (.int .i64) 4]
noncomputable def rt34 (st : St) : Option R34 := rtG rk34 st
noncomputable def E34 (n : Nat × Nat) : Env := { T := tab, phi := noPhi, eff := fun _ => false, fuel := n.1, hold := n.2 }
noncomputable def kq34_1 (n : Nat × Nat) : St → Option R34 := run (E34 n) (cB (cB (cB c34))) (Ann.snd (Ann.snd (Ann.snd an34))) rt34 (fun _ _ => none) rt34
noncomputable def xb34_3 (n : Nat × Nat) : Nat → St → Option R34 := fun j s => bif Nat.beq j 0 then normC [5] s (kq34_1 n) else (fun _ _ => none) j s
noncomputable def F34_4 (n : Nat × Nat) : (St → Option R34) → St → Option R34 := fun K s => run (E34 n) (cA (cA (cB (cA (cB (cB c34)))))) (Ann.fst (Ann.fst (Ann.snd (Ann.fst (Ann.snd (Ann.snd an34)))))) (fun s => normC [1, 5, 12, 13, 14, 27, 28, 29, 30, 36, 37, 38, 39] s K) (xb34_3 n) rt34 s
noncomputable def kq34_7 (n : Nat × Nat) (m1 : Nat) : St → Option R34 := run (E34 n) (cB (cB (cB (cA (cA (cB (cA (cB (cB c34))))))))) (Ann.snd (Ann.snd (Ann.snd (Ann.fst (Ann.fst (Ann.snd (Ann.fst (Ann.snd (Ann.snd an34))))))))) (fun s => normC [1, 5, 12, 13, 14, 27, 28, 29, 30, 36, 37, 38, 39] s (loopN (F34_4 n) m1)) (xb34_3 n) rt34
noncomputable def L34_1 (n : Nat × Nat) (m : Nat) (choice1 : Int) (v5 : Bool) (v12 : List Int) (v13 : Int) (v14 : Int) : Option R34 := loopN (F34_4 n) m { tm := [uu, .c (.int .u64 choice1), uu, uu, uu, .c (.bool v5), uu, uu, uu, uu, uu, uu, .c (.sl (.int .u64) v12 false), .c (.int .i64 v13), .c (.int .i64 v14), uu, uu, uu, uu, uu, uu, uu, uu, uu, uu, uu, uu, uu, uu, uu, uu, uu, uu, uu, uu, uu, uu, uu, uu, uu, uu, uu, uu], hp := emp }
noncomputable def L34_2 (n : Nat × Nat) (m1 : Nat) (choice1 : Int) (v5 : Bool) (v12 : List Int) (v13 : Int) (v14 : Int) : Option R34 := loopN (fun _ => (kq34_7 n m1)) n.2 { tm := [uu, .c (.int .u64 choice1), uu, uu, uu, .c (.bool v5), uu, uu, uu, uu, uu, uu, .c (.sl (.int .u64) v12 false), .c (.int .i64 v13), .c (.int .i64 v14), uu, uu, uu, uu, uu, uu, uu, uu, uu, uu, uu, uu, uu, uu, uu, uu, uu, uu, uu, uu, uu, uu, uu, uu, uu, uu, uu, uu], hp := emp }
theorem L34_1_eq (n : Nat × Nat) (m1 : Nat) (choice1 : Int) (v5 : Bool) (v12 : List Int) (v13 : Int) (v14 : Int) : L34_1 n (m1 + 1) choice1 v5 v12 v13 v14 =
 (bif decide (v14 < v13) then (idx v12 v14).bind fun x1' =>
 (bif decide (v14 < 0) then none
 else ((bif (((wr .u64 (BitVec.ofInt (IntKind.bits .u64) (Int.fdiv choice1 (2 ^ (min (Int.toNat v14) (IntKind.bits .u64)))) &&& BitVec.ofInt (IntKind.bits .u64) 1).toNat) == 1) == true) then some ((wr .u64 (BitVec.ofInt (IntKind.bits .u64) x1' &&& BitVec.ofInt (IntKind.bits .u64) choice1).toNat) != 0)
 else some false)).bind fun b2' =>
 (bif b2' then some 13
 else ((bif ((!((wr .u64 (BitVec.ofInt (IntKind.bits .u64) (Int.fdiv choice1 (2 ^ (min (Int.toNat v14) (IntKind.bits .u64)))) &&& BitVec.ofInt (IntKind.bits .u64) 1).toNat) == 1)) == true) then some ((wr .u64 (BitVec.ofInt (IntKind.bits .u64) x1' &&& BitVec.ofInt (IntKind.bits .u64) choice1).toNat) == 0)
 else some false)).bind fun b3' =>
 (bif b3' then L34_2 n m1 choice1 true v12 v13 v14
 else L34_2 n m1 choice1 v5 v12 v13 v14)))
 else (bif v5 then some 21
 else some 0)) := by kernel_rfl
theorem L34_2_raw (n : Nat × Nat) (m1 : Nat) (choice1 : Int) (v5 : Bool) (v12 : List Int) (v13 : Int) (v14 : Int) : (kq34_7 n m1) { tm := [uu, .c (.int .u64 choice1), uu, uu, uu, .c (.bool v5), uu, uu, uu, uu, uu, uu, .c (.sl (.int .u64) v12 false), .c (.int .i64 v13), .c (.int .i64 v14), uu, uu, uu, uu, uu, uu, uu, uu, uu, uu, uu, uu, uu, uu, uu, uu, uu, uu, uu, uu, uu, uu, uu, uu, uu, uu, uu, uu], hp := emp } =
    L34_1 n m1 choice1 v5 v12 v13 (wr .i64 (v14 + 1)) := by kernel_rfl
noncomputable def S34 (n : Nat × Nat) (w0 : Int × Int × Int × Int × Int × Int × Int × Int) (choice1 : Int) : Option R34 := run (E34 n) c34 an34 rt34 (fun _ _ => none) rt34 { tm := [.agg [.int .i64 w0.1, .int .u64 w0.2.1, .int .u64 w0.2.2.1, .int .u64 w0.2.2.2.1, .int .u64 w0.2.2.2.2.1, .int .u64 w0.2.2.2.2.2.1, .int .u64 w0.2.2.2.2.2.2.1, .int .u64 w0.2.2.2.2.2.2.2], .c (.int .u64 choice1), uu, uu, uu, uu, uu, uu, uu, uu, uu, uu, uu, uu, uu, uu, uu, uu, uu, uu, uu, uu, uu, uu, uu, uu, uu, uu, uu, uu, uu, uu, uu, uu, uu, uu, uu, uu, uu, uu, uu, uu, uu], hp := emp }
theorem S34_eq (n : Nat × Nat) (w0 : Int × Int × Int × Int × Int × Int × Int × Int) (choice1 : Int) : S34 n w0 choice1 =
 (bif bounds none (some w0.1) none 7 then L34_1 n n.1 choice1 false ([w0.2.1, w0.2.2.1, w0.2.2.2.1, w0.2.2.2.2.1, w0.2.2.2.2.2.1, w0.2.2.2.2.2.2.1, w0.2.2.2.2.2.2.2].take (Int.toNat w0.1)) (([w0.2.1, w0.2.2.1, w0.2.2.2.1, w0.2.2.2.2.1, w0.2.2.2.2.2.1, w0.2.2.2.2.2.2.1, w0.2.2.2.2.2.2.2].take (Int.toNat w0.1)).length : Int) 0
 else none) := by kernel_rfl
theorem S34_run (n : Nat × Nat) (xs : pksDen pk34) : S34 n xs.1 xs.2.1 = runG (E34 n) noScope c34 an34 (rtG rk34) (fun _ _ => none) (rtG rk34) (st0 pk34 xs Tryd.f34.ntmps) := by kernel_rfl
noncomputable def P34 (n : Nat × Nat) := phiOf pk34 rk34 (fun xs => S34 n xs.1 xs.2.1)
theorem call34 : CallOK Tryd.prog 34 := callOK_of Tryd.func34 (by kernel_rfl) (by kernel_rfl)
theorem env34 (n : Nat × Nat) : EnvOK Tryd.prog (E34 n) := envOK0 noPhi_ok rfl rfl
theorem par34 (n : Nat × Nat) : EnvPar (E34 n) := envPar0 noPhi_par rfl
theorem FC34 (n : Nat × Nat) : FCs Tryd.prog 34 (P34 n) := phiOf_FCs fun xs r h vs hv => FC.of_runG tabOK eqsOK (env34 n) (par34 n) mixed (fun _ p _ => noScope_ok p.1 p.2) Tryd.func34 (c := c34) (an := an34) (pks := pk34) (rks := rk34) (by kernel_rfl) (by kernel_rfl) hv ((S34_run n xs).symm.trans h)
end Go.Proofs.YtkfkbebinhkdlaaDoor
set_option linter.unusedVariables false
set_option linter.unusedSimpArgs false
set_option maxRecDepth 100000
namespace Go.Proofs.YtkfkbebinhkdlaaDoor
open Go.RowKit Go.Vi
def tzTab : List Int := [0, 1, 56, 2, 57, 49, 28, 3, 61, 58, 42, 50, 38, 29, 17, 4, 62, 47, 59, 36, 45, 43, 51, 22, 53, 39, 33, 30, 24, 18, 12, 5, 63, 55, 48, 27, 60, 41, 37, 16, 46, 35, 44, 21, 52, 32, 23, 11, 54, 26, 40, 15, 34, 20, 31, 10, 25, 14, 19, 9, 13, 8, 7, 6]
def tzIx (x : Int) : Int := IntKind.u64.wrap (bits BinOp.and IntKind.u64 x (IntKind.u64.wrap (-x)) * 285870213051353865) / 288230376151711744
def tzF (x q : Int) : Option Int := bif x == 0 then some 64 else bif decide (0 ≤ q) && decide (q < 64) then tzTab[q.toNat]? else none
def HF73 (x : Int) : Option Int := tzF x (tzIx x)
theorem tzF_zero {q r : Int} (h : tzF 0 q = some r) : r = 64 := by
  have : tzF 0 q = some 64 := rfl
  rw [this] at h
  exact (Option.some.inj h).symm
theorem tzF_pos {x q r : Int} (hx : (x == 0) = false) (h : tzF x q = some r) : 0 ≤ q ∧ q < 64 ∧ tzTab[q.toNat]? = some r := by
  unfold tzF at h
  rw [hx, cond_false] at h
  cases hd : decide (0 ≤ q) && decide (q < 64) with
  | true =>
    rw [hd, cond_true] at h
    simp only [Bool.and_eq_true, decide_eq_true_eq] at hd
    exact ⟨hd.1, hd.2, h⟩
  | false => rw [hd, cond_false] at h; cases h
theorem tz_zero (w : World) : Calls Tryd.prog 73 #[.int .u64 0] w fun e W' => e = .returned (.int .i64 64) ∧ w = W' := by
  go_enter Tryd.func73, Tryd.ntmps73
  go_wp2
  go_ret
  exact ⟨rfl, rfl⟩
theorem tz_in (x r : Int) (w : World) (hx : (x == 0) = false) (h0 : 0 ≤ tzIx x) (h1 : tzIx x < 64) (hr0 : 0 ≤ r) (hr1 : r ≤ 64) (hc : w.cell? ⟨1, (tzIx x).toNat, none⟩ = some (.int .u8 r)) :
    Calls Tryd.prog 73 #[.int .u64 x] w fun e W' => e = .returned (.int .i64 r) ∧ w = W' := by
  unfold tzIx at h0 h1 hc
  go_enter Tryd.func73, Tryd.ntmps73
  go_wp2
  go_ret
  exact ⟨rfl, rfl⟩
theorem tz_bd {q : Nat} {r : Int} (h : tzTab[q]? = some r) : 0 ≤ r ∧ r ≤ 64 := by
  have hb : ∀ z ∈ tzTab, 0 ≤ z ∧ z ≤ 64 := by decide +kernel
  exact hb r (List.mem_of_getElem? h)
theorem tz_cell {w : World} {cur : Array Value} {et : TypeId} {fz : Nat × Nat} {q : Nat} {r : Int} (h3 : w.heap[1]? = some (.cells cur et fz)) (h4 : cur.toList = (tzTab.map fun z => (IntKind.u8, z)).map fun p => .int p.1 p.2) (h : tzTab[q]? = some r) :
    w.cell? ⟨1, q, none⟩ = some (.int .u8 r) := by
  simp only [World.cell?, h3]
  rw [← Array.getElem?_toList, h4]
  simp [List.getElem?_map, h]
theorem HC73 (n : Nat × Nat) (xs : pksDen [.c (.int .u64)]) (r : rksDen [.c (.int .i64) 0]) (h : HF73 xs.1 = some r) (vs : List V) (hv : pksArg [.c (.int .u64)] vs = some xs) :
    FC Tryd.prog 73 vs (rets [.c (.int .i64) 0] r) := by
  obtain ⟨x, ⟨⟩⟩ := xs
  intro w A0 args hA hargs hgl
  have hv2 := pksArg_VR _ _ _ _ hv hargs
  match args, hv2 with
  | [u1], hv2 =>
    have e1 : u1 = .int .u64 x := hv2.1
    subst e1
    have key : Calls Tryd.prog 73 #[.int .u64 x] w fun e W' => e = .returned (.int .i64 (r : Int)) ∧ w = W' := by
      cases hz : x == 0 with
      | true =>
        obtain rfl : x = 0 := by simpa using hz
        obtain rfl : r = 64 := tzF_zero h
        exact tz_zero w
      | false =>
        obtain ⟨h5, h6, h7⟩ := tzF_pos hz h
        obtain ⟨h1, h2, cur, et, fz, h3, h4⟩ := hgl 1 (tzTab.map fun z => (IntKind.u8, z)) rfl
        have hr := tz_bd h7
        exact tz_in x r w hz h5 h6 hr.1 hr.2 (tz_cell h3 h4 h7)
    refine key.mono ?_
    rintro e W' ⟨rfl, rfl⟩
    exact ⟨⟨Nat.le_refl _, rfl, rfl, rfl, fun _ _ => rfl⟩, [.emp], [_], rfl, rfl, fun b c h => (by cases h), trivial⟩
end Go.Proofs.YtkfkbebinhkdlaaDoor
set_option linter.unusedVariables false
set_option linter.unusedSimpArgs false
set_option maxRecDepth 100000
namespace Go.Proofs.YtkfkbebinhkdlaaDoor
open Go.Vi
/- math/bits.TrailingZeros64 -/
abbrev R73 := Int
def pk73 : List PK := [.c (.int .u64)]
def rk73 : List RK := [.c (.int .i64) 0]
noncomputable def S73 (n : Nat × Nat) (x0 : Int) : Option R73 := HF73 x0
noncomputable def P73 (n : Nat × Nat) := phiOf pk73 rk73 (fun xs => S73 n xs.1)
theorem call73 : CallOK Tryd.prog 73 := callOK_of Tryd.func73 (by kernel_rfl) (by kernel_rfl)
theorem FC73 (n : Nat × Nat) : FCs Tryd.prog 73 (P73 n) := phiOf_FCs fun xs r h vs hv => HC73 n xs r h vs hv
/- math/bits.TrailingZeros -/
abbrev R41 := Int
noncomputable def c41 : Code := bodyOf Tryd.f41
noncomputable def an41 : Ann := (.s .l (.s (.j [0] .l .l) .l))
def pk41 : List PK := [.c (.int .u64)]
def rk41 : List RK := [.c (.int .i64) 2]
noncomputable def rt41 (st : St) : Option R41 := rtG rk41 st
noncomputable def E41 (n : Nat × Nat) : Env := { T := tab, phi := (consPhi 73 (fun _ => true) (P73 n) noPhi), eff := fun _ => false, fuel := n.1, hold := n.2 }
noncomputable def S41 (n : Nat × Nat) (x0 : Int) : Option R41 := run (E41 n) c41 an41 rt41 (fun _ _ => none) rt41 { tm := [.c (.int .u64 x0), uu, uu, uu, uu, uu, uu, uu], hp := emp }
theorem S41_eq (n : Nat × Nat) (x0 : Int) : S41 n x0 =
 (S73 n x0).bind fun r1' =>
 some r1' := by kernel_rfl
theorem S41_run (n : Nat × Nat) (xs : pksDen pk41) : S41 n xs.1 = runG (E41 n) noScope c41 an41 (rtG rk41) (fun _ _ => none) (rtG rk41) (st0 pk41 xs Tryd.f41.ntmps) := by kernel_rfl
noncomputable def P41 (n : Nat × Nat) := phiOf pk41 rk41 (fun xs => S41 n xs.1)
theorem call41 : CallOK Tryd.prog 41 := callOK_of Tryd.func41 (by kernel_rfl) (by kernel_rfl)
theorem env41 (n : Nat × Nat) : EnvOK Tryd.prog (E41 n) := envOK0 (consPhi_ok (FC73 n) call73 noPhi_ok) rfl rfl
theorem par41 (n : Nat × Nat) : EnvPar (E41 n) := envPar0 (consPhi_par phiOf_Par1 noPhi_par) rfl
theorem FC41 (n : Nat × Nat) : FCs Tryd.prog 41 (P41 n) := phiOf_FCs fun xs r h vs hv => FC.of_runG tabOK eqsOK (env41 n) (par41 n) mixed (fun _ p _ => noScope_ok p.1 p.2) Tryd.func41 (c := c41) (an := an41) (pks := pk41) (rks := rk41) (by kernel_rfl) (by kernel_rfl) hv ((S41_run n xs).symm.trans h)
abbrev R35 := List Int
noncomputable def c35 : Code := bodyOf Tryd.f35
noncomputable def an35 : Ann := (.s .l (.s .l (.s (.j [3] (.j [0, 3] (.s (.s .l (.j [0, 3] .l .l)) (.s (.j [0, 3] .l .l) .l)) .l) .l) .l)))
def pk35 : List PK := [.c (.int .u64)]
def rk35 : List RK := [.own (.int .i64) 2]
noncomputable def rt35 (st : St) : Option R35 := rtG rk35 st
noncomputable def E35 (n : Nat × Nat) : Env := { T := tab, phi := (consPhi 41 (fun _ => true) (P41 n) noPhi), eff := fun _ => false, fuel := n.1, hold := n.2 }
noncomputable def kq35_1 (n : Nat × Nat) : St → Option R35 := run (E35 n) (cB (cB (cB c35))) (Ann.snd (Ann.snd (Ann.snd an35))) rt35 (fun _ _ => none) rt35
noncomputable def xb35_3 (n : Nat × Nat) : Nat → St → Option R35 := fun j s => bif Nat.beq j 0 then normC [3] s (kq35_1 n) else (fun _ _ => none) j s
noncomputable def F35_4 (n : Nat × Nat) : (St → Option R35) → St → Option R35 := fun K s => run (E35 n) (cA (cA (cA (cB (cB c35))))) (Ann.fst (Ann.fst (Ann.fst (Ann.snd (Ann.snd an35))))) (fun s => normC [0, 3] s K) (xb35_3 n) rt35 s
noncomputable def L35_1 (n : Nat × Nat) (m : Nat) (v0 : Int) (out3 : List Int) : Option R35 := loopN (F35_4 n) m { tm := [.c (.int .u64 v0), uu, uu, .own 3 none false, uu, uu, uu, uu, uu, uu, uu, uu, uu, uu, uu, uu], hp := (upd emp 3 (.arr (.int .i64) out3 false)) }
theorem L35_1_eq (n : Nat × Nat) (m1 : Nat) (v0 : Int) (out3 : List Int) : L35_1 n (m1 + 1) v0 out3 =
 (bif (v0 != 0) then (S41 n v0).bind fun r1' =>
 (bif decide (out3.length + [r1'].length ≤ lim) then L35_1 n m1 (wr .u64 (BitVec.ofInt (IntKind.bits .u64) v0 &&& BitVec.ofInt (IntKind.bits .u64) (wr .u64 (v0 - 1))).toNat) (out3 ++ [r1'])
 else none)
 else some out3) := by kernel_rfl
noncomputable def S35 (n : Nat × Nat) (v0 : Int) : Option R35 := run (E35 n) c35 an35 rt35 (fun _ _ => none) rt35 { tm := [.c (.int .u64 v0), uu, uu, uu, uu, uu, uu, uu, uu, uu, uu, uu, uu, uu, uu, uu], hp := emp }
theorem S35_eq (n : Nat × Nat) (v0 : Int) : S35 n v0 =
    L35_1 n n.1 v0 [] := by kernel_rfl
theorem S35_run (n : Nat × Nat) (xs : pksDen pk35) : S35 n xs.1 = runG (E35 n) noScope c35 an35 (rtG rk35) (fun _ _ => none) (rtG rk35) (st0 pk35 xs Tryd.f35.ntmps) := by kernel_rfl
noncomputable def P35 (n : Nat × Nat) := phiOf pk35 rk35 (fun xs => S35 n xs.1)
theorem call35 : CallOK Tryd.prog 35 := callOK_of Tryd.func35 (by kernel_rfl) (by kernel_rfl)
theorem env35 (n : Nat × Nat) : EnvOK Tryd.prog (E35 n) := envOK0 (consPhi_ok (FC41 n) call41 noPhi_ok) rfl rfl
theorem par35 (n : Nat × Nat) : EnvPar (E35 n) := envPar0 (consPhi_par phiOf_Par1 noPhi_par) rfl
theorem FC35 (n : Nat × Nat) : FCs Tryd.prog 35 (P35 n) := phiOf_FCs fun xs r h vs hv => FC.of_runG tabOK eqsOK (env35 n) (par35 n) mixed (fun _ p _ => noScope_ok p.1 p.2) Tryd.func35 (c := c35) (an := an35) (pks := pk35) (rks := rk35) (by kernel_rfl) (by kernel_rfl) hv ((S35_run n xs).symm.trans h)
end Go.Proofs.YtkfkbebinhkdlaaDoor
/-
  slices.SortFunc at a list of at most one element: it stays as it is.
-/
set_option linter.unusedVariables false
set_option linter.unusedSimpArgs false
set_option maxRecDepth 100000
namespace Go.Proofs.YtkfkbebinhkdlaaDoor
open Go.RowKit
theorem ins_in (a : Option Addr) (L cap : Nat) (w : World) (f : Value) (hL : L ≤ 1) :
    Calls Tryd.prog 91 #[.slice a L cap, .int .i64 0, .int .i64 L, f] w fun e W' => e = .returned (.tuple #[]) ∧ w = W' := by
  go_enter Tryd.func91, Tryd.ntmps91
  go_wp2
  refine wp_loop_rounds 1 ?_
  rw [rounds_succ]
  go_wp2
  go_end0
  exact ⟨rfl, rfl⟩
theorem pdq_in (a : Option Addr) (L cap : Nat) (w : World) (f : Value) (k : Int) (hL : L ≤ 1) :
    Calls Tryd.prog 67 #[.slice a L cap, .int .i64 0, .int .i64 L, .int .i64 k, f] w fun e W' => e = .returned (.tuple #[]) ∧ w = W' := by
  go_enter Tryd.func67, Tryd.ntmps67
  go_wp2
  refine wp_loop_rounds 1 ?_
  rw [rounds_succ]
  go_wp2_with (go_at_call 91; refine (ins_in a L cap _ f hL).mono ?_; rintro e w1 ⟨rfl, rfl⟩)
  exact bodyPost_ret (results_none rfl _ _ _) rfl ⟨rfl, rfl⟩
theorem len0_in (w : World) : Calls Tryd.prog 68 #[.int .u64 0] w fun e W' => ∃ k : Int, e = .returned (.int .i64 k) ∧ w = W' := by
  have h : Calls Tryd.prog 100 #[.int .u64 0] w fun e W' => ∃ k : Int, e = .returned (.int .i64 k) ∧ w = W' := by
    go_enter Tryd.func100, Tryd.ntmps100
    go_wp2
    go_ret
    exact ⟨_, rfl, rfl⟩
  go_enter Tryd.func68, Tryd.ntmps68
  go_wp2_with (go_at_call 100; refine h.mono ?_; rintro e w1 ⟨k, rfl, rfl⟩)
  go_ret
  exact ⟨_, rfl, rfl⟩
theorem len1_in (w : World) : Calls Tryd.prog 68 #[.int .u64 1] w fun e W' => ∃ k : Int, e = .returned (.int .i64 k) ∧ w = W' := by
  have h : Calls Tryd.prog 100 #[.int .u64 1] w fun e W' => ∃ k : Int, e = .returned (.int .i64 k) ∧ w = W' := by
    go_enter Tryd.func100, Tryd.ntmps100
    go_wp2
    go_ret
    exact ⟨_, rfl, rfl⟩
  go_enter Tryd.func68, Tryd.ntmps68
  go_wp2_with (go_at_call 100; refine h.mono ?_; rintro e w1 ⟨k, rfl, rfl⟩)
  go_ret
  exact ⟨_, rfl, rfl⟩
theorem sort_in (a : Option Addr) (L cap : Nat) (w : World) (f : Value) (hL : L ≤ 1) :
    Calls Tryd.prog 36 #[.slice a L cap, f] w fun e W' => e = .returned (.tuple #[]) ∧ w = W' := by
  have key : L = 0 ∨ L = 1 := by omega
  rcases key with rfl | rfl
  · have hp := fun k => pdq_in a 0 cap w f k (by omega)
    go_enter Tryd.func36, Tryd.ntmps36
    go_wp2_with (first | (go_at_call 68; refine (len0_in _).mono ?_; rintro e w1 ⟨k, rfl, rfl⟩) | (go_at_call 67; refine (hp _).mono ?_; rintro e w1 ⟨rfl, rfl⟩))
    go_end0
    exact ⟨rfl, rfl⟩
  · have hp := fun k => pdq_in a 1 cap w f k (by omega)
    go_enter Tryd.func36, Tryd.ntmps36
    go_wp2_with (first | (go_at_call 68; refine (len1_in _).mono ?_; rintro e w1 ⟨k, rfl, rfl⟩) | (go_at_call 67; refine (hp _).mono ?_; rintro e w1 ⟨rfl, rfl⟩))
    go_end0
    exact ⟨rfl, rfl⟩
open Go.Vi
def HF36 (l : List (List Int)) : Option Unit := bif Nat.ble l.length 1 then some () else none
theorem HC36 (xs : pksDen [.c (.sl (.sl (.int .i64))), .f 37 []]) (r : rksDen []) (h : HF36 xs.1 = some r) (vs : List V) (hv : pksArg [.c (.sl (.sl (.int .i64))), .f 37 []] vs = some xs) :
    FC Tryd.prog 36 vs (rets [] r) := by
  obtain ⟨l, y, ⟨⟩⟩ := xs
  unfold HF36 at h
  obtain ⟨hl, h⟩ := cond_some h rfl
  have hl : l.length ≤ 1 := Nat.le_of_ble_eq_true hl
  intro w A0 args hA hargs hgl
  have hv2 := pksArg_VR _ _ _ _ hv hargs
  match args, hv2 with
  | [u1, u2], ⟨g0, _, _⟩ =>
    have g0 : CR w A0 (.sl (.sl (.int .i64)) l false) u1 := g0
    obtain ⟨a, cap, rfl, _⟩ := g0
    refine (sort_in a l.length cap w u2 hl).mono ?_
    rintro e W' ⟨rfl, rfl⟩
    exact ⟨⟨Nat.le_refl _, rfl, rfl, rfl, fun _ _ => rfl⟩, [], [], rfl, trivial⟩
end Go.Proofs.YtkfkbebinhkdlaaDoor
set_option linter.unusedVariables false
set_option linter.unusedSimpArgs false
set_option maxRecDepth 100000
namespace Go.Proofs.YtkfkbebinhkdlaaDoor
open Go.Vi
abbrev R36c37 := Unit
def pk36c37 : List PK := [.c (.sl (.sl (.int .i64))), .f 37 []]
def rk36c37 : List RK := []
noncomputable def S36c37 (n : Nat × Nat) (x0 : List (List Int)) : Option R36c37 := HF36 x0
noncomputable def P36c37 (n : Nat × Nat) := phiOf pk36c37 rk36c37 (fun xs => S36c37 n xs.1)
theorem call36 : CallOK Tryd.prog 36 := callOK_of Tryd.func36 (by kernel_rfl) (by kernel_rfl)
theorem FC36c37 (n : Nat × Nat) : FCs Tryd.prog 36 (P36c37 n) := phiOf_FCs fun xs r h vs hv => HC36 xs r h vs hv
abbrev R11 := List (List Int) × Int
noncomputable def c11 : Code := bodyOf Tryd.f11
noncomputable def an11 : Ann := (.s .l (.s .l (.s (.s .l (.j [4] .l .l)) (.s .l (.s (.s .l (.j [6] (.j [4, 6, 18, 19] (.s .l (.s (.j [4, 6, 18, 19] .l .l) (.j [] (.j [4, 6, 18, 19] (.s .l (.s .l (.j [4, 6, 18, 19] .l .l))) .l) .l))) .l) .l)) .l)))))
def pk11 : List PK := [.c (.pair (.int .i64) (.sl (.pair (.int .i64) (.int .i64))))]
def rk11 : List RK := [.own (.sl (.int .i64)) 2, .c (.int .i64) 3]
noncomputable def rt11 (st : St) : Option R11 := rtG rk11 st
noncomputable def E11 (n : Nat × Nat) : Env := { T := tab, phi := (consPhi 33 (fun _ => true) (P33 n) (consPhi 34 (fun _ => true) (P34 n) (consPhi 35 (fun _ => true) (P35 n) (consPhi 36 (isFns [none, some 37]) (P36c37 n) noPhi)))), eff := fun _ => false, fuel := n.1, hold := n.2 }
noncomputable def kq11_3 (n : Nat × Nat) : St → Option R11 := run (E11 n) (cB (cB (cB (cB (cB c11))))) (Ann.snd (Ann.snd (Ann.snd (Ann.snd (Ann.snd an11))))) rt11 (fun _ _ => none) rt11
noncomputable def xb11_5 (n : Nat × Nat) : Nat → St → Option R11 := fun j s => bif Nat.beq j 0 then normC [6] s (kq11_3 n) else (fun _ _ => none) j s
noncomputable def F11_6 (n : Nat × Nat) : (St → Option R11) → St → Option R11 := fun K s => run (E11 n) (cA (cA (cB (cA (cB (cB (cB (cB c11)))))))) (Ann.fst (Ann.fst (Ann.snd (Ann.fst (Ann.snd (Ann.snd (Ann.snd (Ann.snd an11)))))))) (fun s => normC [4, 6, 18, 19] s K) (xb11_5 n) rt11 s
noncomputable def kq11_9 (n : Nat × Nat) (m1 : Nat) : St → Option R11 := run (E11 n) (cB (cB (cB (cA (cA (cB (cA (cB (cB (cB (cB c11))))))))))) (Ann.snd (Ann.snd (Ann.snd (Ann.fst (Ann.fst (Ann.snd (Ann.fst (Ann.snd (Ann.snd (Ann.snd (Ann.snd an11))))))))))) (fun s => normC [4, 6, 18, 19] s (loopN (F11_6 n) m1)) (xb11_5 n) rt11
noncomputable def L11_1 (n : Nat × Nat) (m : Nat) (v18 : Int) (v19 : Int) (w4_0 : Int) (w4_1 : Int) (w4_2 : Int) (w4_3 : Int) (w4_4 : Int) (w4_5 : Int) (w4_6 : Int) (w4_7 : Int) (out6 : List (List Int)) : Option R11 := loopN (F11_6 n) m { tm := [uu, uu, uu, uu, .ptr 4 0, uu, .own 6 none false, uu, uu, uu, uu, uu, uu, uu, uu, uu, uu, uu, .c (.int .u64 v18), .c (.int .u64 v19), uu, uu, uu, uu, uu, uu, uu, uu, uu, uu, uu, uu, uu, uu, uu], hp := (upd (upd emp 6 (.arr (.sl (.int .i64)) out6 false)) 4 (.box [.int .i64 w4_0, .int .u64 w4_1, .int .u64 w4_2, .int .u64 w4_3, .int .u64 w4_4, .int .u64 w4_5, .int .u64 w4_6, .int .u64 w4_7])) }
noncomputable def L11_2 (n : Nat × Nat) (m1 : Nat) (v18 : Int) (v19 : Int) (w4_0 : Int) (w4_1 : Int) (w4_2 : Int) (w4_3 : Int) (w4_4 : Int) (w4_5 : Int) (w4_6 : Int) (w4_7 : Int) (out6 : List (List Int)) : Option R11 := loopN (fun _ => (kq11_9 n m1)) n.2 { tm := [uu, uu, uu, uu, .ptr 4 0, uu, .own 6 none false, uu, uu, uu, uu, uu, uu, uu, uu, uu, uu, uu, .c (.int .u64 v18), .c (.int .u64 v19), uu, uu, uu, uu, uu, uu, uu, uu, uu, uu, uu, uu, uu, uu, uu], hp := (upd (upd emp 6 (.arr (.sl (.int .i64)) out6 false)) 4 (.box [.int .i64 w4_0, .int .u64 w4_1, .int .u64 w4_2, .int .u64 w4_3, .int .u64 w4_4, .int .u64 w4_5, .int .u64 w4_6, .int .u64 w4_7])) }
theorem L11_1_eq (n : Nat × Nat) (m1 : Nat) (v18 : Int) (v19 : Int) (w4_0 : Int) (w4_1 : Int) (w4_2 : Int) (w4_3 : Int) (w4_4 : Int) (w4_5 : Int) (w4_6 : Int) (w4_7 : Int) (out6 : List (List Int)) : L11_1 n (m1 + 1) v18 v19 w4_0 w4_1 w4_2 w4_3 w4_4 w4_5 w4_6 w4_7 out6 =
 (bif decide (v19 < v18) then (S34 n (w4_0, w4_1, w4_2, w4_3, w4_4, w4_5, w4_6, w4_7) v19).bind fun r2' =>
 (bif (r2' == 0) then (S35 n v19).bind fun r3' =>
 (bif decide (out6.length + [r3'].length ≤ lim) then L11_2 n m1 v18 v19 w4_0 w4_1 w4_2 w4_3 w4_4 w4_5 w4_6 w4_7 (out6 ++ [r3'])
 else none)
 else L11_2 n m1 v18 v19 w4_0 w4_1 w4_2 w4_3 w4_4 w4_5 w4_6 w4_7 out6)
 else (S36c37 n out6).bind fun r4' =>
 some (out6, 0)) := by kernel_rfl
theorem L11_2_raw (n : Nat × Nat) (m1 : Nat) (v18 : Int) (v19 : Int) (w4_0 : Int) (w4_1 : Int) (w4_2 : Int) (w4_3 : Int) (w4_4 : Int) (w4_5 : Int) (w4_6 : Int) (w4_7 : Int) (out6 : List (List Int)) : (kq11_9 n m1) { tm := [uu, uu, uu, uu, .ptr 4 0, uu, .own 6 none false, uu, uu, uu, uu, uu, uu, uu, uu, uu, uu, uu, .c (.int .u64 v18), .c (.int .u64 v19), uu, uu, uu, uu, uu, uu, uu, uu, uu, uu, uu, uu, uu, uu, uu], hp := (upd (upd emp 6 (.arr (.sl (.int .i64)) out6 false)) 4 (.box [.int .i64 w4_0, .int .u64 w4_1, .int .u64 w4_2, .int .u64 w4_3, .int .u64 w4_4, .int .u64 w4_5, .int .u64 w4_6, .int .u64 w4_7])) } =
    L11_1 n m1 v18 (wr .u64 (v19 + 1)) w4_0 w4_1 w4_2 w4_3 w4_4 w4_5 w4_6 w4_7 out6 := by kernel_rfl
noncomputable def S11 (n : Nat × Nat) (b0 : Int × List (Int × Int)) : Option R11 := run (E11 n) c11 an11 rt11 (fun _ _ => none) rt11 { tm := [.agg [.int .i64 b0.1, .sl (.pair (.int .i64) (.int .i64)) b0.2 false], uu, uu, uu, uu, uu, uu, uu, uu, uu, uu, uu, uu, uu, uu, uu, uu, uu, uu, uu, uu, uu, uu, uu, uu, uu, uu, uu, uu, uu, uu, uu, uu, uu, uu], hp := emp }
theorem S11_eq (n : Nat × Nat) (b0 : Int × List (Int × Int)) : S11 n b0 =
 (S33 n b0).bind fun r1' =>
 (bif (r1'.2 != 0) then some ([], r1'.2)
 else (bif decide (r1'.1.1 < 0) then none
 else L11_1 n n.1 (wr .u64 (1 * 2 ^ (min (Int.toNat r1'.1.1) (IntKind.bits .u64)))) 0 r1'.1.1 r1'.1.2.1 r1'.1.2.2.1 r1'.1.2.2.2.1 r1'.1.2.2.2.2.1 r1'.1.2.2.2.2.2.1 r1'.1.2.2.2.2.2.2.1 r1'.1.2.2.2.2.2.2.2 [])) := by kernel_rfl
theorem S11_run (n : Nat × Nat) (xs : pksDen pk11) : S11 n xs.1 = runG (E11 n) noScope c11 an11 (rtG rk11) (fun _ _ => none) (rtG rk11) (st0 pk11 xs Tryd.f11.ntmps) := by kernel_rfl
noncomputable def P11 (n : Nat × Nat) := phiOf pk11 rk11 (fun xs => S11 n xs.1)
theorem call11 : CallOK Tryd.prog 11 := callOK_of Tryd.func11 (by kernel_rfl) (by kernel_rfl)
theorem env11 (n : Nat × Nat) : EnvOK Tryd.prog (E11 n) := envOK0 (consPhi_ok (FC33 n) call33 (consPhi_ok (FC34 n) call34 (consPhi_ok (FC35 n) call35 (consPhi_ok (FC36c37 n) call36 noPhi_ok)))) rfl rfl
theorem par11 (n : Nat × Nat) : EnvPar (E11 n) := envPar0 (consPhi_par phiOf_Par1 (consPhi_par phiOf_Par1 (consPhi_par phiOf_Par1 (consPhi_par phiOf_Par1 noPhi_par)))) rfl
theorem FC11 (n : Nat × Nat) : FCs Tryd.prog 11 (P11 n) := phiOf_FCs fun xs r h vs hv => FC.of_runG tabOK eqsOK (env11 n) (par11 n) mixed (fun _ p _ => noScope_ok p.1 p.2) Tryd.func11 (c := c11) (an := an11) (pks := pk11) (rks := rk11) (by kernel_rfl) (by kernel_rfl) hv ((S11_run n xs).symm.trans h)
end Go.Proofs.YtkfkbebinhkdlaaDoor
set_option linter.unusedVariables false
set_option linter.unusedSimpArgs false
set_option maxRecDepth 100000
namespace Go.Proofs.YtkfkbebinhkdlaaDoor
open Go.RowKit Go.Shelf
attribute [local go_sem] Oper.semAt_some
/-- What a round keeps: what lay below n₀, and the box that holds the slice. -/
def KpB (n₀ Bs : Nat) (W W' : World) : Prop := Below n₀ W W' ∧ W'.heap[Bs]? = W.heap[Bs]?
theorem KpB.refl (n₀ Bs : Nat) (W : World) : KpB n₀ Bs W W := ⟨Below.refl _ _, rfl⟩
theorem KpB.trans {n₀ Bs : Nat} {A B C : World} (h : KpB n₀ Bs A B) (k : KpB n₀ Bs B C) : KpB n₀ Bs A C := ⟨h.1.trans k.1, k.2.trans h.2⟩
theorem KpB.b {w : World} {n₀ Bs : Nat} (hn : n₀ ≤ w.heap.size) (hb : Bs < w.heap.size) (W : World) (l : Nat) (o o' : Obj) (hl : w.heap.size ≤ l) (ho : W.heap[l]? = some o) (hc : o.isCells = false) (hw : o.isWalk = false) : KpB n₀ Bs W (W.putObj l o') :=
  ⟨belowK_b hn W l o o' hl ho hc hw, World.putObj_heap_other (by omega)⟩
end Go.Proofs.YtkfkbebinhkdlaaDoor
/-
  What the walks by hand share: blocks of cells; numbers that are handed in; numbers that go out.
-/
set_option linter.unusedVariables false
set_option linter.unusedSimpArgs false
set_option maxRecDepth 100000
namespace Go.Proofs.YtkfkbebinhkdlaaDoor
open Go.RowKit Go.Shelf
/-- A block of cells. -/
def Blk (W : World) (b : Nat) (cur : Array Value) (t : TypeId) : Prop := W.heap[b]? = some (.cells cur t (0, 0))
theorem Blk.cell {W : World} {b : Nat} {cur : Array Value} {t : TypeId} (h : Blk W b cur t) (j : Nat) {v : Value} (hv : cur[j]? = some v) : W.cell? ⟨b, j, none⟩ = some v := by simp [World.cell?, show W.heap[b]? = _ from h, hv]
theorem Blk.frozen {W : World} {b : Nat} {cur : Array Value} {t : TypeId} (h : Blk W b cur t) (j : Nat) : W.frozen? ⟨b, j, none⟩ = false := by simp [World.frozen?, show W.heap[b]? = _ from h]
theorem Blk.lt {W : World} {b : Nat} {cur : Array Value} {t : TypeId} (h : Blk W b cur t) : b < W.heap.size := (Array.getElem?_eq_some_iff.1 h).1
theorem Blk.kept {W W' : World} {row : Option Nat} {b : Nat} {cur : Array Value} {t : TypeId} (h : Blk W b cur t) (hg : W.grownBy W' row) (hne : some b ≠ row) : Blk W' b cur t := (hg.block b h.lt hne).trans h
theorem Blk.alloc {W : World} {b : Nat} {cur : Array Value} {t : TypeId} (h : Blk W b cur t) (o : Obj) : Blk (W.alloc o) b cur t := h.kept (World.grownBy_alloc W o none) (by simp)
theorem Blk.new (W : World) (cur : Array Value) (t : TypeId) : Blk (W.alloc (.cells cur t)) W.heap.size cur t := World.alloc_heap_new W _
theorem Blk.set {W : World} {b : Nat} {cur : Array Value} {t : TypeId} (h : Blk W b cur t) (j : Nat) (v : Value) : Blk (W.setCell ⟨b, j, none⟩ v) b (cur.setIfInBounds j v) t := heap_setCell_same W b j cur t v h
theorem Blk.other {W : World} {b : Nat} {cur : Array Value} {t : TypeId} (h : Blk W b cur t) {b' : Nat} (j : Nat) (v : Value) (hne : b ≠ b') : Blk (W.setCell ⟨b', j, none⟩ v) b cur t :=
  (heap_setCell_other W ⟨b', j, none⟩ b v (fun e => hne e)).trans h
theorem Own.and {β : Type} {I J : β → World → Prop} (h : Own I) (k : Own J) : Own (fun s W => I s W ∧ J s W) := fun s X Y row hs hg hr => ⟨h s X Y row hs.1 hg hr, k s X Y row hs.2 hg hr⟩
open Go.Vi
end Go.Proofs.YtkfkbebinhkdlaaDoor
set_option linter.unusedVariables false
set_option linter.unusedSimpArgs false
set_option maxRecDepth 100000
namespace Go.Proofs.YtkfkbebinhkdlaaDoor
open Go.RowKit Go.Shelf
theorem assert_ptr {P : Program} (t xT e : TypeId) (v : Value) (h : P.underlying t = some (.pointer e)) (w : World) : (Instr.typeAssert (.iface t v) xT t true).run P w = .ok (.tuple #[v, .bool true]) w := by
  unfold Instr.typeAssert
  simp [run_underlying h]
theorem isT (v : Value) (w : World) : (Instr.typeAssert (.iface 89 v) 136 89 true).run Tryd.prog w = .ok (.tuple #[v, .bool true]) w := assert_ptr 89 136 133 v Tryd.underlying89 w
set_option maxHeartbeats 4000000 in
theorem many_none (b : Nat) (cur : Array Value) (w : World) (hb : Blk w b cur 133) (h0 : cur[0]? = some (.int .i64 0)) :
    Calls Tryd.prog 39 #[.iface 89 (.pointer (some ⟨b, 0, none⟩))] w fun e W' => e = .returned (.int .i64 0) ∧ Below w.heap.size w W' := by
  have c0 := hb.cell 0 h0
  have hlt := hb.lt
  go_enter Tryd.func39, Tryd.ntmps39
  go_wp2
  rw [isT]
  go_wp2
  refine bodyPost_ret (v := .int .i64 0) (by simp [results, Tryd.results39, go_sem]) rfl ⟨rfl, ?_⟩
  exact Below.refl _ w
/-- What the search reads: the web, and the search itself. -/
structure Sr (W : World) (wb ib sb : Nat) (n : Nat) (m : Nat → Nat) (cur : Array Value) : Prop where
  blk : Blk W wb cur 82
  many : cur[0]? = some (.int .i64 n)
  row : ∀ i, i < 7 → cur[1 + i]? = some (.int .u64 (m i))
  self : Blk W sb #[.func (.func 102) #[] #[.pointer (some ⟨wb, 0, none⟩), .pointer (some ⟨ib, 0, none⟩), .pointer (some ⟨sb, 0, none⟩)]] 173
/-- A way: its first word and its last one. -/
structure Pt (W : World) (pb L cap s x : Nat) (pc : Array Value) : Prop where
  blk : Blk W pb pc 3
  size : pc.size = cap
  lo : 1 ≤ L
  hi : L ≤ cap
  first : pc[0]? = some (.int .i64 s)
  last : pc[L - 1]? = some (.int .i64 x)
/-- What a call of the search leaves as it was: all but what lies behind a way. -/
structure Kept (pb L : Nat) (w W : World) : Prop where
  os : W.os = w.os
  tape : W.tape = w.tape
  output : W.output = w.output
  size : w.heap.size ≤ W.heap.size
  block : ∀ k, k < w.heap.size → k ≠ pb → W.heap[k]? = w.heap[k]?
  way : ∀ pc, Blk w pb pc 3 → ∃ pc', Blk W pb pc' 3 ∧ pc'.size = pc.size ∧ ∀ j, j < L → pc'[j]? = pc[j]?
theorem Kept.refl (pb L : Nat) (w : World) : Kept pb L w w := ⟨rfl, rfl, rfl, Nat.le_refl _, fun _ _ _ => rfl, fun pc h => ⟨pc, h, rfl, fun _ _ => rfl⟩⟩
theorem Kept.trans {pb L : Nat} {a b c : World} (h : Kept pb L a b) (k : Kept pb L b c) : Kept pb L a c :=
  ⟨k.os.trans h.os, k.tape.trans h.tape, k.output.trans h.output, Nat.le_trans h.size k.size, fun i hi hne => (k.block i (Nat.lt_of_lt_of_le hi h.size) hne).trans (h.block i hi hne), fun pc hp => by
    obtain ⟨p1, h1, h2, h3⟩ := h.way pc hp
    obtain ⟨p2, h4, h5, h6⟩ := k.way p1 h1
    exact ⟨p2, h4, h5.trans h2, fun j hj => (h6 j hj).trans (h3 j hj)⟩⟩
theorem Kept.mono {pb L L' : Nat} {a b : World} (h : Kept pb L a b) (hl : L' ≤ L) : Kept pb L' a b :=
  ⟨h.os, h.tape, h.output, h.size, h.block, fun pc hp => by
    obtain ⟨p1, h1, h2, h3⟩ := h.way pc hp
    exact ⟨p1, h1, h2, fun j hj => h3 j (Nat.lt_of_lt_of_le hj hl)⟩⟩
theorem Kept.of_below {pb L : Nat} {a b : World} (h : Below a.heap.size a b) : Kept pb L a b :=
  ⟨h.os, h.tape, h.output, h.size, fun k hk _ => h.block k hk, fun pc hp => ⟨pc, (h.block pb hp.lt).trans hp, rfl, fun _ _ => rfl⟩⟩
theorem and7 : ((List.range 128).all fun a => (List.range 128).all fun b => bits BinOp.and IntKind.u64 (a : Int) (b : Int) == ((a &&& b : Nat) : Int)) = true := by decide +kernel
theorem bits_and {a b : Nat} (ha : a < 128) (hb : b < 128) : bits BinOp.and IntKind.u64 (a : Int) (b : Int) = ((a &&& b : Nat) : Int) := by
  have := List.all_eq_true.1 (List.all_eq_true.1 and7 a (List.mem_range.2 ha)) b (List.mem_range.2 hb)
  simpa using this
theorem bit7 : ((List.range 128).all fun a => (List.range 7).all fun b => (bits BinOp.and IntKind.u64 ((a : Int) / 2 ^ b) 1 == 1) == a.testBit b) = true := by decide +kernel
theorem bits_bit {a b : Nat} (ha : a < 128) (hb : b < 7) : (bits BinOp.and IntKind.u64 ((a : Int) / 2 ^ b) 1 == 1) = a.testBit b := by
  have := List.all_eq_true.1 (List.all_eq_true.1 bit7 a (List.mem_range.2 ha)) b (List.mem_range.2 hb)
  simpa using this
theorem Sr.kept {w W : World} {wb ib sb n pb L : Nat} {m : Nat → Nat} {cur : Array Value} (h : Sr w wb ib sb n m cur) (hK : Kept pb L w W) (h1 : wb ≠ pb) (h2 : sb ≠ pb) : Sr W wb ib sb n m cur :=
  ⟨(hK.block wb h.blk.lt h1).trans h.blk, h.many, h.row, (hK.block sb h.self.lt h2).trans h.self⟩
theorem Pt.kept {w W : World} {pb L cap s x : Nat} {pc : Array Value} (h : Pt w pb L cap s x pc) (hK : Kept pb L w W) : ∃ pc', Pt W pb L cap s x pc' := by
  obtain ⟨p1, h1, h2, h3⟩ := hK.way pc h.blk
  have := h.lo
  exact ⟨p1, h1, h2.trans h.size, h.lo, h.hi, (h3 0 (by omega)).trans h.first, (h3 (L - 1) (by omega)).trans h.last⟩
theorem Pt.alloc {W : World} {pb L cap s x : Nat} {pc : Array Value} (h : Pt W pb L cap s x pc) (o : Obj) : Pt (W.alloc o) pb L cap s x pc := ⟨h.blk.alloc o, h.size, h.lo, h.hi, h.first, h.last⟩
theorem Pt.drew {W : World} {pb L cap s x : Nat} {pc : Array Value} (h : Pt W pb L cap s x pc) : Pt W.drew pb L cap s x pc := ⟨h.blk, h.size, h.lo, h.hi, h.first, h.last⟩
theorem info3 : (Tryd.prog.info? 3).map (fun i => (i.zero, i.size, i.bytes)) = some (some (.int .i64 0), 1, 8) := by kernel_rfl
/-- A way is made longer by a word. -/
theorem way_more {W : World} {pb L cap s x t h : Nat} {pc : Array Value} (hp : Pt W pb L cap s x pc) (hh : W.cell? ⟨h, 0, none⟩ = some (.int .i64 t)) (hL : L ≤ 1000) (ty : TypeId) :
    ∃ (b' cap' : Nat) (W' : World) (pc' : Array Value), (Builtin.append_ #[29, 29] ty #[.slice (some ⟨pb, 0, none⟩) L cap, .slice (some ⟨h, 0, none⟩) 1 1]).run Tryd.prog W = .ok (.slice (some ⟨b', 0, none⟩) (L + 1) cap') W' ∧
      Pt W' b' (L + 1) cap' s t pc' ∧ Kept pb L W W' ∧ (b' = pb ∨ W.heap.size ≤ b') := by
  obtain ⟨i, hi, hz0, hz1, hz2⟩ := info_parts info3
  have hu : Tryd.prog.underlying 29 = some (.slice 3) := Tryd.underlying29
  have hlo := hp.lo
  have hsz := hp.size
  have hS : Src Tryd.prog i.size 29 (.slice (some ⟨h, 0, none⟩) 1 1) 1 [.int .i64 t] W := Src.ofSlice W hu ⟨h, 0, none⟩ 1 1 _ (by rw [hz1]; rfl) (fun j u hj => by
    match j, hj with
    | 0, hj => cases hj; exact hh) (fun u hu => by rw [List.mem_singleton.1 hu]; rfl)
  by_cases hr : L + 1 ≤ cap
  · have hrun := run_append_room_src (P := Tryd.prog) W 29 29 ty 3 i hu hi pb 0 L cap _ 1 _ hS hr (fun j hj => by
      have hj : j < 1 := hj
      have e : 0 + L * i.size + j = L := by rw [hz1]; omega
      rw [e, hp.blk.cell L (Array.getElem?_eq_getElem (by omega))]
      rfl) (fun j _ => hp.blk.frozen _)
    have e : 0 + L * i.size = L := by rw [hz1]; omega
    rw [e] at hrun
    have hb := hp.blk.set L (.int .i64 t)
    refine ⟨pb, cap, _, _, hrun, ⟨hb, by simp [hsz], by omega, hr, ?_, ?_⟩, ⟨rfl, rfl, rfl, by simp [World.setCells, World.setCell], fun k hk hne => Below.heap_setCell _ _ _ _ hne, fun pc0 h0 => ⟨_, h0.set L _, by simp, fun j hj => ?_⟩⟩, .inl rfl⟩
    · rw [Array.getElem?_setIfInBounds_ne (by omega)]; exact hp.first
    · rw [show L + 1 - 1 = L by omega, Array.getElem?_setIfInBounds_self_of_lt (by omega)]
    · rw [Array.getElem?_setIfInBounds_ne (by omega)]
  · have hcap : cap = L := by have := hp.hi; omega
    have hol : (pc.toList.take L).length = L * i.size := by rw [List.length_take, Array.length_toList, hz1]; omega
    have hrun := run_append_grow_src (P := Tryd.prog) W 29 29 ty 3 i (.int .i64 0) hu hi hz0 (some ⟨pb, 0, none⟩) L cap (pc.toList.take L) (run_firstCells_some W.drew i.size L ⟨pb, 0, none⟩ L cap _ hol (fun j u hj => by
      have hj2 : j < L := by
        have := (List.getElem?_eq_some_iff.1 hj).1
        rw [List.length_take] at this
        omega
      rw [List.getElem?_take_of_lt hj2, Array.getElem?_toList] at hj
      rw [Addr.add_lit, Nat.zero_add]
      exact hp.drew.blk.cell j hj)) _ 1 _ hS (by omega) (by omega) (by
        rw [hz2]
        exact growslice_fits (by omega) (by omega))
    have hg := grownCap_ge W (L + 1) cap 3
    refine ⟨_, _, _, _, hrun, ⟨Blk.new W.drew _ _, ?_, by omega, hg, ?_, ?_⟩, Kept.of_below (((Below.refl _ W).drew).alloc (Nat.le_refl _) _), .inr (Nat.le_refl _)⟩
    · rw [Array.size_append, size_zeroCells, List.size_toArray, List.length_append, hol, hz1]
      show L * 1 + 1 + (grownCap W (L + 1) cap 3 - (L + 1)) * 1 = _
      omega
    · rw [Array.getElem?_append_left (by rw [List.size_toArray, List.length_append, hol, hz1]; simp)]
      rw [List.getElem?_toArray, List.getElem?_append_left (by rw [hol, hz1]; omega), List.getElem?_take_of_lt (by omega), Array.getElem?_toList]
      exact hp.first
    · rw [Array.getElem?_append_left (by rw [List.size_toArray, List.length_append, hol, hz1]; simp)]
      rw [List.getElem?_toArray, List.getElem?_append_right (by rw [hol, hz1]; omega), hol, hz1]
      rw [show L + 1 - 1 - L * 1 = 0 by omega]
      rfl
/-- A way is made longer by a word: a step of a region. -/
theorem step_way {ops : Array Oper} {o : Oper} {a : Act} {W : World} {K : Act → World → Prop} {Q : Exit → Act → World → Prop} {E : Prop} (hg : o.guard = none) (sl v : Operand)
    (hop : o.op = Op.call { callee := Callee.builtin Builtin.append, args := #[sl, v], argTypes := #[29, 29] }) {pb L cap s x t h : Nat} {pc : Array Value}
    (hs : a.eval sl = .slice (some ⟨pb, 0, none⟩) L cap) (hv : a.eval v = .slice (some ⟨h, 0, none⟩) 1 1) (hp : Pt W pb L cap s x pc) (hh : W.cell? ⟨h, 0, none⟩ = some (.int .i64 t)) (hL : L ≤ 1000)
    (hK : ∀ (b' cap' : Nat) (W' : World) (pc' : Array Value), Pt W' b' (L + 1) cap' s t pc' → Kept pb L W W' → (b' = pb ∨ W.heap.size ≤ b') → K (a.put o.dst (.slice (some ⟨b', 0, none⟩) (L + 1) cap')) W') :
    if Region.wanted o (yielded ops a.tmps) = true then Oper.wp Tryd.prog o a W K Q else E := by
  have hw : Region.wanted o (yielded ops a.tmps) = true := by simp [Region.wanted, hg]
  rw [if_pos hw]
  obtain ⟨b', cap', W', pc', hrun, h1, h2, h3⟩ := way_more hp hh hL o.type
  unfold Oper.wp
  simp [execOp, hop, resolve, invoke, builtin, hs, hv, hrun, Result.andThen]
  exact hK b' cap' W' pc' h1 h2 h3
theorem Kept.call {pb L pb' : Nat} {w W W' : World} (h : Kept pb L w W) (k : Kept pb' (L + 1) W W') (hb : pb' = pb ∨ w.heap.size ≤ pb') : Kept pb L w W' := by
  rcases hb with rfl | hb
  · exact h.trans (k.mono (Nat.le_succ _))
  · refine ⟨k.os.trans h.os, k.tape.trans h.tape, k.output.trans h.output, Nat.le_trans h.size k.size, fun i hi hne => (k.block i (Nat.lt_of_lt_of_le hi h.size) (by omega)).trans (h.block i hi hne), fun pc hp => ?_⟩
    obtain ⟨p1, h1, h2, h3⟩ := h.way pc hp
    have hlt := hp.lt
    exact ⟨p1, (k.block pb h1.lt (by omega)).trans h1, h2, h3⟩
/-- A set without a word. -/
def clr (k t : Nat) : Nat := if k.testBit t then k - 2 ^ t else k
theorem clr7 : ((List.range 128).all fun a => (List.range 7).all fun b => (bits BinOp.andNot IntKind.u64 (a : Int) (IntKind.u64.wrap (2 ^ b)) == ((clr a b : Nat) : Int)) && (!a.testBit b || decide (clr a b < a))) = true := by decide +kernel
theorem bits_clr {a b : Nat} (ha : a < 128) (hb : b < 7) : bits BinOp.andNot IntKind.u64 (a : Int) (IntKind.u64.wrap (2 ^ b)) = ((clr a b : Nat) : Int) := by
  have := List.all_eq_true.1 (List.all_eq_true.1 clr7 a (List.mem_range.2 ha)) b (List.mem_range.2 hb)
  rw [Bool.and_eq_true] at this
  exact eq_of_beq this.1
theorem clr_lt {a b : Nat} (ha : a < 128) (hb : b < 7) (h : a.testBit b = true) : clr a b < a := by
  have := List.all_eq_true.1 (List.all_eq_true.1 clr7 a (List.mem_range.2 ha)) b (List.mem_range.2 hb)
  rw [Bool.and_eq_true, h] at this
  simpa using this.2
theorem low7 : ((List.range 128).all fun a => decide (a = 0) || (bits BinOp.and IntKind.u64 (a : Int) ((a : Int) - 1) == ((a &&& (a - 1) : Nat) : Int))) = true := by decide +kernel
theorem bits_low {a : Nat} (ha : a < 128) (h0 : a ≠ 0) : bits BinOp.and IntKind.u64 (a : Int) ((a : Int) - 1) = ((a &&& (a - 1) : Nat) : Int) := by
  have := List.all_eq_true.1 low7 a (List.mem_range.2 ha)
  rw [Bool.or_eq_true, decide_eq_true_eq] at this
  exact eq_of_beq (this.resolve_left h0)
theorem low_step {u x k : Nat} {m : Nat → Nat} (h0 : u ≠ 0) (hu : u < 128) (hsub : ∀ j, u.testBit j = true → (m x).testBit j = true ∧ k.testBit j = true) :
    (u &&& (u - 1)) < 128 ∧ (∀ j, (u &&& (u - 1)).testBit j = true → (m x).testBit j = true ∧ k.testBit j = true) ∧ (u &&& (u - 1)) < u := by
  have h1 : (u &&& (u - 1)) ≤ u - 1 := Nat.and_le_right
  refine ⟨by omega, fun j hj => hsub j ?_, by omega⟩
  rw [Nat.testBit_and, Bool.and_eq_true] at hj
  exact hj.1
/-- Trailing zeros, in each world that comes up. -/
def Tz (pb L : Nat) (w : World) : Prop := ∀ W : World, Kept pb L w W → ∀ u : Nat, u ≠ 0 → u < 128 → ∃ t : Nat, t < 7 ∧ u.testBit t = true ∧ Calls Tryd.prog 41 #[.int .u64 u] W fun e W' => e = .returned (.int .i64 t) ∧ Below W.heap.size W W'
/-- The search goes on from a longer way. -/
def Rec (wb ib sb pb L s x k : Nat) (m : Nat → Nat) (w : World) : Prop := ∀ (b' cap' t : Nat) (pc' : Array Value) (W : World), t < 7 → (m x).testBit t = true → k.testBit t = true → Pt W b' (L + 1) cap' s t pc' → Kept pb L w W → (b' = pb ∨ w.heap.size ≤ b') →
  Calls Tryd.prog 102 #[.slice (some ⟨b', 0, none⟩) (L + 1) cap', .int .u64 (clr k t : Nat), .pointer (some ⟨wb, 0, none⟩), .pointer (some ⟨ib, 0, none⟩), .pointer (some ⟨sb, 0, none⟩)] W fun e W' => e = .returned (.tuple #[]) ∧ Kept b' (L + 1) W W'
set_option maxHeartbeats 4000000 in
theorem circ_step (wb ib sb pb L cap n s x k : Nat) (m : Nat → Nat) (cur pc : Array Value) (w : World) (hm : ∀ i, m i < 128) (hk : k < 128) (hw : Sr w wb ib sb n m cur) (hp : Pt w pb L cap s x pc) (hx : x < 7) (hL : 1 < L) (hL9 : L < 1000) (hs : s < 7)
    (hc : (m x).testBit s = false) (hwp : wb ≠ pb) (hsp : sb ≠ pb) (htz : Tz pb L w) (hrec : Rec wb ib sb pb L s x k m w) :
    Calls Tryd.prog 102 #[.slice (some ⟨pb, 0, none⟩) L cap, .int .u64 k, .pointer (some ⟨wb, 0, none⟩), .pointer (some ⟨ib, 0, none⟩), .pointer (some ⟨sb, 0, none⟩)] w fun e W' => e = .returned (.tuple #[]) ∧ Kept pb L w W' := by
  have b0 := hw.blk.cell 0 hw.many
  have bx := hw.blk.cell (1 + x) (hw.row x hx)
  have c0 := hp.blk.cell 0 hp.first
  have cl := hp.blk.cell (L - 1) hp.last
  have e1 : wrap64 ((L : Int) - 1) = ((L - 1 : Nat) : Int) := by unfold wrap64; omega
  have e2 : L - 1 < L := by omega
  have hn := (bits_bit (hm x) hs).trans hc
  have ha := bits_and (hm x) hk
  go_enter Tryd.func102, Tryd.ntmps102
  go_wp2
  clear hn ha e1 e2 b0 bx c0 cl
  go_loopw [8] (fun i wr => ∃ u : Nat, i = .int .u64 u ∧ u < 128 ∧ (∀ j, u.testBit j = true → (m x).testBit j = true ∧ k.testBit j = true) ∧ Kept pb L w wr) (fun i _ => (intOf i).toNat)
  case atStart => exact ⟨m x &&& k, rfl, Nat.lt_of_le_of_lt Nat.and_le_left (hm x), fun j hj => by rw [Nat.testBit_and, Bool.and_eq_true] at hj; exact hj, Kept.refl _ _ _⟩
  case round =>
    obtain ⟨u, rfl, hu, hsub, hK⟩ := hrel
    by_cases hz : u = 0
    · subst hz
      go_wp2
      go_end0
      exact ⟨rfl, hK⟩
    · obtain ⟨t, ht, hut, hct⟩ := htz wr hK u hz hu
      obtain ⟨hxt, hkt⟩ := hsub t hut
      have hlow := low_step hz hu hsub
      have hr := fun b' cap' pc' W => hrec b' cap' t pc' W ht hxt hkt
      have hq := bits_clr hk ht
      have hl := bits_low hu hz
      have HZ : Hid (u ≠ 0) := hz
      have hz' : (u : Int) ≠ 0 := by omega
      clear hz
      go_wp2_with (go_at_call 41; refine hct.mono ?_; rintro e W1 ⟨rfl, hB1⟩)
      have hK1 := hK.trans (Kept.of_below (pb := pb) (L := L) hB1)
      have hw1 := hw.kept hK1 hwp hsp
      obtain ⟨pc1, hp1⟩ := hp.kept hK1
      clear hp hw hct htz hB1 hK hrec
      have hs1 := hw1.self.cell 0 rfl
      have hsl := hw1.self.lt
      go_region_law (first | (refine step_way (h := W1.heap.size) (t := t) (L := L) (cap := cap) rfl (.tmp 46) (.tmp 48) rfl (by simp [Act.eval, Act.put]) (by simp [Act.eval, Act.put]) (hp1.alloc _).drew (by simp) (by omega) ?_; intro b' cap' W4 pc4 hp4 hK4 hb4; replace hK4 := (Kept.of_below (pb := pb) (L := L) (((Below.refl _ W1).alloc (Nat.le_refl _) _).drew)).trans hK4; have hw4 := (hw1).kept hK4 hwp hsp; have hs4 := hw4.self.cell 0 rfl) | (go_simp; go_at_call 102; refine (hr b' cap' pc4 W4 hp4 (hK1.trans hK4) (hb4.imp id fun h => Nat.le_trans hK1.size (Nat.le_trans (by simp) h))).mono ?_; rintro e W5 ⟨rfl, hK5⟩))
      all_goals
        have hK9 := (hK1.trans hK4).call hK5 (hb4.imp id fun h => Nat.le_trans hK1.size (Nat.le_trans (by simp) h))
        clear hs1 hs4 hr hq hsl hp1 hp4 hw1 hw4 hK4 hK5 hb4 hK1
        go_wp2
        exact ⟨⟨u &&& (u - 1), rfl, hlow.1, hlow.2.1, hK9⟩, by have := hlow.2.2; simp [intOf]; omega⟩
set_option maxHeartbeats 4000000 in
theorem circ_one (wb ib sb pb cap n s k : Nat) (m : Nat → Nat) (cur pc : Array Value) (w : World) (hm : ∀ i, m i < 128) (hk : k < 128) (hw : Sr w wb ib sb n m cur) (hp : Pt w pb 1 cap s s pc) (hs : s < 7)
    (hwp : wb ≠ pb) (hsp : sb ≠ pb) (htz : Tz pb 1 w) (hrec : Rec wb ib sb pb 1 s s k m w) :
    Calls Tryd.prog 102 #[.slice (some ⟨pb, 0, none⟩) 1 cap, .int .u64 k, .pointer (some ⟨wb, 0, none⟩), .pointer (some ⟨ib, 0, none⟩), .pointer (some ⟨sb, 0, none⟩)] w fun e W' => e = .returned (.tuple #[]) ∧ Kept pb 1 w W' := by
  have b0 := hw.blk.cell 0 hw.many
  have bx := hw.blk.cell (1 + s) (hw.row s hs)
  have c0 := hp.blk.cell 0 hp.first
  have ha := bits_and (hm s) hk
  go_enter Tryd.func102, Tryd.ntmps102
  go_wp2
  clear ha b0 bx c0
  go_loopw [8] (fun i wr => ∃ u : Nat, i = .int .u64 u ∧ u < 128 ∧ (∀ j, u.testBit j = true → (m s).testBit j = true ∧ k.testBit j = true) ∧ Kept pb 1 w wr) (fun i _ => (intOf i).toNat)
  case atStart => exact ⟨m s &&& k, rfl, Nat.lt_of_le_of_lt Nat.and_le_left (hm s), fun j hj => by rw [Nat.testBit_and, Bool.and_eq_true] at hj; exact hj, Kept.refl _ _ _⟩
  case round =>
    obtain ⟨u, rfl, hu, hsub, hK⟩ := hrel
    by_cases hz : u = 0
    · subst hz
      go_wp2
      go_end0
      exact ⟨rfl, hK⟩
    · obtain ⟨t, ht, hut, hct⟩ := htz wr hK u hz hu
      obtain ⟨hxt, hkt⟩ := hsub t hut
      have hlow := low_step hz hu hsub
      have hr := fun b' cap' pc' W => hrec b' cap' t pc' W ht hxt hkt
      have hq := bits_clr hk ht
      have hl := bits_low hu hz
      have HZ : Hid (u ≠ 0) := hz
      have hz' : (u : Int) ≠ 0 := by omega
      clear hz
      go_wp2_with (go_at_call 41; refine hct.mono ?_; rintro e W1 ⟨rfl, hB1⟩)
      have hK1 := hK.trans (Kept.of_below (pb := pb) (L := 1) hB1)
      have hw1 := hw.kept hK1 hwp hsp
      obtain ⟨pc1, hp1⟩ := hp.kept hK1
      clear hp hw hct htz hB1 hK hrec
      have hs1 := hw1.self.cell 0 rfl
      have hsl := hw1.self.lt
      go_region_law (first | (refine step_way (h := W1.heap.size) (t := t) (L := 1) (cap := cap) rfl (.tmp 46) (.tmp 48) rfl (by simp [Act.eval, Act.put]) (by simp [Act.eval, Act.put]) (hp1.alloc _).drew (by simp) (by omega) ?_; intro b' cap' W4 pc4 hp4 hK4 hb4; replace hK4 := (Kept.of_below (pb := pb) (L := 1) (((Below.refl _ W1).alloc (Nat.le_refl _) _).drew)).trans hK4; have hw4 := (hw1).kept hK4 hwp hsp; have hs4 := hw4.self.cell 0 rfl) | (go_simp; go_at_call 102; refine (hr b' cap' pc4 W4 hp4 (hK1.trans hK4) (hb4.imp id fun h => Nat.le_trans hK1.size (Nat.le_trans (by simp) h))).mono ?_; rintro e W5 ⟨rfl, hK5⟩))
      all_goals
        have hK9 := (hK1.trans hK4).call hK5 (hb4.imp id fun h => Nat.le_trans hK1.size (Nat.le_trans (by simp) h))
        clear hs1 hs4 hr hq hsl hp1 hp4 hw1 hw4 hK4 hK5 hb4 hK1
        go_wp2
        exact ⟨⟨u &&& (u - 1), rfl, hlow.1, hlow.2.1, hK9⟩, by have := hlow.2.2; simp [intOf]; omega⟩
theorem Pt.first_last {W : World} {pb cap s x : Nat} {pc : Array Value} (h : Pt W pb 1 cap s x pc) : s = x := by
  have h1 := h.first
  have h2 := h.last
  rw [show 1 - 1 = 0 from rfl, h1] at h2
  injection h2 with h2
  injection h2 with _ h2
  omega
/-- The search, wherever it stands. -/
theorem circ_in (B0 wb ib sb n : Nat) (m : Nat → Nat) (cur : Array Value) (hm : ∀ i, m i < 128) (hirr : ∀ i, (m i).testBit i = false) (htr : ∀ i j l, (m i).testBit j = true → (m j).testBit l = true → (m i).testBit l = true)
    (G : World → Prop) (hG : ∀ (pb L : Nat) (w W : World), B0 ≤ pb → B0 ≤ w.heap.size → G w → Kept pb L w W → G W)
    (htz : ∀ W, G W → ∀ u : Nat, u ≠ 0 → u < 128 → ∃ t : Nat, t < 7 ∧ u.testBit t = true ∧ Calls Tryd.prog 41 #[.int .u64 u] W fun e W' => e = .returned (.int .i64 t) ∧ Below W.heap.size W W') :
    ∀ (d k pb L cap s x : Nat) (pc : Array Value) (w : World), k < d → k < 128 → L + k ≤ 200 → B0 ≤ pb → B0 ≤ w.heap.size → G w → Sr w wb ib sb n m cur → Pt w pb L cap s x pc → s < 7 → x < 7 → wb ≠ pb → sb ≠ pb → (L = 1 ∨ (m s).testBit x = true) →
    Calls Tryd.prog 102 #[.slice (some ⟨pb, 0, none⟩) L cap, .int .u64 k, .pointer (some ⟨wb, 0, none⟩), .pointer (some ⟨ib, 0, none⟩), .pointer (some ⟨sb, 0, none⟩)] w fun e W' => e = .returned (.tuple #[]) ∧ Kept pb L w W'
  | 0, k, pb, L, cap, s, x, pc, w, hd, _, _, _, _, _, _, _, _, _, _, _, _ => by omega
  | d + 1, k, pb, L, cap, s, x, pc, w, hd, hk, hLk, hB, hBw, hg, hw, hp, hs, hx, hwp, hsp, hsx => by
    have hlo := hp.lo
    have hwl := hw.blk.lt
    have hsl := hw.self.lt
    have hpl := hp.blk.lt
    have hT : Tz pb L w := fun W hK u h0 hu => htz W (hG pb L w W hB hBw hg hK) u h0 hu
    have hrec : Rec wb ib sb pb L s x k m w := fun b' cap' t pc' W ht hxt hkt hp' hK hb => by
      have hlt := clr_lt hk ht hkt
      have hst : (m s).testBit t = true := by
        rcases hsx with rfl | h
        · obtain rfl := hp.first_last; exact hxt
        · exact htr s x t h hxt
      exact circ_in B0 wb ib sb n m cur hm hirr htr G hG htz d (clr k t) b' (L + 1) cap' s t pc' W (by omega) (by omega) (by omega) (by rcases hb with rfl | h <;> omega) (Nat.le_trans hBw hK.size) (hG pb L w W hB hBw hg hK) (hw.kept hK hwp hsp) hp' hs ht (by rcases hb with rfl | h <;> omega) (by rcases hb with rfl | h <;> omega) (.inr hst)
    by_cases h1 : L = 1
    · subst h1
      obtain rfl := hp.first_last
      exact circ_one wb ib sb pb cap n s k m cur pc w hm hk hw hp hs hwp hsp hT hrec
    · have h2 : (m s).testBit x = true := hsx.resolve_left h1
      have hc : (m x).testBit s = false := by
        cases h : (m x).testBit s with
        | false => rfl
        | true => have := htr s x s h2 h; rw [hirr s] at this; cases this
      exact circ_step wb ib sb pb L cap n s x k m cur pc w hm hk hw hp hx (by omega) (by omega) hs hc hwp hsp hT hrec
abbrev webI (n : Nat) (m : Nat → Nat) : Array Value := #[.int .i64 n, .int .u64 (m 0), .int .u64 (m 1), .int .u64 (m 2), .int .u64 (m 3), .int .u64 (m 4), .int .u64 (m 5), .int .u64 (m 6)]
theorem Kept.low {B0 pb L : Nat} {w0 w W : World} (hB : B0 ≤ pb) (hw : B0 ≤ w.heap.size) (h : Below B0 w0 w) (k : Kept pb L w W) : Below B0 w0 W :=
  h.trans ⟨k.os, k.tape, k.output, k.size, fun i hi => k.block i (by omega) (by omega)⟩
/-- Where the search begins. -/
theorem start_sr (w : World) (n : Nat) (m : Nat → Nat) (g : Value) :
    Blk (((w.alloc (.cells (webI n m) 82)).alloc (.cells #[g] 136)).alloc (.cells #[.nilFunc] 173)) (w.heap.size + 1 + 1) #[.nilFunc] 173 := by
  have := Blk.new ((w.alloc (.cells (webI n m) 82)).alloc (.cells #[g] 136)) #[.nilFunc] 173
  rwa [World.size_alloc, World.size_alloc] at this
theorem web_row (n : Nat) (m : Nat → Nat) : ∀ i, i < 7 → (webI n m)[1 + i]? = some (.int .u64 (m i))
  | 0, _ => rfl
  | 1, _ => rfl
  | 2, _ => rfl
  | 3, _ => rfl
  | 4, _ => rfl
  | 5, _ => rfl
  | 6, _ => rfl
  | i + 7, h => absurd h (by omega)
theorem msk8 : ((List.range 8).all fun n => (List.range 8).all fun y => bits BinOp.andNot IntKind.u64 (IntKind.u64.wrap (IntKind.u64.wrap (2 ^ n) - 1)) (IntKind.u64.wrap (IntKind.u64.wrap (2 ^ y) - 1)) == ((2 ^ n - 2 ^ y : Nat) : Int)) = true := by decide +kernel
theorem bits_msk {n y : Nat} (hn : n < 8) (hy : y < 8) : bits BinOp.andNot IntKind.u64 (IntKind.u64.wrap (IntKind.u64.wrap (2 ^ n) - 1)) (IntKind.u64.wrap (IntKind.u64.wrap (2 ^ y) - 1)) = ((2 ^ n - 2 ^ y : Nat) : Int) := by
  have := List.all_eq_true.1 (List.all_eq_true.1 msk8 n (List.mem_range.2 hn)) y (List.mem_range.2 hy)
  exact eq_of_beq this
set_option maxHeartbeats 4000000 in
theorem circles_in (B0 n : Nat) (m : Nat → Nat) (w0 w : World) (g : Value) (hn : 1 ≤ n) (hn7 : n ≤ 7) (hm : ∀ i, m i < 128) (hB : B0 ≤ w.heap.size) (h0 : Below B0 w0 w)
    (hdo : ∀ (k pb L cap s x wb ib sb : Nat) (cur pc : Array Value) (W : World), k < 128 → L + k ≤ 200 → B0 ≤ pb → B0 ≤ W.heap.size → Below B0 w0 W → Sr W wb ib sb n m cur → Pt W pb L cap s x pc → s < 7 → x < 7 → wb ≠ pb → sb ≠ pb → (L = 1 ∨ (m s).testBit x = true) →
      Calls Tryd.prog 102 #[.slice (some ⟨pb, 0, none⟩) L cap, .int .u64 k, .pointer (some ⟨wb, 0, none⟩), .pointer (some ⟨ib, 0, none⟩), .pointer (some ⟨sb, 0, none⟩)] W fun e W' => e = .returned (.tuple #[]) ∧ Kept pb L W W') :
    Calls Tryd.prog 70 #[.agg (webI n m), .iface 89 g] w fun e W' => e = .returned (.tuple #[]) ∧ Below w.heap.size w W' := by
  have hst := start_sr w n m (.iface 89 g)
  have hwb : Blk (((w.alloc (.cells (webI n m) 82)).alloc (.cells #[.iface 89 g] 136)).alloc (.cells #[.nilFunc] 173)) w.heap.size (webI n m) 82 := ((Blk.new w _ _).alloc _).alloc _
  have hlw : Below w.heap.size w (((w.alloc (.cells (webI n m) 82)).alloc (.cells #[.iface 89 g] 136)).alloc (.cells #[.nilFunc] 173)) := (((Below.refl _ w).alloc (Nat.le_refl _) _).alloc (by simp) _).alloc (by simp; omega) _
  go_enter Tryd.func70, Tryd.ntmps70
  go_wp2
  generalize World.alloc (World.alloc (World.alloc w _) _) _ = W1 at hst hwb hlw ⊢
  have hrs : (store ⟨w.heap.size + 1 + 1, 0, none⟩ (.func (.func 102) #[] #[.pointer (some ⟨w.heap.size, 0, none⟩), .pointer (some ⟨w.heap.size + 1, 0, none⟩), .pointer (some ⟨w.heap.size + 1 + 1, 0, none⟩)])).run Tryd.prog W1 =
      .ok () (W1.setCell ⟨w.heap.size + 1 + 1, 0, none⟩ (.func (.func 102) #[] #[.pointer (some ⟨w.heap.size, 0, none⟩), .pointer (some ⟨w.heap.size + 1, 0, none⟩), .pointer (some ⟨w.heap.size + 1 + 1, 0, none⟩)])) := by
    rw [run_store _ _ _ _ _ rfl, hst.cell 0 rfl]
    simp [hst.frozen 0]
  have hS : Sr (W1.setCell ⟨w.heap.size + 1 + 1, 0, none⟩ (.func (.func 102) #[] #[.pointer (some ⟨w.heap.size, 0, none⟩), .pointer (some ⟨w.heap.size + 1, 0, none⟩), .pointer (some ⟨w.heap.size + 1 + 1, 0, none⟩)])) w.heap.size (w.heap.size + 1) (w.heap.size + 1 + 1) n m (webI n m) :=
    ⟨hwb.other 0 _ (by omega), rfl, web_row n m, hst.set 0 _⟩
  have hlw2 := hlw.setCell (p := ⟨w.heap.size + 1 + 1, 0, none⟩) (show w.heap.size ≤ w.heap.size + 1 + 1 by omega) (.func (.func 102) #[] #[.pointer (some ⟨w.heap.size, 0, none⟩), .pointer (some ⟨w.heap.size + 1, 0, none⟩), .pointer (some ⟨w.heap.size + 1 + 1, 0, none⟩)])
  rw [hrs]
  clear hrs hst hwb hlw
  generalize W1.setCell _ _ = W2 at hS hlw2 ⊢
  have e3 := hS.blk.cell 0 hS.many
  go_wp2
  clear e3
  go_loopw [9] (fun i wr => ∃ x : Nat, i = .int .i64 x ∧ x ≤ n ∧ Sr wr w.heap.size (w.heap.size + 1) (w.heap.size + 1 + 1) n m (webI n m) ∧ Below w.heap.size w wr) (fun i _ => n - (intOf i).toNat)
  case atStart => exact ⟨0, rfl, Nat.zero_le _, hS, hlw2⟩
  case round =>
    obtain ⟨x, rfl, hx, hSr, hlow⟩ := hrel
    clear hS hlw2
    by_cases hxn : x < n
    · have e1 : (x : Int) < n := by omega
      have hs1 := hSr.self.cell 0 rfl
      have hsl := hSr.self.lt
      have hb1 := hSr.blk.cell 0 hSr.many
      have hbl := hSr.blk.lt
      obtain ⟨y, hy⟩ : ∃ y : Nat, y = x + 1 := ⟨_, rfl⟩
      have e2 : IntKind.i64.wrap ((x : Int) + 1) = (y : Int) := by rw [IntKind.wrap_i64]; omega
      have hmin : min y 64 = y := by omega
      obtain ⟨k, hk, hq⟩ : ∃ k : Nat, k < 128 ∧ bits BinOp.andNot IntKind.u64 (IntKind.u64.wrap (IntKind.u64.wrap (2 ^ n) - 1)) (IntKind.u64.wrap (IntKind.u64.wrap (2 ^ y) - 1)) = (k : Int) := ⟨2 ^ n - 2 ^ y, by
        have h7 : (2 : Nat) ^ n ≤ 2 ^ 7 := Nat.pow_le_pow_right (by decide) hn7
        have h1 : 0 < 2 ^ y := Nat.pow_pos (by decide)
        omega, bits_msk (by omega) (by omega)⟩
      have hY : Hid (y = x + 1) := hy
      clear hy
      have hB2 : Below wr.heap.size wr (wr.alloc (.cells #[.int .i64 x] 3)).drew := ((Below.refl _ wr).alloc (Nat.le_refl _) _).drew
      have hP2 : Pt (wr.alloc (.cells #[.int .i64 x] 3)).drew wr.heap.size 1 1 x x #[.int .i64 x] := ⟨Blk.new wr _ _, rfl, Nat.le_refl _, Nat.le_refl _, rfl, rfl⟩
      have hS2 := hSr.kept (Kept.of_below (pb := wr.heap.size) (L := 1) hB2) (by omega) (by omega)
      have hl2 := ((hlow.alloc hlow.size (.cells #[.int .i64 x] 3)).drew)
      have hcall := hdo k wr.heap.size 1 1 x x w.heap.size (w.heap.size + 1) (w.heap.size + 1 + 1) (webI n m) _ _ hk (by omega) (Nat.le_trans hB hlow.size) (Nat.le_trans hB hl2.size) (h0.trans (hl2.mono hB)) hS2 hP2 (by omega) (by omega) (by omega) (by omega) (.inl rfl)
      have hend : ∀ W5, Kept wr.heap.size 1 (wr.alloc (.cells #[.int .i64 x] 3)).drew W5 → Sr W5 w.heap.size (w.heap.size + 1) (w.heap.size + 1 + 1) n m (webI n m) ∧ Below w.heap.size w W5 := fun W5 hK => ⟨hS2.kept hK (by omega) (by omega), hK.low hlow.size hl2.size hl2⟩
      clear hB2 hP2 hS2 hl2 hSr hlow hdo h0
      go_wp2
      go_region_law (go_simp; go_at_call 102; refine hcall.mono ?_; rintro e W5 ⟨rfl, hK5⟩)
      all_goals
        have hfin := hend W5 hK5
        clear hcall hend hK5 hs1 hb1 hsl hbl hq hmin
        go_wp2
        have hy := hY.out
        exact ⟨⟨y, by simp, by omega, hfin.1, hfin.2⟩, by simp [intOf]; omega⟩
    · obtain rfl : x = n := by omega
      go_wp2
      go_end0
      exact ⟨rfl, hlow⟩
theorem two_new (W : World) (o : Obj) (z : Array Value) (t : TypeId) : Blk ((W.alloc o).alloc (.cells z t)) (W.heap.size + 1) z t := by
  have := Blk.new (W.alloc o) z t
  rwa [World.size_alloc] at this
set_option maxHeartbeats 4000000 in
theorem counted_in (n L cap : Nat) (a : Option Addr) (m : Nat → Nat) (w : World)
    (hwv : ∀ W, Below w.heap.size w W → Calls Tryd.prog 33 #[.agg #[.int .i64 n, .slice a L cap]] W fun e W' => e = .returned (.tuple #[.agg (webI n m), .int .i64 0]) ∧ Below W.heap.size W W')
    (hci : ∀ W g, Below w.heap.size w W → Calls Tryd.prog 70 #[.agg (webI n m), .iface 89 g] W fun e W' => e = .returned (.tuple #[]) ∧ Below W.heap.size W W') :
    Calls Tryd.prog 38 #[.agg #[.int .i64 n, .slice a L cap]] w fun e W' => ∃ b cur, e = .returned (.tuple #[.pointer (some ⟨b, 0, none⟩), .int .i64 0]) ∧ Blk W' b cur 133 ∧ cur[0]? = some (.int .i64 0) ∧ w.heap.size ≤ b ∧ Below w.heap.size w W' := by
  have hw1 : Below w.heap.size w (w.alloc (.cells #[.int .i64 n, .slice a L cap] 28)) := (Below.refl _ w).alloc (Nat.le_refl _) _
  go_enter Tryd.func38, Tryd.ntmps38
  go_wp2_with (first | (go_at_call 33; refine (hwv _ hw1).mono ?_; rintro e W2 ⟨rfl, hB2⟩; have hw2 := hw1.trans (hB2.mono (by simp))) | (go_at_call 70; refine (hci _ _ ((hw2.alloc hw2.size _).alloc (Nat.le_trans hw2.size (by simp)) _)).mono ?_; rintro e W3 ⟨rfl, hB3⟩; have hT := (hB3.block (W2.heap.size + 1) (by simp)).trans (two_new W2 _ _ _); have hw3 := ((hw2.alloc hw2.size _).alloc (Nat.le_trans hw2.size (by simp)) _).trans (hB3.mono (Nat.le_trans hw2.size (by simp; omega)))))
  go_ret2
  exact ⟨W2.heap.size + 1, _, rfl, hT, rfl, Nat.le_trans hw2.size (Nat.le_succ _), hw3⟩
set_option maxHeartbeats 4000000 in
theorem number_in (n L cap : Nat) (a : Option Addr) (w : World)
    (hct : ∀ W, Below w.heap.size w W → Calls Tryd.prog 38 #[.agg #[.int .i64 n, .slice a L cap]] W fun e W' => ∃ b cur, e = .returned (.tuple #[.pointer (some ⟨b, 0, none⟩), .int .i64 0]) ∧ Blk W' b cur 133 ∧ cur[0]? = some (.int .i64 0) ∧ W.heap.size ≤ b ∧ Below W.heap.size W W') :
    Calls Tryd.prog 12 #[.agg #[.int .i64 n, .slice a L cap]] w fun e W' => e = .returned (.tuple #[.int .i64 0, .int .i64 0]) ∧ Below w.heap.size w W' := by
  have hw1 : Below w.heap.size w (w.alloc (.cells #[.int .i64 n, .slice a L cap] 28)) := (Below.refl _ w).alloc (Nat.le_refl _) _
  go_enter Tryd.func12, Tryd.ntmps12
  go_wp2_with (first | (go_at_call 38; refine (hct _ hw1).mono ?_; rintro e W2 ⟨b, cur, rfl, hb, hc0, hbs, hB2⟩; have hw2 := hw1.trans (hB2.mono (by simp))) | (go_at_call 39; refine (many_none b cur _ hb hc0).mono ?_; rintro e W3 ⟨rfl, hB3⟩; have hw3 := hw2.trans (hB3.mono hw2.size)))
  go_ret2
  exact ⟨rfl, hw3⟩
end Go.Proofs.YtkfkbebinhkdlaaDoor
set_option linter.unusedVariables false
set_option linter.unusedSimpArgs false
set_option maxRecDepth 100000
namespace Go.Proofs.YtkfkbebinhkdlaaDoor
open Go.Vi
abbrev R14 := Bool
noncomputable def c14 : Code := bodyOf Tryd.f14
noncomputable def an14 : Ann := (.s .l (.s (.s .l (.j [0, 1] .l .l)) (.s (.s .l (.j [] (.j [0, 1, 12, 13] (.s .l (.s (.j [0, 1, 12, 13] .l .l) (.s (.j [0, 1, 12, 13] (.s .l (.s .l (.j [0, 1, 12, 13] .l .l))) .l) .l))) .l) .l)) .l)))
def pk14 : List PK := [.c (.sl (.int .i64)), .c (.sl (.int .i64))]
def rk14 : List RK := [.c .bool 4]
noncomputable def rt14 (st : St) : Option R14 := rtG rk14 st
noncomputable def E14 (n : Nat × Nat) : Env := { T := tab, phi := noPhi, eff := fun _ => false, fuel := n.1, hold := n.2 }
noncomputable def kq14_3 (n : Nat × Nat) : St → Option R14 := run (E14 n) (cB (cB (cB c14))) (Ann.snd (Ann.snd (Ann.snd an14))) rt14 (fun _ _ => none) rt14
noncomputable def xb14_5 (n : Nat × Nat) : Nat → St → Option R14 := fun j s => bif Nat.beq j 0 then normC [] s (kq14_3 n) else (fun _ _ => none) j s
noncomputable def F14_6 (n : Nat × Nat) : (St → Option R14) → St → Option R14 := fun K s => run (E14 n) (cA (cA (cB (cA (cB (cB c14)))))) (Ann.fst (Ann.fst (Ann.snd (Ann.fst (Ann.snd (Ann.snd an14)))))) (fun s => normC [0, 1, 12, 13] s K) (xb14_5 n) rt14 s
noncomputable def L14_1 (n : Nat × Nat) (m : Nat) (a0 : List Int) (b1 : List Int) (v12 : Int) (v13 : Int) : Option R14 := loopN (F14_6 n) m { tm := [.c (.sl (.int .i64) a0 false), .c (.sl (.int .i64) b1 false), uu, uu, uu, uu, uu, uu, uu, uu, uu, uu, .c (.int .i64 v12), .c (.int .i64 v13), uu, uu, uu, uu, uu, uu, uu, uu, uu, uu, uu, uu], hp := emp }
theorem L14_1_eq (n : Nat × Nat) (m1 : Nat) (a0 : List Int) (b1 : List Int) (v12 : Int) (v13 : Int) : L14_1 n (m1 + 1) a0 b1 v12 v13 =
 (bif decide (v13 < v12) then (idx a0 v13).bind fun x1' =>
 (idx b1 v13).bind fun x2' =>
 (bif (x1' != x2') then some false
 else L14_1 n m1 a0 b1 v12 (wr .i64 (v13 + 1)))
 else some true) := by kernel_rfl
noncomputable def S14 (n : Nat × Nat) (a0 : List Int) (b1 : List Int) : Option R14 := run (E14 n) c14 an14 rt14 (fun _ _ => none) rt14 { tm := [.c (.sl (.int .i64) a0 false), .c (.sl (.int .i64) b1 false), uu, uu, uu, uu, uu, uu, uu, uu, uu, uu, uu, uu, uu, uu, uu, uu, uu, uu, uu, uu, uu, uu, uu, uu], hp := emp }
theorem S14_eq (n : Nat × Nat) (a0 : List Int) (b1 : List Int) : S14 n a0 b1 =
 (bif ((a0.length : Int) != (b1.length : Int)) then some false
 else L14_1 n n.1 a0 b1 (a0.length : Int) 0) := by kernel_rfl
theorem S14_run (n : Nat × Nat) (xs : pksDen pk14) : S14 n xs.1 xs.2.1 = runG (E14 n) noScope c14 an14 (rtG rk14) (fun _ _ => none) (rtG rk14) (st0 pk14 xs Tryd.f14.ntmps) := by kernel_rfl
noncomputable def P14 (n : Nat × Nat) := phiOf pk14 rk14 (fun xs => S14 n xs.1 xs.2.1)
theorem call14 : CallOK Tryd.prog 14 := callOK_of Tryd.func14 (by kernel_rfl) (by kernel_rfl)
theorem env14 (n : Nat × Nat) : EnvOK Tryd.prog (E14 n) := envOK0 noPhi_ok rfl rfl
theorem par14 (n : Nat × Nat) : EnvPar (E14 n) := envPar0 noPhi_par rfl
theorem FC14 (n : Nat × Nat) : FCs Tryd.prog 14 (P14 n) := phiOf_FCs fun xs r h vs hv => FC.of_runG tabOK eqsOK (env14 n) (par14 n) mixed (fun _ p _ => noScope_ok p.1 p.2) Tryd.func14 (c := c14) (an := an14) (pks := pk14) (rks := rk14) (by kernel_rfl) (by kernel_rfl) hv ((S14_run n xs).symm.trans h)
abbrev R44 := List Int × Int
noncomputable def c44 : Code := bodyOf Tryd.f44
noncomputable def an44 : Ann := (.s .l (.s .l (.s (.j [4] (.s .l (.j [4] .l (.s .l (.j [4] .l .l)))) .l) .l)))
def pk44 : List PK := [.c (.pair (.int .i64) (.sl (.pair (.int .i64) (.int .i64))))]
def rk44 : List RK := [.sl (.int .i64) 2, .c (.int .i64) 3]
noncomputable def rt44 (st : St) : Option R44 := rtG rk44 st
noncomputable def E44 (n : Nat × Nat) : Env := { T := tab, phi := (consPhi 11 (fun _ => true) (P11 n) noPhi), eff := fun g => Nat.beq g 11, fuel := n.1, hold := n.2 }
noncomputable def S44 (n : Nat × Nat) (b0 : Int × List (Int × Int)) : Option R44 := run (E44 n) c44 an44 rt44 (fun _ _ => none) rt44 { tm := [.agg [.int .i64 b0.1, .sl (.pair (.int .i64) (.int .i64)) b0.2 false], uu, uu, uu, uu, uu, uu, uu, uu, uu, uu, uu, uu, uu, uu, uu, uu, uu, uu, uu, uu, uu], hp := emp }
theorem S44_eq (n : Nat × Nat) (b0 : Int × List (Int × Int)) : S44 n b0 =
 (S11 n b0).bind fun r1' =>
 (bif (r1'.2 != 0) then some ([], r1'.2)
 else (bif ((r1'.1.length : Int) == 0) then some ([], 12)
 else (bif inB 0 r1'.1.length then (idx r1'.1 0).bind fun x2' =>
 some (x2', 0)
 else none))) := by kernel_rfl
theorem S44_run (n : Nat × Nat) (xs : pksDen pk44) : S44 n xs.1 = runG (E44 n) noScope c44 an44 (rtG rk44) (fun _ _ => none) (rtG rk44) (st0 pk44 xs Tryd.f44.ntmps) := by kernel_rfl
noncomputable def P44 (n : Nat × Nat) := phiOf pk44 rk44 (fun xs => S44 n xs.1)
theorem call44 : CallOK Tryd.prog 44 := callOK_of Tryd.func44 (by kernel_rfl) (by kernel_rfl)
theorem env44 (n : Nat × Nat) : EnvOK Tryd.prog (E44 n) := envOK0 (consPhi_ok (FC11 n) call11 noPhi_ok) rfl rfl
theorem par44 (n : Nat × Nat) : EnvPar (E44 n) := envPar0 (consPhi_par phiOf_Par1 noPhi_par) rfl
theorem FC44 (n : Nat × Nat) : FCs Tryd.prog 44 (P44 n) := phiOf_FCs fun xs r h vs hv => FC.of_runG tabOK eqsOK (env44 n) (par44 n) mixed (fun _ p _ => noScope_ok p.1 p.2) Tryd.func44 (c := c44) (an := an44) (pks := pk44) (rks := rk44) (by kernel_rfl) (by kernel_rfl) hv ((S44_run n xs).symm.trans h)
end Go.Proofs.YtkfkbebinhkdlaaDoor
