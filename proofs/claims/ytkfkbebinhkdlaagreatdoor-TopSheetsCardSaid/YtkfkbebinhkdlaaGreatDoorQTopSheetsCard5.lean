/- Texts of this claim, joined: ViM to G20. -/
import Derived.Carry
import Derived.JoinedCond
import Derived.KernelRfl
import Derived.LaidLaws
import Derived.OpenShut
import Derived.ProofKit
import Derived.Test.YtkfkbebinhkdlaaGreatDoorProg
import Derived.Test.YtkfkbebinhkdlaaGreatDoorRows
import Derived.WalkKit
import Derived.Test.YtkfkbebinhkdlaaGreatDoorQTopSheetsCard4
/-
  Vi: functions: scopes; parameters and results; a function's contract out of its run.
-/
set_option linter.unusedVariables false
set_option linter.unusedSimpArgs false
namespace Go.Vi
open Op
section
variable {P : Program} {E : Env} {x : Cx} {γ γ' : Gam} {w w0 : World} {a : Act} {st st' : St} {A A0 A1 : Nat → Prop}
variable {Q : Exit → Act → World → Prop} {H H' : Heap} {ρ : Type} {k : St → Option ρ} {r : ρ}
/-! ### Scopes -/
theorem jumpTo_some {K : Nat × St → Option ρ} {ex : Nat → St → Option ρ} {j : Nat} {s : St} : ∀ (ls : List (Nat × List Nat × Ann)), jumpTo ls K ex j s = some r →
    (∃ l lv, j = goff + l ∧ K (l, norm lv s) = some r) ∨ (j < goff ∧ ex j s = some r)
  | [], h => by
    simp only [jumpTo] at h
    obtain ⟨h1, h2⟩ := cond_some h rfl
    exact .inr ⟨Nat.le_of_ble_eq_true h1, h2⟩
  | (l, lv, an) :: ls, h => by
    simp only [jumpTo, normC_eq] at h
    cases hb : Nat.beq j (goff + l) with
    | true =>
      rw [hb] at h
      exact .inl ⟨l, lv, Nat.eq_of_beq_eq_true hb, h⟩
    | false =>
      rw [hb] at h
      exact jumpTo_some ls h
theorem scope1_ok (hT : TabOK P E.T) (hE : EqsOK P E.T) (hphi : EnvOK P E) (hpar : EnvPar E) (hm : P.follows .mixedOrders = true) : ScOK P x (scope1 E) := by
  intro c an ρ k ex rt r Q st γ a w h hr hp
  unfold scope1 at h
  split at h
  case h_2 => cases h
  rename_i c
  generalize an.snd.labels = ls at h
  let Q2 : Nat → Exit → Act → World → Prop := fun n e a w =>
    match e with
    | .goto l => ∃ st γ, loopN (passF E c ls k ex rt) n (l, st) = some r ∧ RS x γ st a w
    | e => Q e a w
  have posts : ∀ n, Posts x k (jumpTo ls (loopN (passF E c ls k ex rt) n) ex) rt r (Q2 n) := by
    intro n
    refine ⟨fun st' γ' a' w' hk hr' => hp.norm st' γ' a' w' hk hr', ?_, fun st' γ' a' w' hk hr' => hp.ret st' γ' a' w' hk hr'⟩
    intro j st' γ' a' w' hk hr'
    rcases jumpTo_some ls hk with ⟨l, lv, rfl, hk2⟩ | ⟨hj, hk2⟩
    · have : exitOf (goff + l) = .goto l := by
        unfold exitOf
        rw [if_neg (by omega), show goff + l - goff = l by omega]
      rw [this]
      obtain ⟨γ2, hr2⟩ := hr'.norm lv
      exact ⟨_, γ2, hk2, hr2⟩
    · have h1 := hp.exit j st' γ' a' w' hk2 hr'
      have : exitOf j = .exit j := if_pos hj
      rw [this] at h1 ⊢
      exact h1
  intro b kk cs
  have key : ∀ (n l : Nat) (st : St) (γ : Gam) (a : Act) (w : World) (rest : Code), loopN (passF E c ls k ex rt) n (l, st) = some r → RS x γ st a w → findLabel c l = some rest →
      ∃ e a' w', Q e a' w' ∧ Arrives P (lone (b.at a (.code rest :: .inScope c :: kk)) cs w) b kk cs e a' w' := by
    intro n
    induction n with
    | zero => intro l st γ a w rest h _ _; cases h
    | succ n ih =>
      intro l st γ a w rest h hr hf
      simp only [loopN, passF, hf] at h
      split at h
      · rename_i q rest' hfl hl
        cases hfl
        obtain ⟨e, a₁, w₁, hq, harr⟩ := run_sound hT hE hphi hpar hm h hr (posts n) b (.inScope c :: kk) cs
        cases e with
        | normal => exact ⟨.normal, a₁, w₁, hq, Steps.trans harr (.one step_inScope)⟩
        | exit id => exact ⟨.exit id, a₁, w₁, hq, fun k' hk => harr k' (by simp [exitTo, hk])⟩
        | goto l' =>
          obtain ⟨st', γ', h1, h2⟩ := hq
          have hfl : ∃ rest', findLabel c l' = some rest' := by
            cases n with
            | zero => cases h1
            | succ n =>
              simp only [loopN, passF] at h1
              split at h1
              · rename_i q' rest' hh _
                exact ⟨_, hh⟩
              · cases h1
          obtain ⟨rest', hf'⟩ := hfl
          obtain ⟨e₂, a₂, w₂, hq₂, harr₂⟩ := ih l' st' γ' a₁ w₁ rest' h1 h2 hf'
          have hg : gotoIn l' (.inScope c :: kk) = some (.code rest' :: .inScope c :: kk) := by simp [gotoIn, hf']
          exact ⟨e₂, a₂, w₂, hq₂, .of_steps (harr _ hg) harr₂⟩
        | ret => exact ⟨_, a₁, w₁, hq, harr⟩
        | panic ch => exact ⟨_, a₁, w₁, hq, harr⟩
        | outgrown => exact ⟨_, a₁, w₁, hq, harr⟩
      · cases h
  obtain ⟨e, a₁, w₁, hq, harr⟩ := run_sound hT hE hphi hpar hm h hr (posts E.fuel) b (.inScope c :: kk) cs
  cases e with
  | normal => exact ⟨.normal, a₁, w₁, hq, .head step_scope (Steps.trans harr (.one step_inScope))⟩
  | exit id => exact ⟨.exit id, a₁, w₁, hq, fun k' hk => .head step_scope (harr k' (by simp [exitTo, hk]))⟩
  | goto l' =>
    obtain ⟨st', γ', h1, h2⟩ := hq
    have hfl : ∃ rest', findLabel c l' = some rest' := by
      cases hn : E.fuel with
      | zero => rw [hn] at h1; cases h1
      | succ n =>
        rw [hn] at h1
        simp only [loopN, passF] at h1
        split at h1
        · rename_i q' rest' hh _
          exact ⟨_, hh⟩
        · cases h1
    obtain ⟨rest', hf'⟩ := hfl
    obtain ⟨e₂, a₂, w₂, hq₂, harr₂⟩ := key E.fuel l' st' γ' a₁ w₁ rest' h1 h2 hf'
    have hg : gotoIn l' (.inScope c :: kk) = some (.code rest' :: .inScope c :: kk) := by simp [gotoIn, hf']
    exact ⟨e₂, a₂, w₂, hq₂, .of_steps (.head step_scope (harr _ hg)) harr₂⟩
  | ret => exact ⟨_, a₁, w₁, hq, .of_steps (.one step_scope) harr⟩
  | panic ch => exact ⟨_, a₁, w₁, hq, .of_steps (.one step_scope) harr⟩
  | outgrown => exact ⟨_, a₁, w₁, hq, .of_steps (.one step_scope) harr⟩
/-! ### Results -/
theorem nagg_one {s : Sh} (h : s.agg = false) : s.nc = 1 := by cases s <;> first | rfl | cases h
theorem mk1_R {s : Sh} {y : s.den} {u : Value} {vs : List Value} (h : VRs w A s y vs) (hA : ∀ b, A b → A1 b) (hu : u = if s.agg = true then .agg vs.toArray else vs.headD undef) : RetR1 w0 w A1 (mk1 s y) .emp u := by
  have hc := CR.of_VRs s y vs h
  have hA' : ∀ b, A b → A1 b ∧ w.heap[b]? = w.heap[b]? := fun b hb => ⟨hA b hb, rfl⟩
  unfold mk1
  cases hs : s.agg with
  | true =>
    rw [hs] at hu
    simp only [cond_true]
    exact ⟨vs, by simpa using hu, hc.mono (CR.mono hA')⟩
  | false =>
    rw [hs] at hu
    simp only [cond_false]
    have hl := cells_length s y
    rw [nagg_one hs] at hl
    match hcs : cells s y, hl with
    | [c], _ =>
      rw [hcs] at hc
      obtain ⟨v, rfl, hv⟩ := hc.one
      simp at hu
      subst hu
      exact CR.mono hA' c _ hv
theorem valOf_VRs {s : Sh} {v : V} {y : s.den} {u : Value} (h : valOf s v = some y) (hv : VR γ w A H v u) : ∃ vs, VRs w A s y vs ∧ u = if s.agg = true then .agg vs.toArray else vs.headD undef := by
  unfold valOf at h
  split at h
  · rename_i c
    obtain ⟨hs, h⟩ := cond_none h rfl
    refine ⟨[u], VRs.of_ofC s _ y [u] h ⟨hv, trivial⟩, ?_⟩
    rw [hs]
    rfl
  · rename_i cs
    obtain ⟨hs, h⟩ := cond_some h rfl
    obtain ⟨vs, rfl, hc⟩ := hv
    refine ⟨vs, VRs.of_ofC s _ y vs h hc, ?_⟩
    rw [hs]
    rfl
  · cases h
def resF (tmps : Array Value) : ResultVar → Sem Value
  | .tmp t => pure (tmps.getD t undef)
  | .cell a t => do loadVar t (← asAddr (tmps.getD a undef))
theorem results_run {fn : Func} {us : List Value} (h : (fn.results.toList.mapM (resF a.tmps)).run P w = .ok us w) : (results fn a.tmps).run P w = .ok (retVal us) w := by
  have e : (fn.results.mapM (resF a.tmps)).run P w = .ok us.toArray w := by
    rw [Array.mapM_eq_mapM_toList, Sem.run_map, h]
    rfl
  have e2 : results fn a.tmps = fn.results.mapM (resF a.tmps) >>= fun vs => pure (if h : vs.size = 1 then vs[0] else .tuple vs) := by
    unfold results
    congr 1
  rw [e2, Sem.run_bind, e]
  simp only [Result.andThen_ok, Sem.run_pure]
  congr 1
  match us with
  | [] => rfl
  | [u] => rfl
  | u :: u' :: us =>
    unfold retVal
    rw [dif_neg (by simp)]
/-- What a result stands for in the call's own. -/
def RK.info (γ : Gam) (st : St) : RK → Info
  | .own _ t =>
    match (st.tm[t]? : Option V) with
    | some (.own k _ _) => (γ k).getD .emp
    | _ => .emp
  | .ownN _ t =>
    match (st.tm[t]? : Option V) with
    | some (.own k _ _) => (γ k).getD .emp
    | _ => .emp
  | _ => .emp
theorem castL_some {e' e : Sh} {xs : List e'.den} {ys : List e.den} (h : castL e' e xs = some ys) : ∃ he : e' = e, ys = he ▸ xs := by
  unfold castL at h
  split at h
  · rename_i he
    cases h
    exact ⟨he, rfl⟩
  · cases h
theorem OwnSl.weak {i : Info} {n len : Nat} {nilE t : Bool} {v : Value} (h : OwnSl i n len nilE none t v) : OwnSl i n len false none false v := by
  cases i with
  | emp =>
    obtain ⟨a, h1, h2, h3, h4⟩ := h
    exact ⟨a, h1, by simp, h3, h4⟩
  | «at» b c =>
    obtain ⟨h1, h2, h3⟩ := h
    exact ⟨h1, h2, by simp⟩
theorem OwnSl.weakT {i : Info} {n len : Nat} {nilE t : Bool} {v : Value} (h : OwnSl i n len nilE none t v) : OwnSl i n len nilE none false v := by
  cases i with
  | emp =>
    obtain ⟨a, h1, h2, h3, h4⟩ := h
    exact ⟨a, h1, h2, h3, h4⟩
  | «at» b c =>
    obtain ⟨h1, h2, h3⟩ := h
    exact ⟨h1, h2, by simp⟩
theorem objR.weak {e : Sh} {xs : List e.den} {nilE : Bool} {i : Info} (h : objR w A (.arr e xs nilE) i) : objR w A (.arr e xs false) i := by
  cases i with
  | emp => exact h
  | «at» b c => exact ⟨by simp, h.2⟩
/-- One result. -/
theorem RK_get (hT : TabOK P E.T) (hr : RS x γ st a w) {rv : ResultVar} {rk : RK} (hok : rksOK E.T [rv] [rk] = true) {y : rk.den} (hg : rk.get st = some y) (hA : ∀ b, Av x γ w b → A1 b)
    (hO : ∀ k ∈ rk.ownK st, ∀ b c, γ k = some (.at b c) → w0.heap.size ≤ b) (hS : ∀ k ∈ rk.slK st, ∀ b c, γ k = some (.at b c) → A1 b) : ∃ u, (resF a.tmps rv).run P w = .ok u w ∧ RetR1 w0 w A1 (rk.ret y) (rk.info γ st) u := by
  have hA' : ∀ b, Av x γ w b → A1 b ∧ w.heap[b]? = w.heap[b]? := fun b hb => ⟨hA b hb, rfl⟩
  cases rk with
  | own e t =>
    cases rv with
    | cell _ _ => cases hok
    | tmp t' =>
      simp only [rksOK, Bool.and_true] at hok
      have := Nat.eq_of_beq_eq_true hok
      subst this
      refine ⟨_, rfl, ?_⟩
      simp only [RK.get, rOwn] at hg
      split at hg
      · rename_i k b hv
        obtain ⟨i, e', xs, nilE, h1, h2, h3⟩ := hr.tm _ _ hv
        simp only [elemsAs, elems, h2, view] at hg
        obtain ⟨rfl, rfl⟩ := castL_some hg
        obtain ⟨ob, h4, h5⟩ := hr.inv.own k i h1
        rw [h2] at h4
        cases h4
        simp only [RK.info, hv, h1, Option.getD_some]
        refine ⟨(objR.mono hA' _ i (fun _ _ _ => rfl) h5).weak, h3.weak, fun b c hi => ?_⟩
        have h6 := hr.inv.rng k b c (hi ▸ h1)
        exact ⟨hO k (by simp [RK.ownK, hv]) b c (hi ▸ h1), h6.2⟩
      · cases hg
  | sl e t =>
    cases rv with
    | cell _ _ => cases hok
    | tmp t' =>
      simp only [rksOK, Bool.and_true] at hok
      have := Nat.eq_of_beq_eq_true hok
      subst this
      refine ⟨_, rfl, ?_⟩
      simp only [RK.get, rSl] at hg
      split at hg
      · rename_i v hv
        have hVR := hr.tm _ _ hv
        have key : ∀ (keys : List Nat), (∀ k ∈ v.ownKey, k ∈ keys) → (∀ k ∈ keys, ∀ b c, γ k = some (.at b c) → A1 b) → ∀ tt, gnd st.hp v = some (.c (.sl e y tt)) → RetR1 w0 w A1 (.val (.sl e y false)) .emp (a.tmps.getD t' undef) := by
          intro keys hk hkA tt hgn
          have := gnd_VR hr.inv hgn hVR hk
          obtain ⟨ad, cap, c1, c2, c3, c4⟩ : CR w (A0k x γ w keys) (.sl e y tt) (a.tmps.getD t' undef) := this
          have hA2 : ∀ b, A0k x γ w keys b → A1 b ∧ w.heap[b]? = w.heap[b]? := by
            rintro b (hb | ⟨k, hk, c, hc⟩)
            · exact hA' b hb
            · exact ⟨hkA k hk b c hc, rfl⟩
          exact ⟨ad, cap, c1, c2, by simp, c4.mono hA2 fun x us hx => VRs.mono hA2 e x us hx⟩
        simp only [elemsAs] at hg
        split at hg
        · rename_i e' xs he
          obtain ⟨rfl, rfl⟩ := castL_some hg
          cases v with
          | own k win tt =>
            simp only [elems] at he
            split at he
            · rename_i e2 xs2 n2 hH
              cases he
              refine key [k] (by simp [V.ownKey]) ?_ tt (by simp only [gnd, gnd1, hH])
              intro k' hk' b c hc
              rw [List.mem_singleton.1 hk'] at hc
              exact hS k (by simp [RK.slK, hv]) b c hc
            · cases he
          | c y' =>
            cases y' with
            | sl e2 xs2 tt =>
              cases he
              exact key [] (by simp [V.ownKey]) (by simp) tt rfl
            | _ => simp [elems] at he
          | _ => simp [elems] at he
        · cases hg
      · cases hg
  | c s t =>
    cases rv with
    | cell _ _ => cases hok
    | tmp t' =>
      simp only [rksOK, Bool.and_true] at hok
      have := Nat.eq_of_beq_eq_true hok
      subst this
      refine ⟨_, rfl, ?_⟩
      simp only [RK.get] at hg
      split at hg
      · rename_i v hv
        obtain ⟨vs, h1, h2⟩ := valOf_VRs hg (hr.tm _ _ hv)
        exact mk1_R h1 hA h2
      · cases hg
  | box s t =>
    cases rv with
    | tmp _ => cases hok
    | cell t' ty =>
      simp only [rksOK, Bool.and_true, Bool.and_eq_true] at hok
      have := Nat.eq_of_beq_eq_true hok.1
      subst this
      have hty := of_decide_eq_true hok.2
      simp only [RK.get, rBox] at hg
      split at hg
      · rename_i k off hv
        obtain ⟨b, c, h1, h2⟩ := hr.tm _ _ hv
        split at hg
        · rename_i cs hH
          obtain ⟨ob, h3, h4⟩ := hr.inv.own k _ h1
          rw [hH] at h3
          cases h3
          obtain ⟨cur, et, h5, h6⟩ := h4
          obtain ⟨hd, hg⟩ := cond_some hg rfl
          have hd := of_decide_eq_true hd
          have hV := VRs.of_ofC s _ y _ hg ((h6.drop off).take s.nc)
          have hl2 := h6.length
          simp only [Array.length_toList] at hl2
          refine ⟨if s.agg = true then .agg ((cur.toList.drop off).take s.nc).toArray else ((cur.toList.drop off).take s.nc).headD undef, ?_, mk1_R hV hA rfl⟩
          have hsh := hT.sh ty s hty
          have hnc : s.agg = false → s.nc = 1 := nagg_one
          have hle : off + s.nc ≤ cur.size := by omega
          have hrun := run_load_shape (P := P) (w := w) hsh.base h5 hle hnc
          simp only [Instr.loadAt, Instr.sureAddr, Sem.run_bind, Sem.run_pure, Result.andThen_ok] at hrun
          simp only [resF, h2, asAddr, Sem.run_bind, Sem.run_pure, Result.andThen_ok]
          rw [hrun]
          congr 1
          split
          · rfl
          · rename_i hag
            have h1 := hnc (by simpa using hag)
            rw [h1]
            have hlt : off < cur.size := by omega
            simp [List.getD, List.take_one, List.head?_drop, hlt]
        · cases hg
      · cases hg
  | lay e t => cases rv <;> cases hok
  | ownN e t =>
    cases rv with
    | cell _ _ => cases hok
    | tmp t' =>
      simp only [rksOK, Bool.and_true] at hok
      have := Nat.eq_of_beq_eq_true hok
      subst this
      refine ⟨_, rfl, ?_⟩
      simp only [RK.get, rOwnN] at hg
      split at hg
      · rename_i k b hv
        obtain ⟨i, e', xs, nilE, h1, h2, h3⟩ := hr.tm _ _ hv
        split at hg
        · rename_i e2 xs2 hH
          rw [h2] at hH
          cases hH
          simp only [elemsAs, elems, h2, view] at hg
          obtain ⟨rfl, rfl⟩ := castL_some hg
          obtain ⟨ob, h4, h5⟩ := hr.inv.own k i h1
          rw [h2] at h4
          cases h4
          simp only [RK.info, hv, h1, Option.getD_some]
          refine ⟨objR.mono hA' _ i (fun _ _ _ => rfl) h5, h3.weakT, fun b c hi => ?_⟩
          have h6 := hr.inv.rng k b c (hi ▸ h1)
          exact ⟨hO k (by simp [RK.ownK, hv]) b c (hi ▸ h1), h6.2⟩
        · cases hg
      · cases hg
theorem info_at {rk : RK} {b c : Nat} (h : rk.info γ st = .at b c) : ∃ k ∈ rk.ownK st, γ k = some (.at b c) := by
  cases rk with
  | own e t =>
    simp only [RK.info] at h
    split at h
    · rename_i k _ _ hv
      cases hg : γ k with
      | none => rw [hg] at h; cases h
      | some i =>
        rw [hg] at h
        simp only [Option.getD_some] at h
        exact ⟨k, by simp [RK.ownK, hv], by rw [hg, h]⟩
    · cases h
  | ownN e t =>
    simp only [RK.info] at h
    split at h
    · rename_i k _ _ hv
      cases hg : γ k with
      | none => rw [hg] at h; cases h
      | some i =>
        rw [hg] at h
        simp only [Option.getD_some] at h
        exact ⟨k, by simp [RK.ownK, hv], by rw [hg, h]⟩
    · cases h
  | _ => cases h
theorem rksOK_cons {T : Tab} {rv : ResultVar} {rk : RK} {rvs : List ResultVar} {rks : List RK} (h : rksOK T (rv :: rvs) (rk :: rks) = true) : rksOK T [rv] [rk] = true ∧ rksOK T rvs rks = true := by
  cases rv <;> cases rk <;> simp only [rksOK, Bool.and_eq_true, Bool.and_true] at h ⊢ <;> first | exact h | cases h
/-- All results. -/
theorem RKs_get (hT : TabOK P E.T) (hr : RS x γ st a w) (hA : ∀ b, Av x γ w b → A1 b) : ∀ (rks : List RK) (rvs : List ResultVar) (y : rksDen rks), rksOK E.T rvs rks = true → rtL st rks = some y →
    (rks.flatMap (RK.ownK st)).Nodup → (∀ k ∈ rks.flatMap (RK.ownK st), ∀ b c, γ k = some (.at b c) → w0.heap.size ≤ b) → (∀ k ∈ rks.flatMap (RK.slK st), ∀ b c, γ k = some (.at b c) → A1 b) →
    ∃ us, (rvs.mapM (resF a.tmps)).run P w = .ok us w ∧ RetRs w0 w A1 (rets rks y) (rks.map (RK.info γ st)) us := by
  intro rks
  induction rks with
  | nil =>
    intro rvs y hok h hnd hO hS
    cases rvs with
    | nil => exact ⟨[], rfl, trivial⟩
    | cons rv rvs => cases rv <;> cases hok
  | cons rk rks ih =>
    intro rvs y hok h hnd hO hS
    cases rvs with
    | nil => cases rk <;> cases hok
    | cons rv rvs =>
      obtain ⟨hok1, hok2⟩ := rksOK_cons hok
      rw [List.flatMap_cons, List.nodup_append] at hnd
      have hO1 : ∀ k ∈ rk.ownK st, ∀ b c, γ k = some (.at b c) → w0.heap.size ≤ b := fun k hk => hO k (by rw [List.flatMap_cons]; exact List.mem_append.2 (.inl hk))
      have hO2 : ∀ k ∈ rks.flatMap (RK.ownK st), ∀ b c, γ k = some (.at b c) → w0.heap.size ≤ b := fun k hk => hO k (by rw [List.flatMap_cons]; exact List.mem_append.2 (.inr hk))
      have hS1 : ∀ k ∈ rk.slK st, ∀ b c, γ k = some (.at b c) → A1 b := fun k hk => hS k (by rw [List.flatMap_cons]; exact List.mem_append.2 (.inl hk))
      have hS2 : ∀ k ∈ rks.flatMap (RK.slK st), ∀ b c, γ k = some (.at b c) → A1 b := fun k hk => hS k (by rw [List.flatMap_cons]; exact List.mem_append.2 (.inr hk))
      have dis : ∀ b c, rk.info γ st = .at b c → ∀ j ∈ rks.map (RK.info γ st), ∀ c', j ≠ .at b c' := by
        intro b c hi j hj c' he
        obtain ⟨k, hk, hg⟩ := info_at hi
        obtain ⟨rk', hm, rfl⟩ := List.mem_map.1 hj
        obtain ⟨k', hk', hg'⟩ := info_at he
        have := hr.inv.inj k k' b c c' hg hg'
        subst this
        exact hnd.2.2 k hk k (List.mem_flatMap.2 ⟨rk', hm, hk'⟩) rfl
      cases rks with
      | nil =>
        obtain ⟨u, h1, h2⟩ := RK_get hT hr hok1 (y := y) h hA hO1 hS1
        cases rvs with
        | nil =>
          refine ⟨[u], ?_, h2, dis, trivial⟩
          simp only [List.mapM_cons, List.mapM_nil, Sem.run_bind, h1, Result.andThen_ok, Sem.run_pure]
        | cons rv' rvs => cases rv' <;> cases hok2
      | cons rk' rks =>
        obtain ⟨y1, h1, h⟩ := Option.bind_eq_some_iff.1 h
        obtain ⟨y2, h2, h⟩ := Option.bind_eq_some_iff.1 h
        cases h
        obtain ⟨u, h3, h4⟩ := RK_get hT hr hok1 h1 hA hO1 hS1
        obtain ⟨us, h5, h6⟩ := ih rvs y2 hok2 h2 hnd.2.1 hO2 hS2
        refine ⟨u :: us, ?_, h4, dis, h6⟩
        simp only [List.mapM_cons, Sem.run_bind, h3, Result.andThen_ok, h5, Sem.run_pure]
theorem rtG_RetR (hT : TabOK P E.T) (hr : RS x γ st a w) (hB : x.B = w0.heap.size) (hM : ∀ b, ¬ x.M b) {fn : Func} {rks : List RK} {y : rksDen rks} (hok : rksOK E.T fn.results.toList rks = true) (h : rtG rks st = some y) :
    ∃ u, (results fn a.tmps).run P w = .ok u w ∧ RetR w0 w x.A0 (rets rks y) u := by
  unfold rtG at h
  obtain ⟨hk, h⟩ := cond_some h rfl
  simp only [rkOK, Bool.and_eq_true] at hk
  have hnd := nodupB_spec hk.1
  let A1 : Nat → Prop := newA w0 w x.A0 (rks.map (RK.info γ st))
  have hA : ∀ b, Av x γ w b → A1 b := by
    intro b hb
    refine ⟨hb.1, fun hlt => hb.2.1 (by omega), fun i hi c he => ?_⟩
    obtain ⟨rk, _, rfl⟩ := List.mem_map.1 hi
    obtain ⟨k, _, hg⟩ := info_at he
    exact hb.2.2 k c hg
  have hS : ∀ k ∈ rks.flatMap (RK.slK st), ∀ b c, γ k = some (.at b c) → A1 b := by
    intro k hkm b c hg
    have h1 := hr.inv.rng k b c hg
    have h2 := h1.1.resolve_right (hM b)
    refine ⟨h1.2, fun hlt => by omega, fun i hi c' he => ?_⟩
    obtain ⟨rk, hm, rfl⟩ := List.mem_map.1 hi
    obtain ⟨k', hk', hg'⟩ := info_at he
    have := hr.inv.inj k k' b c c' hg hg'
    subst this
    have h3 := List.all_eq_true.1 hk.2 k hkm
    rw [mem_memN.2 (List.mem_flatMap.2 ⟨rk, hm, hk'⟩)] at h3
    cases h3
  obtain ⟨us, h1, h2⟩ := RKs_get hT hr hA rks fn.results.toList y hok h hnd (fun k _ b c hg => by rw [← hB]; exact (hr.inv.rng k b c hg).1.resolve_right (hM b)) hS
  exact ⟨retVal us, results_run h1, rks.map (RK.info γ st), us, rfl, h2⟩
/-! ### Parameters -/
theorem aPtr_VR1 {s : Sh} {v : V} {y : s.den} {u : Value} (h : aPtr s v = some y) (hv : VR1 γ w A H v u) : VR1 γ w A H (.iptr (cells s y)) u := by
  unfold aPtr at h
  split at h
  · rename_i cs
    obtain ⟨b, o, cur, et, fz, h1, h2, h3, h4, h5⟩ := hv
    have hV := VRs.of_ofC s _ y _ h (h5.take s.nc)
    have hl := hV.length
    simp only [List.length_take, List.length_drop, Array.length_toList] at hl
    have hC := CR.of_VRs s y _ hV
    refine ⟨b, o, cur, et, fz, h1, h2, h3, by rw [cells_length]; omega, ?_⟩
    rw [cells_length]
    rw [List.take_take, Nat.min_eq_left (by omega)] at hC
    exact hC
  · cases h
theorem capsArg_VR1 : ∀ (l : List Sh) (vs : List V) (us : List Value) (y : capsDen l), capsArg l vs = some y → All2 (VR1 γ w A H) vs us → All2 (VR1 γ w A H) (capsV l y) us
  | [], [], us, y, h, hv => hv
  | s :: l, v :: vs, [], y, h, hv => hv.elim
  | s :: l, v :: vs, u :: us, y, h, hv => by
    simp only [capsArg] at h
    obtain ⟨y1, h1, h⟩ := Option.bind_eq_some_iff.1 h
    obtain ⟨y2, h2, h⟩ := Option.bind_eq_some_iff.1 h
    cases h
    exact ⟨aPtr_VR1 h1 hv.1, capsArg_VR1 l vs us y2 h2 hv.2⟩
  | [], _ :: _, _, _, h, _ => by cases h
  | _ :: _, [], _, _, h, _ => by cases h
theorem PK.arg_val {pk : PK} {v : V} {y : pk.den} {u : Value} (h : pk.arg v = some y) (hv : VR γ w A H v u) : VR γ w A H (pk.val y) u := by
  cases pk with
  | c s =>
    obtain ⟨vs, h1, h2⟩ := valOf_VRs h hv
    have hc := CR.of_VRs s y vs h1
    simp only [PK.val]
    cases hs : s.agg with
    | true =>
      rw [hs] at h2
      exact ⟨vs, by simpa using h2, hc⟩
    | false =>
      rw [hs] at h2
      simp only [cond_false]
      have hl := cells_length s y
      rw [nagg_one hs] at hl
      match hcs : cells s y, hl with
      | [z], _ =>
        rw [hcs] at hc
        obtain ⟨v', rfl, hv'⟩ := hc.one
        simp at h2
        subst h2
        exact hv'
  | p s =>
    have : VR1 γ w A H v u := by
      simp only [PK.arg, aPtr] at h
      split at h
      · exact hv
      · cases h
    exact aPtr_VR1 h this
  | f g caps =>
    simp only [PK.arg] at h
    split at h
    · rename_i g' vs
      obtain ⟨hg, h⟩ := cond_some h rfl
      have := Nat.eq_of_beq_eq_true hg
      subst this
      obtain ⟨us, h1, h2⟩ := hv
      exact ⟨us, h1, capsArg_VR1 caps vs us y h h2⟩
    · cases h
theorem pksV_len : ∀ (l : List PK) (xs : pksDen l), (pksV l xs).length = l.length
  | [], _ => rfl
  | _ :: l, xs => by simp [pksV, pksV_len l]
theorem pksArg_VR : ∀ (l : List PK) (vs : List V) (us : List Value) (xs : pksDen l), pksArg l vs = some xs → All2 (VR γ w A H) vs us → All2 (VR γ w A H) (pksV l xs) us
  | [], [], us, xs, h, hv => hv
  | s :: l, v :: vs, [], y, h, hv => hv.elim
  | s :: l, v :: vs, u :: us, y, h, hv => by
    simp only [pksArg] at h
    obtain ⟨y1, h1, h⟩ := Option.bind_eq_some_iff.1 h
    obtain ⟨y2, h2, h⟩ := Option.bind_eq_some_iff.1 h
    cases h
    exact ⟨PK.arg_val h1 hv.1, pksArg_VR l vs us y2 h2 hv.2⟩
  | [], _ :: _, _, _, h, _ => by cases h
  | _ :: _, [], _, _, h, _ => by cases h
/-! ### A function's contract -/
/-- The state in which a call begins. -/
theorem RS.start {pks : List PK} {xs : pksDen pks} {vs : List V} {args : List Value} {n : Nat} (hds : [] = x.ds) (hx : x.w0 = w) (hxB : x.B = w.heap.size) (hpin : ∀ k, x.pin k = none) (hA0 : ∀ b, x.A0 b → b < w.heap.size) (hv : pksArg pks vs = some xs)
    (hargs : All2 (VR noGam w x.A0 emp) vs args) : RS x noGam (st0 pks xs n) { tmps := args.toArray ++ Array.replicate (n - args.toArray.size) undef, defers := [] } w := by
  have h1 := pksArg_VR pks vs args xs hv hargs
  have hlen := h1.length
  rw [pksV_len] at hlen
  have hav : ∀ b, x.A0 b → Av x noGam w b ∧ w.heap[b]? = w.heap[b]? := fun b hb => ⟨⟨hA0 b hb, fun _ => hb, fun k c h => by cases h⟩, rfl⟩
  refine ⟨⟨by omega, by rw [hx], by rw [hx], by rw [hx], fun b _ _ => by rw [hx], fun k i h => (by cases h), fun k b c h => (by cases h), fun k k' b c c' h => (by cases h), fun k i h => by (rw [hpin k] at h; cases h), fun k cs off b c ob h1 h2 h3 h4 => by cases h3⟩, ?_, ?_, hds⟩
  · simp only [st0, List.length_append, pksV_len, List.length_replicate, Array.size_append, List.size_toArray, Array.size_replicate]
    omega
  · intro t v hv'
    simp only [st0, List.getElem?_append] at hv'
    split at hv'
    · rename_i hlt
      obtain ⟨u, hu, hvr⟩ := h1.get hv'
      have : (args.toArray ++ Array.replicate (n - args.toArray.size) undef).getD t undef = u := by
        have hta : t < args.length := (List.getElem?_eq_some_iff.1 hu).1
        rw [Array.getD_eq_getD_getElem?, Array.getElem?_append_left (by simpa using hta)]
        simp [hu]
      rw [this]
      exact VR.mono hav v u hvr
    · rw [List.getElem?_replicate] at hv'
      split at hv'
      · cases hv'
        trivial
      · cases hv'
theorem FC.of_runG (hT : TabOK P E.T) (hE : EqsOK P E.T) (hphi : EnvOK P E) (hpar : EnvPar E) (hm : P.follows .mixedOrders = true) {sc : Scp} {g : FuncId} {fn : Func} {c : Code} {an : Ann} (hsc : ∀ x, ∀ p ∈ occ c an, ScAt P x sc p.1 p.2) {pks : List PK} {rks : List RK} {xs : pksDen pks} {vs : List V}
    {r : rksDen rks} (hf : P.funcs[g]? = some fn) (hb : fn.body = some c) (hrk : rksOK E.T fn.results.toList rks = true) (hv : pksArg pks vs = some xs) (h : runG E sc c an (rtG rks) (fun _ _ => none) (rtG rks) (st0 pks xs fn.ntmps) = some r) : FC P g vs (rets rks r) := by
  intro w A0 args hA0 hargs hgl
  let x : Cx := { B := w.heap.size, M := fun _ => False, A0 := A0, w0 := w, ma := fun _ h => h.elim, glob := ⟨rfl, hgl⟩, gM := fun _ _ _ h => h }
  have hr := RS.start (x := x) (n := fn.ntmps) rfl rfl rfl (fun _ => rfl) hA0 hv hargs
  have fin : ∀ st γ a w', rtG rks st = some r → RS x γ st a w' → a.defers = [] ∧ ∃ v, (results fn a.tmps).run P w' = .ok v w' ∧ (Grows w w' ∧ RetR w w' A0 (rets rks r) v) := by
    intro st γ a w' hrt hr'
    obtain ⟨u, h1, h2⟩ := rtG_RetR (w0 := w) hT hr' rfl (fun _ h => h) hrk hrt
    exact ⟨hr'.nod, u, h1, ⟨hr'.inv.size, hr'.inv.os, hr'.inv.tape, hr'.inv.output, fun b hb => hr'.inv.blk b hb (fun h => h)⟩, h2⟩
  refine calls_of_wp hf hb (runG_sound hT hE hphi hpar hm c an (hsc x) _ _ _ _ _ _ _ _ h hr ⟨?_, ?_, ?_⟩)
  · intro st γ a w' hrt hr'
    exact fin st γ a w' hrt hr'
  · intro j st γ a w' hrt hr'
    cases hrt
  · intro st γ a w' hrt hr'
    exact fin st γ a w' hrt hr'
/-- A callee's place in what is called. -/
def FCs (P : Program) (g : FuncId) (F : List V → (ρ : Type) → (Ret → Option ρ) → Option ρ) : Prop :=
  ∀ vs ρ (K : Ret → Option ρ) r, F vs ρ K = some r → ∃ ret, K ret = some r ∧ FC P g vs ret
def Par1 (F : List V → (ρ : Type) → (Ret → Option ρ) → Option ρ) : Prop :=
  ∀ vs (ρ : Type) (K : Ret → Option ρ) r, F vs ρ K = some r → ∃ ret, K ret = some r ∧ ∀ (ρ' : Type) (K' : Ret → Option ρ'), F vs ρ' K' = K' ret
def CallOK (P : Program) (g : FuncId) : Prop := ∀ args w, (callFunc g args).run P w = .ok (.enter g args) w
theorem callOK_of {g : FuncId} {fn : Func} (hf : P.funcs[g]? = some fn) (hn : (fn.name == "runtime.NumGoroutine") = false) (hb : fn.body.isNone = false) : CallOK P g := by
  intro args w
  unfold callFunc
  simp only [Sem.run_bind]
  have : (program : Sem Program).run P w = .ok P w := rfl
  rw [this]
  simp only [Result.andThen_ok, hf, hn, hb, Bool.false_eq_true, if_false, Sem.run_pure]
theorem phiOf_FCs {g : FuncId} {pks : List PK} {rks : List RK} {S : pksDen pks → Option (rksDen rks)} (h : ∀ xs r, S xs = some r → ∀ vs, pksArg pks vs = some xs → FC P g vs (rets rks r)) : FCs P g (phiOf pks rks S) := by
  intro vs ρ K r hk
  unfold phiOf at hk
  obtain ⟨xs, h1, hk⟩ := Option.bind_eq_some_iff.1 hk
  obtain ⟨y, h2, hk⟩ := Option.bind_eq_some_iff.1 hk
  exact ⟨_, hk, h xs y h2 vs h1⟩
theorem phiOf_Par1 {pks : List PK} {rks : List RK} {S : pksDen pks → Option (rksDen rks)} : Par1 (phiOf pks rks S) := by
  intro vs ρ K r hk
  unfold phiOf at hk
  obtain ⟨xs, h1, hk⟩ := Option.bind_eq_some_iff.1 hk
  obtain ⟨y, h2, hk⟩ := Option.bind_eq_some_iff.1 hk
  refine ⟨_, hk, fun ρ' K' => ?_⟩
  simp only [phiOf, h1, Option.bind_some, h2]
def noPhi : Phi := fun _ _ _ _ => none
theorem noPhi_ok : PhiOK P noPhi := by intro g vs ρ K r h; cases h
theorem noPhi_par : PhiPar noPhi := by intro g vs ρ K r h; cases h
/-- One callee more. -/
def consPhi (g : FuncId) (q : List V → Bool) (F : List V → (ρ : Type) → (Ret → Option ρ) → Option ρ) (phi : Phi) : Phi := fun g' vs ρ K => bif Nat.beq g' g && q vs then F vs ρ K else phi g' vs ρ K
theorem consPhi_ok {g : FuncId} {q : List V → Bool} {F : List V → (ρ : Type) → (Ret → Option ρ) → Option ρ} {phi : Phi} (hF : FCs P g F) (hc : CallOK P g) (h : PhiOK P phi) : PhiOK P (consPhi g q F phi) := by
  intro g' vs ρ K r hk
  unfold consPhi at hk
  cases hb : Nat.beq g' g && q vs with
  | true =>
    rw [hb] at hk
    rw [Bool.and_eq_true] at hb
    have := Nat.eq_of_beq_eq_true hb.1
    subst this
    obtain ⟨ret, h1, h2⟩ := hF vs ρ K r hk
    exact ⟨ret, h1, h2, hc⟩
  | false =>
    rw [hb] at hk
    exact h g' vs ρ K r hk
theorem consPhi_par {g : FuncId} {q : List V → Bool} {F : List V → (ρ : Type) → (Ret → Option ρ) → Option ρ} {phi : Phi} (hF : Par1 F) (h : PhiPar phi) : PhiPar (consPhi g q F phi) := by
  intro g' vs ρ K r hk
  unfold consPhi at hk ⊢
  cases hb : Nat.beq g' g && q vs with
  | true =>
    rw [hb] at hk
    exact hF vs ρ K r hk
  | false =>
    rw [hb] at hk
    exact h g' vs ρ K r hk
theorem eqsB_ok {T : Tab} (h : T.eqs.all (eqsB P) = true) : EqsOK P T :=
  ⟨fun t s hl => List.all_eq_true.1 h _ (look_mem hl)⟩
end
end Go.Vi
/-
  Vi: functions that write what they are handed: a contract out of a run.
-/
set_option linter.unusedVariables false
set_option linter.unusedSimpArgs false
namespace Go.Vi
open Op
section
variable {P : Program} {E : Env} {x : Cx} {γ γ' : Gam} {w w0 : World} {a : Act} {st st' : St} {A A0 A1 : Nat → Prop}
variable {Q : Exit → Act → World → Prop} {H H' : Heap} {ρ : Type} {k : St → Option ρ} {r : ρ}
theorem updAll_in {H : Heap} : ∀ {L : List (Nat × O)} {k : Nat} {ob : O}, (L.map (·.1)).Nodup → (k, ob) ∈ L → updAll H L k = some ob
  | [], _, _, _, h => by cases h
  | (k', ob') :: L, k, ob, hn, h => by
    obtain ⟨h1, h2⟩ := List.nodup_cons.1 hn
    simp only [updAll]
    rcases List.mem_cons.1 h with h | h
    · cases h
      exact upd_self _ _ _
    · have hne : k ≠ k' := fun e => h1 (by
        simp only
        rw [← e]
        exact List.mem_map.2 ⟨(k, ob), h, rfl⟩)
      rw [upd_ne _ _ hne]
      exact updAll_in h2 h
def qksCnt : List QK → Nat
  | [] => 0
  | k :: r => k.cnt + qksCnt r
theorem boxes_keys : ∀ (n : Nat) (l : List Sh) (y : capsDen l), (boxes n l y).map (·.1) = List.range' (pinLo + n) l.length
  | _, [], _ => rfl
  | n, s :: r, y => by
    simp only [boxes, List.map_cons, List.length_cons, List.range'_succ]
    rw [boxes_keys (n + 1) r y.2, Nat.add_assoc]
theorem objs_keys (n : Nat) (k : QK) (y : k.den) : (k.objs n y).map (·.1) = List.range' (pinLo + n) k.cnt := by
  cases k with
  | pl k => rfl
  | oa e => rfl
  | ob s => rfl
  | «of» g caps => exact boxes_keys n caps y
  | fp g caps => exact boxes_keys n caps y
  | sf f cds => rfl
theorem qksH_keys : ∀ (n : Nat) (l : List QK) (y : qksDen l), (qksH n l y).map (·.1) = List.range' (pinLo + n) (qksCnt l)
  | _, [], _ => rfl
  | n, k :: r, y => by
    simp only [qksH, List.map_append, objs_keys, qksH_keys (n + k.cnt) r, qksCnt]
    rw [← Nat.add_assoc, List.range'_append_1]
theorem boxOf_io {s : Sh} {v : V} {y : s.den} {i : Info} {u : Value} (h : boxOf s v = some y) (hv : IoV w A0 v i u) : (∃ b c, i = .at b c ∧ u = .pointer (some ⟨b, 0, none⟩)) ∧ objR w A0 (.box (cells s y)) i := by
  unfold boxOf at h
  split at h
  · rename_i cs
    obtain ⟨⟨b, c, rfl, hu⟩, cur, et, h1, h2⟩ := hv
    exact ⟨⟨b, c, rfl, hu⟩, cur, et, h1, CR.of_VRs s y _ (VRs.of_ofC s cs y _ h h2)⟩
  · cases h
/-- The things that are handed in, one by one: the value in the slot, and what it stands for. -/
theorem boxes_VR : ∀ (n : Nat) (l : List Sh) (vs : List V) (is : List Info) (us : List Value) (y : capsDen l), boxesOf l vs = some y → IoL w A0 vs is us → (∀ j i, is[j]? = some i → γ (pinLo + (n + j)) = some i) →
    All2 (VR1 γ w A H) (ptrs n l) us ∧ is.length = l.length ∧ ∀ j i, is[j]? = some i → ∃ ob, (pinLo + (n + j), ob) ∈ boxes n l y ∧ objR w A0 ob i
  | n, [], [], [], [], y, h, hv, hg => ⟨trivial, rfl, by simp⟩
  | n, s :: l, v :: vs, i :: is, u :: us, y, h, hv, hg => by
    simp only [boxesOf] at h
    obtain ⟨y1, h1, h⟩ := Option.bind_eq_some_iff.1 h
    obtain ⟨y2, h2, h⟩ := Option.bind_eq_some_iff.1 h
    cases h
    obtain ⟨⟨b, c, hi, hu⟩, ho⟩ := boxOf_io h1 hv.1
    obtain ⟨i1, i2, i3⟩ := boxes_VR (n + 1) l vs is us y2 h2 hv.2 fun j i' hj => by
      have := hg (j + 1) i' (by simpa using hj)
      rwa [show n + 1 + j = n + (j + 1) by omega]
    refine ⟨⟨⟨b, c, by rw [← hi]; exact hg 0 i (by simp), hu⟩, i1⟩, by simp [i2], fun j i' hj => ?_⟩
    cases j with
    | zero =>
      simp at hj
      subst hj
      exact ⟨_, by simp [boxes], ho⟩
    | succ j =>
      obtain ⟨ob, hm, hr⟩ := i3 j i' (by simpa using hj)
      rw [show n + 1 + j = n + (j + 1) by omega] at hm
      exact ⟨ob, by simp [boxes, hm], hr⟩
  | _, [], _ :: _, _, _, _, h, _, _ => by cases h
  | _, _ :: _, [], _, _, _, h, _, _ => by cases h
  | _, [], [], _ :: _, _, _, _, h, _ => by exact h.elim
  | _, [], [], [], _ :: _, _, _, h, _ => h.elim
  | _, _ :: _, _ :: _, [], _, _, _, h, _ => h.elim
  | _, _ :: _, _ :: _, _ :: _, [], _, _, h, _ => h.elim
theorem PK.val_refs (pk : PK) (y : pk.den) (k : Nat) : refs k (pk.val y) = false := by
  cases pk with
  | c s =>
    simp only [PK.val]
    cases hs : s.agg with
    | true => rfl
    | false =>
      simp only [cond_false]
      split <;> rfl
  | p s => rfl
  | f g caps =>
    have : ∀ (l : List Sh) (y : capsDen l), refsAny k (capsV l y) = false := by
      intro l
      induction l with
      | nil => intro _; rfl
      | cons s l ih => intro y; exact ih y.2
    exact this caps y
theorem PtrR.gam (hG : ∀ k i, γ k = some i → γ' k = some i) : ∀ (k : Nat) (u : Value), PtrR γ k u → PtrR γ' k u := by
  rintro k u ⟨b, c, h1, h2⟩
  exact ⟨b, c, hG k _ h1, h2⟩
theorem CDR.gam (hG : ∀ k i, γ k = some i → γ' k = some i) {b : Nat} : ∀ (c : CD) (u : Value), CDR γ w A b c u → CDR γ' w A b c u := by
  intro c u h
  cases c with
  | b k => exact PtrR.gam hG k u h
  | s => exact h
  | v g ks =>
    obtain ⟨b', us, h1, h2, h3⟩ := h
    exact ⟨b', us, h1, h2, h3.mono (PtrR.gam hG)⟩
theorem ptrs_CDR {b : Nat} : ∀ (n : Nat) (l : List Sh) (us : List Value), All2 (VR1 γ w A H) (ptrs n l) us → All2 (CDR γ w A b) (pinBs n l) us
  | _, [], [], _ => trivial
  | n, _ :: l, u :: us, h => ⟨h.1, ptrs_CDR (n + 1) l us h.2⟩
  | _, [], _ :: _, h => h.elim
  | _, _ :: _, [], h => h.elim
theorem qks_VR {is0 : List Info} (hG : ∀ k i, pinG is0 k = some i → γ k = some i) (hA : ∀ b, A0 b → A b) (hH : ∀ k ob, (k, ob) ∈ (qksH 0 ([] : List QK) ()) → H k = some ob) : ∀ (l : List QK) (n : Nat) (vs : List V) (is : List Info) (us : List Value) (y : qksDen l), qksArg l vs = some y → IoRel w A0 is0 (l.map QK.flag) vs is us →
    (∀ j i, is[j]? = some i → γ (pinLo + (n + j)) = some i) → (∀ p ∈ qksH n l y, H p.1 = some p.2) →
    All2 (VR γ w A H) (qksV n l y) us ∧ is.length = qksCnt l ∧ ∀ j i, is[j]? = some i → ∃ ob, (pinLo + (n + j), ob) ∈ qksH n l y ∧ objR w A0 ob i
  | [], n, [], [], [], y, h, hv, hg, hH => ⟨trivial, rfl, by simp⟩
  | .pl k :: l, n, v :: vs, is, u :: us, y, h, hv, hg, hH => by
    simp only [qksArg] at h
    obtain ⟨y1, h1, h⟩ := Option.bind_eq_some_iff.1 h
    obtain ⟨y2, h2, h⟩ := Option.bind_eq_some_iff.1 h
    cases h
    obtain ⟨hv1, hv2⟩ := hv
    obtain ⟨i1, i2, i3⟩ := qks_VR hG hA (fun _ _ h => by cases h) l (n + 0) vs is us y2 h2 hv2 hg fun p hp => hH p (by simpa [qksH, QK.objs, QK.cnt] using hp)
    refine ⟨⟨?_, i1⟩, by simp [qksCnt, QK.cnt, i2], fun j i hj => ?_⟩
    · have h3 : VR (pinG is0) w A0 emp (k.val y1) u := PK.arg_val h1 hv1
      refine VR.keyr _ _ (fun q hq => by
        have hq' : refs q (k.val y1) = true := hq
        rw [PK.val_refs] at hq'
        cases hq') (VR.mono (fun b hb => ⟨hA b hb, rfl⟩) _ _ h3)
    · obtain ⟨ob, hm, hr⟩ := i3 j i hj
      exact ⟨ob, by simpa [qksH, QK.objs, QK.cnt] using hm, hr⟩
  | .oa e :: l, n, v :: vs, [], u :: us, y, h, hv, hg, hH => by
    cases v with
    | fn g caps => simp only [qksArg, QK.arg, Option.bind_none] at h; cases h
    | fpb g caps => simp only [qksArg, QK.arg, Option.bind_none] at h; cases h
    | _ => exact hv.elim
  | .oa e :: l, n, v :: vs, i :: is, u :: us, y, h, hv, hg, hH => by
    simp only [qksArg] at h
    obtain ⟨y1, h1, h⟩ := Option.bind_eq_some_iff.1 h
    obtain ⟨y2, h2, h⟩ := Option.bind_eq_some_iff.1 h
    cases h
    simp only [QK.arg] at h1
    split at h1
    · rename_i e' xs t
      obtain ⟨he, rfl⟩ := castL_eq' h1
      subst he
      obtain ⟨hv1, hv2⟩ : IoV w A0 (.c (.sl e' xs t)) i u ∧ IoRel w A0 is0 (l.map QK.flag) vs is us := hv
      obtain ⟨i1, i2, i3⟩ := qks_VR hG hA (fun _ _ h => by cases h) l (n + 1) vs is us y2 h2 hv2 (fun j i' hj => by
        have := hg (j + 1) i' (by simpa using hj)
        rwa [show n + 1 + j = n + (j + 1) by omega]) fun p hp => hH p (by simp only [qksH, QK.cnt, List.mem_append]; exact .inr hp)
      refine ⟨⟨⟨i, e', xs, false, hg 0 i (by simp), hH (pinLo + n, .arr e' xs false) (by simp [qksH, QK.objs]), hv1.1⟩, i1⟩, by simp [qksCnt, QK.cnt, i2]; omega, fun j i' hj => ?_⟩
      cases j with
      | zero =>
        simp at hj
        subst hj
        exact ⟨_, by simp [qksH, QK.objs], hv1.2⟩
      | succ j =>
        obtain ⟨ob, hm, hr⟩ := i3 j i' (by simpa using hj)
        rw [show n + 1 + j = n + (j + 1) by omega] at hm
        exact ⟨ob, by simp only [qksH, QK.cnt, List.mem_append]; exact .inr hm, hr⟩
    · cases h1
  | .ob s :: l, n, v :: vs, [], u :: us, y, h, hv, hg, hH => by
    cases v with
    | fn g caps => simp only [qksArg, QK.arg, boxOf, Option.bind_none] at h; cases h
    | fpb g caps => simp only [qksArg, QK.arg, boxOf, Option.bind_none] at h; cases h
    | _ => exact hv.elim
  | .ob s :: l, n, v :: vs, i :: is, u :: us, y, h, hv, hg, hH => by
    simp only [qksArg] at h
    obtain ⟨y1, h1, h⟩ := Option.bind_eq_some_iff.1 h
    obtain ⟨y2, h2, h⟩ := Option.bind_eq_some_iff.1 h
    cases h
    obtain ⟨cs, rfl⟩ : ∃ cs, v = .iptr cs := by
      simp only [QK.arg, boxOf] at h1
      split at h1
      · exact ⟨_, rfl⟩
      · cases h1
    obtain ⟨hv1, hv2⟩ : IoV w A0 (.iptr cs) i u ∧ IoRel w A0 is0 (l.map QK.flag) vs is us := hv
    obtain ⟨⟨b, c, hi, hu⟩, ho⟩ := boxOf_io (s := s) (y := y1) (v := .iptr cs) h1 hv1
    obtain ⟨i1, i2, i3⟩ := qks_VR hG hA (fun _ _ h => by cases h) l (n + 1) vs is us y2 h2 hv2 (fun j i' hj => by
      have := hg (j + 1) i' (by simpa using hj)
      rwa [show n + 1 + j = n + (j + 1) by omega]) fun p hp => hH p (by simp only [qksH, QK.cnt, List.mem_append]; exact .inr hp)
    refine ⟨⟨⟨b, c, by rw [← hi]; exact hg 0 i (by simp), hu⟩, i1⟩, by simp [qksCnt, QK.cnt, i2]; omega, fun j i' hj => ?_⟩
    cases j with
    | zero =>
      simp at hj
      subst hj
      exact ⟨_, by simp [qksH, QK.objs], ho⟩
    | succ j =>
      obtain ⟨ob, hm, hr⟩ := i3 j i' (by simpa using hj)
      rw [show n + 1 + j = n + (j + 1) by omega] at hm
      exact ⟨ob, by simp only [qksH, QK.cnt, List.mem_append]; exact .inr hm, hr⟩
  | .of g caps :: l, n, v :: vs, is, u :: us, y, h, hv, hg, hH => by
    simp only [qksArg] at h
    obtain ⟨y1, h1, h⟩ := Option.bind_eq_some_iff.1 h
    obtain ⟨y2, h2, h⟩ := Option.bind_eq_some_iff.1 h
    cases h
    simp only [QK.arg] at h1
    split at h1
    · rename_i g' vs'
      obtain ⟨hgg, h1⟩ := cond_some h1 rfl
      have := Nat.eq_of_beq_eq_true hgg
      subst this
      obtain ⟨is1, is2, us', rfl, hu, hv1, hv2⟩ := hv
      obtain ⟨j1, j2, j3⟩ := boxes_VR (γ := γ) (A := A) (H := H) n caps vs' is1 us' y1 h1 hv1 fun j i hj => hg j i (by
        rw [List.getElem?_append_left (List.getElem?_eq_some_iff.1 hj).1]
        exact hj)
      obtain ⟨i1, i2, i3⟩ := qks_VR hG hA (fun _ _ h => by cases h) l (n + caps.length) vs is2 us y2 h2 hv2 (fun j i' hj => by
        have := hg (caps.length + j) i' (by
          rw [List.getElem?_append_right (by omega), j2, show caps.length + j - caps.length = j by omega]
          exact hj)
        rwa [show n + caps.length + j = n + (caps.length + j) by omega]) fun p hp => hH p (by simp only [qksH, QK.cnt, List.mem_append]; exact .inr hp)
      refine ⟨⟨⟨us', hu, j1⟩, i1⟩, by simp [qksCnt, QK.cnt, i2, j2], fun j i' hj => ?_⟩
      rcases Nat.lt_or_ge j is1.length with hlt | hge
      · rw [List.getElem?_append_left hlt] at hj
        obtain ⟨ob, hm, hr⟩ := j3 j i' hj
        exact ⟨ob, by simp only [qksH, QK.objs, List.mem_append]; exact .inl hm, hr⟩
      · rw [List.getElem?_append_right hge] at hj
        obtain ⟨ob, hm, hr⟩ := i3 (j - is1.length) i' hj
        rw [show n + caps.length + (j - is1.length) = n + j by omega] at hm
        exact ⟨ob, by simp only [qksH, QK.cnt, List.mem_append]; exact .inr hm, hr⟩
    · cases h1
  | .fp g caps :: l, n, v :: vs, is, u :: us, y, h, hv, hg, hH => by
    simp only [qksArg] at h
    obtain ⟨y1, h1, h⟩ := Option.bind_eq_some_iff.1 h
    obtain ⟨y2, h2, h⟩ := Option.bind_eq_some_iff.1 h
    cases h
    simp only [QK.arg] at h1
    split at h1
    · rename_i g' css
      obtain ⟨hgg, h1⟩ := cond_some h1 rfl
      have := Nat.eq_of_beq_eq_true hgg
      subst this
      obtain ⟨is1, is2, us', b, rfl, hu, hbox, hv1, hv2⟩ := hv
      obtain ⟨j1, j2, j3⟩ := boxes_VR (γ := γ) (A := A) (H := H) n caps (css.map .iptr) is1 us' y1 h1 hv1 fun j i hj => hg j i (by
        rw [List.getElem?_append_left (List.getElem?_eq_some_iff.1 hj).1]
        exact hj)
      obtain ⟨i1, i2, i3⟩ := qks_VR hG hA (fun _ _ h => by cases h) l (n + caps.length) vs is2 us y2 h2 hv2 (fun j i' hj => by
        have := hg (caps.length + j) i' (by
          rw [List.getElem?_append_right (by omega), j2, show caps.length + j - caps.length = j by omega]
          exact hj)
        rwa [show n + caps.length + j = n + (caps.length + j) by omega]) fun p hp => hH p (by simp only [qksH, QK.cnt, List.mem_append]; exact .inr hp)
      refine ⟨⟨⟨b, us', hu, hbox.mono (fun b hb => ⟨hA b hb, rfl⟩), ptrs_CDR n caps us' j1⟩, i1⟩, by simp [qksCnt, QK.cnt, i2, j2], fun j i' hj => ?_⟩
      rcases Nat.lt_or_ge j is1.length with hlt | hge
      · rw [List.getElem?_append_left hlt] at hj
        obtain ⟨ob, hm, hr⟩ := j3 j i' hj
        exact ⟨ob, by simp only [qksH, QK.objs, List.mem_append]; exact .inl hm, hr⟩
      · rw [List.getElem?_append_right hge] at hj
        obtain ⟨ob, hm, hr⟩ := i3 (j - is1.length) i' hj
        rw [show n + caps.length + (j - is1.length) = n + j by omega] at hm
        exact ⟨ob, by simp only [qksH, QK.cnt, List.mem_append]; exact .inr hm, hr⟩
    · cases h1
  | .sf f cds :: l, n, v :: vs, is, u :: us, y, h, hv, hg, hH => by
    simp only [qksArg] at h
    obtain ⟨y1, h1, h⟩ := Option.bind_eq_some_iff.1 h
    obtain ⟨y2, h2, h⟩ := Option.bind_eq_some_iff.1 h
    cases h
    obtain ⟨hv1, hv2⟩ := hv
    obtain ⟨i1, i2, i3⟩ := qks_VR hG hA (fun _ _ h => by cases h) l (n + 0) vs is us y2 h2 hv2 hg fun p hp => hH p (by simpa [qksH, QK.objs, QK.cnt] using hp)
    refine ⟨⟨?_, i1⟩, by simp [qksCnt, QK.cnt, i2], fun j i hj => ?_⟩
    · simp only [QK.arg] at h1
      split at h1
      · rename_i f' cds'
        obtain ⟨hd, h1⟩ := cond_some h1 rfl
        rw [Bool.and_eq_true, decide_eq_true_eq] at hd
        obtain ⟨hd1, rfl⟩ := hd
        have := Nat.eq_of_beq_eq_true hd1
        subst this
        obtain ⟨b, us', e1, e2, e3⟩ := hv1
        have hA' : ∀ b, A0 b → A b ∧ w.heap[b]? = w.heap[b]? := fun b hb => ⟨hA b hb, rfl⟩
        exact ⟨b, us', e1, e2.mono hA', (e3.mono (CDR.mono hA')).mono (CDR.gam hG)⟩
      · cases h1
    · obtain ⟨ob, hm, hr⟩ := i3 j i hj
      exact ⟨ob, by simpa [qksH, QK.objs, QK.cnt] using hm, hr⟩
  | [], _, _ :: _, _, _, _, h, _, _, _ => by cases h
  | _ :: _, _, [], _, _, _, h, _, _, _ => by cases h
  | [], _, [], _ :: _, _, _, _, h, _, _ => h.elim
  | [], _, [], [], _ :: _, _, _, h, _, _ => h.elim
  | .pl _ :: _, _, _ :: _, [], [], _, _, h, _, _ => h.elim
  | .pl _ :: _, _, _ :: _, _ :: _, [], _, _, h, _, _ => h.elim
  | .oa _ :: _, _, v :: _, [], [], _, _, h, _, _ => by cases v <;> exact h.elim
  | .oa _ :: _, _, v :: _, _ :: _, [], _, _, h, _, _ => by cases v <;> exact h.elim
  | .ob _ :: _, _, v :: _, [], [], _, _, h, _, _ => by cases v <;> exact h.elim
  | .ob _ :: _, _, v :: _, _ :: _, [], _, _, h, _, _ => by cases v <;> exact h.elim
  | .of _ _ :: _, _, v :: _, [], [], _, _, h, _, _ => by cases v <;> exact h.elim
  | .of _ _ :: _, _, v :: _, _ :: _, [], _, _, h, _, _ => by cases v <;> exact h.elim
  | .fp _ _ :: _, _, v :: _, [], [], _, _, h, _, _ => by cases v <;> exact h.elim
  | .fp _ _ :: _, _, v :: _, _ :: _, [], _, _, h, _, _ => by cases v <;> exact h.elim
  | .sf _ _ :: _, _, _ :: _, [], [], _, _, h, _, _ => h.elim
  | .sf _ _ :: _, _, _ :: _, _ :: _, [], _, _, h, _, _ => h.elim
theorem qksV_len : ∀ (n : Nat) (l : List QK) (xs : qksDen l), (qksV n l xs).length = l.length
  | _, [], _ => rfl
  | n, k :: l, xs => by simp [qksV, qksV_len (n + k.cnt) l]
theorem qksCnt_ods : ∀ (l : List QK), (l.flatMap QK.ods).length = qksCnt l
  | [] => rfl
  | k :: l => by
    rw [List.flatMap_cons, List.length_append, qksCnt_ods l, qksCnt]
    congr 1
    cases k <;> simp [QK.ods, QK.cnt]
theorem OD.get_R {d : OD} {ob : O} {y : d.den} {i : Info} (h : d.get ob = some y) (ho : objR w A ob i) (hA : ∀ b, A b → A1 b) : OutR w A1 (d.out y) i := by
  have hA' : ∀ b, A b → A1 b ∧ w.heap[b]? = w.heap[b]? := fun b hb => ⟨hA b hb, rfl⟩
  cases d with
  | a e =>
    cases ob with
    | arr e' ys n =>
      obtain ⟨he, rfl⟩ := castL_eq' h
      subst he
      exact (objR.mono hA' _ i (fun _ _ _ => rfl) ho).weak
    | _ => cases h
  | b s =>
    cases ob with
    | box cs =>
      cases i with
      | emp => exact ho.elim
      | «at» b c =>
        obtain ⟨cur, et, h1, h2⟩ := ho
        exact ⟨cur, et, h1, (CR.of_VRs s y _ (VRs.of_ofC s cs y _ h h2)).mono (CR.mono hA')⟩
    | _ => cases h
theorem odsGet_R (hr : RS x γ st a w) (hA : ∀ b, Av x γ w b → A1 b) : ∀ (l : List OD) (n : Nat) (is : List Info) (y : odsDen l), odsGet st.hp n l = some y → is.length = l.length → (∀ j i, is[j]? = some i → x.pin (pinLo + (n + j)) = some i) →
    All2 (OutR w A1) (outsOf l y) is ∧ ∀ j i, is[j]? = some i → γ (pinLo + (n + j)) = some i
  | [], n, [], y, h, hl, hp => ⟨trivial, by simp⟩
  | d :: l, n, i :: is, y, h, hl, hp => by
    simp only [odsGet] at h
    split at h
    · rename_i ob hob
      obtain ⟨y1, h1, h⟩ := Option.bind_eq_some_iff.1 h
      obtain ⟨y2, h2, h⟩ := Option.bind_eq_some_iff.1 h
      cases h
      have hpin := hr.inv.pin (pinLo + n) i (hp 0 i (by simp)) (by rw [hob]; simp)
      obtain ⟨ob', h3, h4⟩ := hr.inv.own _ _ hpin
      rw [hob] at h3
      cases h3
      obtain ⟨j1, j2⟩ := odsGet_R hr hA l (n + 1) is y2 h2 (by simpa using hl) fun j i' hj => by
        have := hp (j + 1) i' (by simpa using hj)
        rwa [show n + 1 + j = n + (j + 1) by omega]
      refine ⟨⟨OD.get_R h1 h4 hA, j1⟩, fun j i' hj => ?_⟩
      cases j with
      | zero =>
        simp at hj
        subst hj
        exact hpin
      | succ j =>
        have := j2 j i' (by simpa using hj)
        rwa [show n + 1 + j = n + (j + 1) by omega] at this
    · cases h
  | [], _, _ :: _, _, _, hl, _ => by simp at hl
  | _ :: _, _, [], _, _, hl, _ => by simp at hl
theorem boxes_no : ∀ (n : Nat) (l : List Sh) (y : capsDen l), ∀ p ∈ boxes n l y, NoOsl p.2
  | _, [], _, p, h => by cases h
  | n, s :: l, y, p, h => by
    simp only [boxes, List.mem_cons] at h
    rcases h with rfl | h
    · exact NoOsl.box (noOsl_cells s y.1)
    · exact boxes_no (n + 1) l y.2 p h
theorem objs_no (n : Nat) (k : QK) (y : k.den) : ∀ p ∈ k.objs n y, NoOsl p.2 := by
  cases k with
  | pl k => intro p h; cases h
  | sf f c => intro p h; cases h
  | oa e => intro p h; simp only [QK.objs, List.mem_singleton] at h; subst h; exact NoOsl.arr
  | ob s => intro p h; simp only [QK.objs, List.mem_singleton] at h; subst h; exact NoOsl.box (noOsl_cells s y)
  | of g caps => exact boxes_no n caps y
  | fp g caps => exact boxes_no n caps y
theorem qksH_no : ∀ (n : Nat) (l : List QK) (y : qksDen l), ∀ p ∈ qksH n l y, NoOsl p.2
  | _, [], _, p, h => by cases h
  | n, k :: l, y, p, h => by
    rcases List.mem_append.1 h with h | h
    · exact objs_no n k y.1 p h
    · exact qksH_no _ l y.2 p h
theorem updAll_mem {k : Nat} {ob : O} : ∀ {L : List (Nat × O)}, updAll emp L k = some ob → ∃ p ∈ L, p.2 = ob
  | [], h => by cases h
  | (k', ob') :: L, h => by
    simp only [updAll, upd] at h
    cases hb : Nat.beq k k' with
    | true => rw [hb] at h; cases h; exact ⟨_, List.mem_cons_self, rfl⟩
    | false =>
      rw [hb] at h
      obtain ⟨p, hp, e⟩ := updAll_mem (L := L) h
      exact ⟨p, List.mem_cons_of_mem _ hp, e⟩
theorem FCio.of_runG (hT : TabOK P E.T) (hE : EqsOK P E.T) (hphi : EnvOK P E) (hpar : EnvPar E) (hm : P.follows .mixedOrders = true) {sc : Scp} {g : FuncId} {fn : Func} {c : Code} {an : Ann} (hsc : ∀ x, ∀ p ∈ occ c an, ScAt P x sc p.1 p.2) {qks : List QK} {rks : List RK} {xs : qksDen qks} {vs : List V}
    {r : rksDen rks × odsDen (qks.flatMap QK.ods)} (hf : P.funcs[g]? = some fn) (hb : fn.body = some c) (hrk : rksOK E.T fn.results.toList rks = true) (hv : qksArg qks vs = some xs)
    (h : runG E sc c an (rtIO rks (qks.flatMap QK.ods)) (fun _ _ => none) (rtIO rks (qks.flatMap QK.ods)) (st1 qks xs fn.ntmps) = some r) : FCio P g (qks.map QK.flag) vs (rets rks r.1) (outsOf (qks.flatMap QK.ods) r.2) := by
  intro w A0 is args hA0 hrel hap hdis hgl
  let M : Nat → Prop := fun b => ∃ i ∈ is, ∃ c, i = .at b c
  let x : Cx := { B := w.heap.size, M := M, A0 := fun b => A0 b ∨ M b, w0 := w, ma := fun _ h => .inr h, pin := fun k => if pinLo ≤ k then is[k - pinLo]? else none,
                  glob := ⟨rfl, hgl.mono (Nat.le_refl _) fun b hb => ⟨.inl hb, rfl⟩⟩,
                  gM := fun g ns hg hM => by
                    obtain ⟨i, hi, c, hic⟩ := hM
                    exact (hdis i hi g c hic).2 (hgl g ns hg).2.1,
                  pinlo := fun k i hk => by
                    have hk' : (if pinLo ≤ k then is[k - pinLo]? else none) = some i := hk
                    split at hk'
                    · assumption
                    · cases hk' }
  let γ : Gam := x.pin
  let H : Heap := updAll emp (qksH 0 qks xs)
  have hpin : ∀ j, γ (pinLo + (0 + j)) = is[j]? := fun j => by
    show (if pinLo ≤ pinLo + (0 + j) then is[pinLo + (0 + j) - pinLo]? else none) = is[j]?
    rw [if_pos (by omega), show pinLo + (0 + j) - pinLo = j by omega]
  have hγ : ∀ k i, γ k = some i → ∃ j, k = pinLo + (0 + j) ∧ is[j]? = some i := by
    intro k i hk
    have hlo := x.pinlo k i hk
    refine ⟨k - pinLo, by omega, ?_⟩
    have := hpin (k - pinLo)
    rw [show pinLo + (0 + (k - pinLo)) = k by omega] at this
    rw [← this]
    exact hk
  have hMA : ∀ b, M b → b < w.heap.size ∧ ¬ A0 b := by
    rintro b ⟨i, hi, c, rfl⟩
    exact hdis _ hi b c rfl
  have hav : ∀ b, A0 b → Av x γ w b := fun b hb => ⟨hA0 b hb, fun _ => .inl hb, fun k c hk => by
    obtain ⟨j, _, hj⟩ := hγ k _ hk
    exact (hMA b ⟨_, List.mem_of_getElem? hj, c, rfl⟩).2 hb⟩
  have hpg : ∀ k i, pinG is k = some i → γ k = some i := by
    intro k i hk
    show (if pinLo ≤ k then is[k - pinLo]? else none) = some i
    unfold pinG at hk
    cases hb : Nat.ble pinLo k with
    | true => rw [hb] at hk; rw [if_pos (Nat.le_of_ble_eq_true hb)]; exact hk
    | false => rw [hb] at hk; cases hk
  have hkeys : ((qksH 0 qks xs).map (·.1)).Nodup := by rw [qksH_keys]; exact List.nodup_range'
  obtain ⟨hV, hlen, hobj⟩ := qks_VR (γ := γ) (H := H) (A := Av x γ w) (is0 := is) hpg hav (fun _ _ h => by cases h) qks 0 vs is args xs hv hrel (fun j i hj => by rw [hpin]; exact hj) (fun p hp => updAll_in hkeys hp)
  have hal := hV.length
  rw [qksV_len] at hal
  have hr : RS x γ (st1 qks xs fn.ntmps) { tmps := args.toArray ++ Array.replicate (fn.ntmps - args.toArray.size) undef, defers := [] } w := by
    refine ⟨⟨Nat.le_refl _, rfl, rfl, rfl, fun b _ _ => rfl, ?_, ?_, ?_, fun k i hk _ => hk, fun k cs off b c ob h1 h2 h3 h4 => by
      obtain ⟨p, hp, e⟩ := updAll_mem h1
      exact absurd h2 (qksH_no 0 qks xs p hp cs off e)⟩, ?_, ?_, rfl⟩
    · intro k i hk
      obtain ⟨j, rfl, hj⟩ := hγ k i hk
      obtain ⟨ob, hm, ho⟩ := hobj j i hj
      exact ⟨ob, updAll_in hkeys hm, objR.mono (fun b hb => ⟨hav b hb, rfl⟩) _ _ (fun _ _ _ => rfl) ho⟩
    · intro k b c hk
      obtain ⟨j, rfl, hj⟩ := hγ k _ hk
      have hm : M b := ⟨_, List.mem_of_getElem? hj, c, rfl⟩
      exact ⟨.inr hm, (hMA b hm).1⟩
    · intro k k' b c c' hk hk'
      obtain ⟨j, rfl, hj⟩ := hγ k _ hk
      obtain ⟨j', rfl, hj'⟩ := hγ k' _ hk'
      have : j = j' := by
        rcases Nat.lt_trichotomy j j' with hlt | he | hlt
        · exfalso
          have h1 := (List.getElem?_eq_some_iff.1 hj)
          have h2 := (List.getElem?_eq_some_iff.1 hj')
          exact List.pairwise_iff_getElem.1 hap j j' h1.1 h2.1 hlt b c c' h1.2 h2.2
        · exact he
        · exfalso
          have h1 := (List.getElem?_eq_some_iff.1 hj)
          have h2 := (List.getElem?_eq_some_iff.1 hj')
          exact List.pairwise_iff_getElem.1 hap j' j h2.1 h1.1 hlt b c' c h2.2 h1.2
      rw [this]
    · simp only [st1, List.length_append, qksV_len, List.length_replicate, Array.size_append, List.size_toArray, Array.size_replicate]
      omega
    · intro t v hv'
      simp only [st1, List.getElem?_append] at hv'
      split at hv'
      · rename_i hlt
        obtain ⟨u, hu, hvr⟩ := hV.get hv'
        have : (args.toArray ++ Array.replicate (fn.ntmps - args.toArray.size) undef).getD t undef = u := by
          have hta : t < args.length := (List.getElem?_eq_some_iff.1 hu).1
          rw [Array.getD_eq_getD_getElem?, Array.getElem?_append_left (by simpa using hta)]
          simp [hu]
        rw [this]
        exact hvr
      · rw [List.getElem?_replicate] at hv'
        split at hv'
        · cases hv'
          trivial
        · cases hv'
  have fin : ∀ st γ' a w', rtIO rks (qks.flatMap QK.ods) st = some r → RS x γ' st a w' → a.defers = [] ∧ ∃ v, (results fn a.tmps).run P w' = .ok v w' ∧
      (GrowsBut is w w' ∧ ∃ js us, v = retVal us ∧ RetRs w w' (newA w w' A0 (js ++ is)) (rets rks r.1) js us ∧ All2 (OutR w' (newA w w' A0 (js ++ is))) (outsOf (qks.flatMap QK.ods) r.2) is) := by
    intro st γ' a w' hrt hr'
    unfold rtIO at hrt
    obtain ⟨hkl, hrt⟩ := cond_some hrt rfl
    obtain ⟨y1, h1, hrt⟩ := Option.bind_eq_some_iff.1 hrt
    obtain ⟨y2, h2, hrt⟩ := Option.bind_eq_some_iff.1 hrt
    cases hrt
    unfold rtG at h1
    obtain ⟨hk, h1⟩ := cond_some h1 rfl
    simp only [rkOK, Bool.and_eq_true] at hk
    have hnd := nodupB_spec hk.1
    have hklo : ∀ k ∈ (rks.flatMap (RK.ownK st)) ++ (rks.flatMap (RK.slK st)), k < pinLo := fun k hkm => Nat.le_of_ble_eq_true (List.all_eq_true.1 hkl k hkm)
    have hpins : ∀ j i, is[j]? = some i → γ' (pinLo + (0 + j)) = some i := by
      obtain ⟨_, j2⟩ := odsGet_R (A1 := Av x γ' w') hr' (fun b hb => hb) (qks.flatMap QK.ods) 0 is y2 h2 (by rw [hlen, qksCnt_ods]) (fun j i hj => by
        have := hpin j
        rw [hj] at this
        exact this)
      exact j2
    -- what the call may not give back lies in blocks of its own
    have hnM : ∀ k b c, k < pinLo → γ' k = some (.at b c) → w.heap.size ≤ b := by
      intro k b c hklt hkb
      rcases (hr'.inv.rng k b c hkb).1 with h | ⟨i, hi, c', rfl⟩
      · exact h
      · exfalso
        obtain ⟨j, hj⟩ := List.getElem?_of_mem hi
        have := hr'.inv.inj k _ b c c' hkb (hpins j _ hj)
        omega
    let js := rks.map (RK.info γ' st)
    have hjs : ∀ i ∈ js, ∀ b c, i = .at b c → ∃ k ∈ rks.flatMap (RK.ownK st), γ' k = some (.at b c) := by
      intro i hi b c he
      obtain ⟨rk, hm, rfl⟩ := List.mem_map.1 hi
      obtain ⟨k, hk, hg⟩ := info_at he
      exact ⟨k, List.mem_flatMap.2 ⟨rk, hm, hk⟩, hg⟩
    have hA1 : ∀ b, Av x γ' w' b → newA w w' A0 (js ++ is) b := by
      intro b hb
      refine ⟨hb.1, fun hlt => ?_, fun i hi c he => ?_⟩
      · rcases hb.2.1 hlt with h | ⟨i, hi, c, rfl⟩
        · exact h
        · exfalso
          obtain ⟨j, hj⟩ := List.getElem?_of_mem hi
          exact hb.2.2 _ c (hpins j _ hj)
      · rcases List.mem_append.1 hi with hi | hi
        · obtain ⟨k, _, hg⟩ := hjs i hi b c he
          exact hb.2.2 k c hg
        · obtain ⟨j, hj⟩ := List.getElem?_of_mem hi
          rw [he] at hj
          exact hb.2.2 _ c (hpins j _ hj)
    have hS : ∀ k ∈ rks.flatMap (RK.slK st), ∀ b c, γ' k = some (.at b c) → newA w w' A0 (js ++ is) b := by
      intro k hkm b c hg
      have hlo := hklo k (List.mem_append.2 (.inr hkm))
      have h5 := hnM k b c hlo hg
      refine ⟨(hr'.inv.rng k b c hg).2, fun hlt => by omega, fun i hi c' he => ?_⟩
      rcases List.mem_append.1 hi with hi | hi
      · obtain ⟨k', hk', hg'⟩ := hjs i hi b c' he
        have := hr'.inv.inj k k' b c c' hg hg'
        subst this
        have h3 := List.all_eq_true.1 hk.2 k hkm
        rw [mem_memN.2 hk'] at h3
        cases h3
      · have := (hMA b ⟨i, hi, c', he⟩).1
        omega
    obtain ⟨us, q1, q2⟩ := RKs_get (w0 := w) hT hr' hA1 rks fn.results.toList y1 hrk h1 hnd (fun k hkm b c hg => hnM k b c (hklo k (List.mem_append.2 (.inl hkm))) hg) hS
    obtain ⟨o1, _⟩ := odsGet_R (A1 := newA w w' A0 (js ++ is)) hr' hA1 (qks.flatMap QK.ods) 0 is y2 h2 (by rw [hlen, qksCnt_ods]) (fun j i hj => by
      have := hpin j
      rw [hj] at this
      exact this)
    refine ⟨hr'.nod, retVal us, results_run q1, ⟨hr'.inv.size, hr'.inv.os, hr'.inv.tape, hr'.inv.output, fun b hb hn => hr'.inv.blk b hb ?_⟩, js, us, rfl, q2, o1⟩
    rintro ⟨i, hi, c, he⟩
    exact hn i hi c he
  refine calls_of_wp hf hb (runG_sound hT hE hphi hpar hm c an (hsc x) _ _ _ _ _ _ _ _ h hr ⟨?_, ?_, ?_⟩)
  · intro st γ a w' hrt hr'
    exact fin st γ a w' hrt hr'
  · intro j st γ a w' hrt hr'
    cases hrt
  · intro st γ a w' hrt hr'
    exact fin st γ a w' hrt hr'
/-! ### What is called -/
def FCios (P : Program) (g : FuncId) (flags : List Bool) (F : List V → (ρ : Type) → (Ret → List Out → Option ρ) → Option ρ) : Prop :=
  ∀ vs ρ (K : Ret → List Out → Option ρ) r, F vs ρ K = some r → ∃ ret outs, K ret outs = some r ∧ FCio P g flags vs ret outs
def Pario1 (F : List V → (ρ : Type) → (Ret → List Out → Option ρ) → Option ρ) : Prop :=
  ∀ vs (ρ : Type) (K : Ret → List Out → Option ρ) r, F vs ρ K = some r → ∃ ret outs, K ret outs = some r ∧ ∀ (ρ' : Type) (K' : Ret → List Out → Option ρ'), F vs ρ' K' = K' ret outs
theorem phioOf_FCios {g : FuncId} {qks : List QK} {rks : List RK} {S : qksDen qks → Option (rksDen rks × odsDen (qks.flatMap QK.ods))} (h : ∀ xs r, S xs = some r → ∀ vs, qksArg qks vs = some xs → FCio P g (qks.map QK.flag) vs (rets rks r.1) (outsOf (qks.flatMap QK.ods) r.2)) :
    FCios P g (qks.map QK.flag) (phioOf qks rks (qks.flatMap QK.ods) S) := by
  intro vs ρ K r hk
  unfold phioOf at hk
  obtain ⟨xs, h1, hk⟩ := Option.bind_eq_some_iff.1 hk
  obtain ⟨y, h2, hk⟩ := Option.bind_eq_some_iff.1 hk
  exact ⟨_, _, hk, h xs y h2 vs h1⟩
theorem phioOf_Pario1 {qks : List QK} {rks : List RK} {ods : List OD} {S : qksDen qks → Option (rksDen rks × odsDen ods)} : Pario1 (phioOf qks rks ods S) := by
  intro vs ρ K r hk
  unfold phioOf at hk
  obtain ⟨xs, h1, hk⟩ := Option.bind_eq_some_iff.1 hk
  obtain ⟨y, h2, hk⟩ := Option.bind_eq_some_iff.1 hk
  refine ⟨_, _, hk, fun ρ' K' => ?_⟩
  simp only [phioOf, h1, Option.bind_some, h2]
/-- The callees that write: which one, by what its arguments are; what is handed in; what it does. -/
structure IoE where
  g : FuncId
  q : List V → Bool
  flags : List Bool
  F : List V → (ρ : Type) → (Ret → List Out → Option ρ) → Option ρ
def iopL : List IoE → FuncId → Option (List Bool)
  | [], _ => none
  | e :: r, g => bif Nat.beq g e.g then some e.flags else iopL r g
def phioL : List IoE → Phio
  | [], _, _, _, _ => none
  | e :: r, g, vs, ρ, K => bif Nat.beq g e.g && e.q vs then e.F vs ρ K else phioL r g vs ρ K
/-- Entries for one function hand in the same. -/
def ioSame : List IoE → Bool
  | [] => true
  | e :: r => r.all (fun e' => !(Nat.beq e'.g e.g) || e'.flags == e.flags) && ioSame r
def IoOK (P : Program) : List IoE → Prop
  | [] => True
  | e :: r => FCios P e.g e.flags e.F ∧ CallOK P e.g ∧ IoOK P r
def IoPar : List IoE → Prop
  | [] => True
  | e :: r => Pario1 e.F ∧ IoPar r
theorem phioL_mem : ∀ {l : List IoE} {g : FuncId} {vs : List V} {ρ : Type} {K : Ret → List Out → Option ρ} {r : ρ}, phioL l g vs ρ K = some r → ∃ e ∈ l, e.g = g ∧ e.F vs ρ K = some r ∧ ∀ (ρ' : Type) (K' : Ret → List Out → Option ρ'), phioL l g vs ρ' K' = e.F vs ρ' K'
  | [], g, vs, ρ, K, r, h => by cases h
  | e :: l, g, vs, ρ, K, r, h => by
    simp only [phioL] at h
    cases hb : Nat.beq g e.g && e.q vs with
    | true =>
      rw [hb] at h
      have hb' := hb
      rw [Bool.and_eq_true] at hb'
      exact ⟨e, by simp, (Nat.eq_of_beq_eq_true hb'.1).symm, h, fun ρ' K' => by simp only [phioL, hb, cond_true]⟩
    | false =>
      rw [hb] at h
      obtain ⟨e', h1, h2, h3, h4⟩ := phioL_mem h
      exact ⟨e', by simp [h1], h2, h3, fun ρ' K' => by simp only [phioL, hb, cond_false]; exact h4 ρ' K'⟩
theorem iopL_mem : ∀ {l : List IoE} {g : FuncId} {fl : List Bool}, iopL l g = some fl → ioSame l = true → ∀ e ∈ l, e.g = g → e.flags = fl
  | [], _, _, h, _, _, _, _ => by cases h
  | e :: l, g, fl, h, hs, e', he', hg => by
    simp only [iopL] at h
    simp only [ioSame, Bool.and_eq_true] at hs
    cases hb : Nat.beq g e.g with
    | true =>
      rw [hb] at h
      cases h
      have hge := Nat.eq_of_beq_eq_true hb
      rcases List.mem_cons.1 he' with rfl | hm
      · rfl
      · have := List.all_eq_true.1 hs.1 e' hm
        rw [hg, hge, Nat.beq_refl] at this
        simpa using this
    | false =>
      rw [hb] at h
      rcases List.mem_cons.1 he' with rfl | hm
      · rw [hg, Nat.beq_refl] at hb
        cases hb
      · exact iopL_mem h hs.2 e' hm hg
theorem IoOK.mem : ∀ {l : List IoE}, IoOK P l → ∀ e ∈ l, FCios P e.g e.flags e.F ∧ CallOK P e.g
  | [], _, _, h => by cases h
  | e :: l, h, e', he' => by
    rcases List.mem_cons.1 he' with rfl | hm
    · exact ⟨h.1, h.2.1⟩
    · exact IoOK.mem h.2.2 e' hm
theorem IoPar.mem : ∀ {l : List IoE}, IoPar l → ∀ e ∈ l, Pario1 e.F
  | [], _, _, h => by cases h
  | e :: l, h, e', he' => by
    rcases List.mem_cons.1 he' with rfl | hm
    · exact h.1
    · exact IoPar.mem h.2 e' hm
theorem envOK (h1 : PhiOK P E.phi) {l : List IoE} (hp : E.phio = phioL l) (hi : E.iop = iopL l) (hs : ioSame l = true) (h2 : IoOK P l) : EnvOK P E := by
  refine ⟨h1, fun g flags vs ρ K r hfl hk => ?_⟩
  rw [hp] at hk
  rw [hi] at hfl
  obtain ⟨e, hm, hg, hF, _⟩ := phioL_mem hk
  have hf := iopL_mem hfl hs e hm hg
  obtain ⟨hc, hcall⟩ := h2.mem e hm
  obtain ⟨ret, outs, q1, q2⟩ := hc vs ρ K r hF
  rw [hg, hf] at q2
  rw [hg] at hcall
  exact ⟨ret, outs, q1, q2, hcall⟩
theorem envPar (h1 : PhiPar E.phi) {l : List IoE} (hp : E.phio = phioL l) (h2 : IoPar l) : EnvPar E := by
  refine ⟨h1, fun g flags vs ρ K r _ hk => ?_⟩
  rw [hp] at hk ⊢
  obtain ⟨e, hm, hg, hF, hall⟩ := phioL_mem hk
  obtain ⟨ret, outs, q1, q2⟩ := h2.mem e hm vs ρ K r hF
  exact ⟨ret, outs, q1, fun ρ' K' => (hall ρ' K').trans (q2 ρ' K')⟩
theorem envOK0 (h1 : PhiOK P E.phi) (hp : E.phio = fun _ _ _ _ => none) (hi : E.iop = fun _ => none) : EnvOK P E :=
  ⟨h1, fun g flags vs ρ K r hfl hk => by rw [hi] at hfl; cases hfl⟩
theorem envPar0 (h1 : PhiPar E.phi) (hp : E.phio = fun _ _ _ _ => none) : EnvPar E :=
  ⟨h1, fun g flags vs ρ K r _ hk => by rw [hp] at hk; cases hk⟩
end
end Go.Vi
/-
  Vi: from what a statement's reading of the arguments says to the data that a contract wants; the given row.
-/
set_option linter.unusedVariables false
set_option linter.unusedSimpArgs false
namespace Go.Vi
open Go.ChangeShapes Go.WideShapes Go.ChangeAt Go.RowKit
def rdL (P : Program) (rd : TypeId → Sh → Bool) : Nat → List (Nat × TypeId) → Sh → Bool
  | off, [(o, t)], s => (Nat.beq o off && Nat.beq (P.cellsOf t) s.nc && rd t s) || (match s with | .pair a .unit => Nat.beq o off && Nat.beq (P.cellsOf t) a.nc && rd t a | _ => false)
  | off, (o, t) :: r, .pair a b => (Nat.beq o off && Nat.beq (P.cellsOf t) a.nc && rd t a) && rdL P rd (off + a.nc) r b
  | _, [], .unit => true
  | _, _, _ => false
/-- Does a type read as this shape? -/
def rdB (P : Program) : Nat → TypeId → Sh → Bool
  | 0, _, _ => false
  | n + 1, t, s =>
    match P.underlying t with
    | some .bool => decide (s = .bool)
    | some (.int k) => decide (s = .int k)
    | some .string => decide (s = .str)
    | some (.slice e) => (match s with | .sl e' => rdB P n e e' && Nat.beq (P.cellsOf e) e'.nc && Nat.ble 1 e'.nc | _ => false)
    | some (.struct fs) => s.agg && Nat.beq (P.cellsOf t) s.nc && rdL P (rdB P n) 0 (fs.toList.map fun f => (f.offset, f.type)) s
    | some (.array m e) => s.agg && Nat.beq (P.cellsOf t) s.nc && rdL P (rdB P n) 0 ((List.range m).map fun i => (i * P.cellsOf e, e)) s
    | _ => false
/-- Numbers lie within their kinds. -/
def Wf : (s : Sh) → s.den → Prop
  | .int k, n => (Lit.int k n).wf = true
  | .sl e, xs => xs.length ≤ 9223372036854775807 ∧ ∀ x ∈ xs, Wf e x
  | .pair a b, x => Wf a x.1 ∧ Wf b x.2
  | .str, s => s.size ≤ 9223372036854775807
  | _, _ => True
theorem mapM_some {α β : Type} {f : α → Option β} : ∀ {l : List α} {ys : List β}, l.mapM f = some ys → All2 (fun a y => f a = some y) l ys
  | [], ys, h => by
    simp at h
    subst h
    trivial
  | a :: l, ys, h => by
    rw [List.mapM_cons] at h
    cases h1 : f a with
    | none => rw [h1] at h; cases h
    | some y =>
      rw [h1] at h
      cases h2 : l.mapM f with
      | none =>
        rw [h2] at h
        cases h
      | some zs =>
        rw [h2] at h
        cases h
        exact ⟨h1, mapM_some h2⟩
theorem All2.unmap {α β γ : Type} {R : β → γ → Prop} {f : α → β} : ∀ {l : List α} {ys : List γ}, All2 (fun a y => R (f a) y) l ys → All2 R (l.map f) ys
  | [], [], _ => trivial
  | _ :: _, _ :: _, h => ⟨h.1, All2.unmap h.2⟩
section
variable {P : Program} {W : World} {H : Type} {enc : TypeId × Value → H} {sp : Nat → Bool} {held : Bool} {A : Nat → Prop}
theorem rdL_sound {rd : TypeId → Sh → Bool} {f : TypeId → List Value → Option (DataW H × List MemPlace)} (IH : ∀ t s cs d, rd t s = true → f t cs = some d → ∃ x : s.den, VRs W A s x cs ∧ Wf s x) (cs : List Value) :
    ∀ (l : List (Nat × TypeId)) (off : Nat) (s : Sh) (ys : List (DataW H × List MemPlace)), rdL P rd off l s = true → All2 (fun p y => f p.2 ((cs.drop p.1).take (P.cellsOf p.2)) = some y) l ys →
      ∃ x : s.den, VRs W A s x ((cs.drop off).take s.nc) ∧ Wf s x
  | [], off, s, ys, h, hy => by
    cases s <;> simp [rdL] at h
    exact ⟨(), by simp [VRs, Sh.nc], trivial⟩
  | [(o, t)], off, s, [y], h, hy => by
    simp only [rdL, Bool.or_eq_true, Bool.and_eq_true] at h
    rcases h with ⟨⟨h1, h2⟩, h3⟩ | h
    · have := Nat.eq_of_beq_eq_true h1
      have h2 := Nat.eq_of_beq_eq_true h2
      subst this
      have hy1 := hy.1
      simp only [h2] at hy1
      exact IH t s _ y h3 hy1
    · cases s with
      | pair a b =>
        cases b with
        | unit =>
          simp only [Bool.and_eq_true] at h
          obtain ⟨⟨h1, h2⟩, h3⟩ := h
          have := Nat.eq_of_beq_eq_true h1
          have h2 := Nat.eq_of_beq_eq_true h2
          subst this
          have hy1 := hy.1
          simp only [h2] at hy1
          obtain ⟨x, hx, hw⟩ := IH t a _ y h3 hy1
          refine ⟨(x, ()), ⟨?_, ?_⟩, hw, trivial⟩
          · simpa [Sh.nc, List.take_take] using hx
          · simp [Sh.nc, VRs]
        | _ => simp at h
      | _ => simp at h
  | (o, t) :: p :: r, off, s, y :: ys, h, hy => by
    cases s with
    | pair a b =>
      simp only [rdL, Bool.and_eq_true] at h
      obtain ⟨⟨⟨h1, h2⟩, h3⟩, h4⟩ := h
      have := Nat.eq_of_beq_eq_true h1
      have h2 := Nat.eq_of_beq_eq_true h2
      subst this
      have hy1 := hy.1
      simp only [h2] at hy1
      obtain ⟨x, hx, hw⟩ := IH t a _ y h3 hy1
      obtain ⟨x2, hx2, hw2⟩ := rdL_sound IH cs (p :: r) _ b ys h4 hy.2
      refine ⟨(x, x2), ⟨?_, ?_⟩, hw, hw2⟩
      · rw [Sh.nc, List.take_take, Nat.min_eq_left (by omega)]
        exact hx
      · rw [Sh.nc, List.drop_take, List.drop_drop, Nat.add_sub_cancel_left]
        exact hx2
    | _ => simp [rdL] at h
  | [_], _, _, [], _, hy => hy.elim
  | [_], _, _, _ :: _ :: _, _, hy => hy.2.elim
  | _ :: _ :: _, _, _, [], _, hy => hy.elim
theorem rows_of {e : Sh} {f : List Value → Option (DataW H × List MemPlace)} (IH : ∀ cs d, f cs = some d → ∃ x : e.den, VRs W A e x cs ∧ Wf e x) {n : Nat} {a : Addr} : ∀ (l : List Nat) (ys : List (DataW H × List MemPlace)),
    All2 (fun i y => (W.cells? 0 (a.add (i * n)) n).bind f = some y) l ys → ∃ xs : List e.den, All2 (fun i x => ∃ us, W.cells? 0 (a.add (i * n)) n = some us ∧ VRs W A e x us) l xs ∧ ∀ x ∈ xs, Wf e x
  | [], [], _ => ⟨[], trivial, by simp⟩
  | i :: l, y :: ys, h => by
    obtain ⟨us, h1, h2⟩ := Option.bind_eq_some_iff.1 h.1
    obtain ⟨x, hx, hw⟩ := IH us y h2
    obtain ⟨xs, hxs, hws⟩ := rows_of IH l ys h.2
    exact ⟨x :: xs, ⟨⟨us, h1, hx⟩, hxs⟩, by simpa using ⟨hw, hws⟩⟩
theorem cells_row {b o : Nat} {cur : Array Value} {et : TypeId} {fz : Nat × Nat} (h : W.heap[b]? = some (.cells cur et fz)) : ∀ {n : Nat} {us : List Value}, W.cells? 0 ⟨b, o, none⟩ n = some us → us = (cur.toList.drop o).take n ∧ o + us.length ≤ o + n ∧ us.length = n ∧ (0 < n → o + n ≤ cur.size) := by
  intro n us hu
  simp only [World.cells?, Nat.zero_le, if_true] at hu
  have h1 := mapM_some hu
  have hl := h1.length
  simp at hl
  have hg : ∀ i, i < n → us[i]? = cur.toList[o + i]? ∧ o + i < cur.size := by
    intro i hi
    obtain ⟨v, h2, h3⟩ := h1.get (i := i) (a := i) (by simp [hi])
    rw [add_eq, cell_row h] at h3
    rw [h2, h3]
    refine ⟨rfl, ?_⟩
    have := List.getElem?_eq_some_iff.1 h3
    obtain ⟨this, _⟩ := this
    simpa using this
  refine ⟨?_, by omega, hl.symm, fun hn => by have := (hg (n - 1) (by omega)).2; omega⟩
  apply List.ext_getElem?
  intro i
  rw [List.getElem?_take, List.getElem?_drop]
  split
  · rename_i hi
    exact (hg i hi).1
  · rename_i hi
    exact List.getElem?_eq_none (by omega)
theorem All2.range {α : Type} {R : Nat → α → Prop} {n : Nat} {xs : List α} (h : All2 R (List.range n) xs) : xs.length = n ∧ ∀ i x, xs[i]? = some x → R i x := by
  have hl := h.length
  simp at hl
  refine ⟨hl.symm, fun i x hx => ?_⟩
  have hi : i < n := by
    obtain ⟨hi, _⟩ := List.getElem?_eq_some_iff.1 hx
    omega
  obtain ⟨y, h1, h2⟩ := h.get (i := i) (a := i) (by simp [hi])
  rw [h1] at hx
  cases hx
  exact h2
theorem rdB_sound (hA : ∀ b, b < W.heap.size → A b) : ∀ (n : Nat) (t : TypeId) (s : Sh) (fuel : Nat) (cs : List Value) (d : DataW H × List MemPlace), rdB P n t s = true → DataW.trod enc P W 0 sp held fuel t cs = some d →
    ∃ x : s.den, VRs W A s x cs ∧ Wf s x
  | 0, _, _, _, _, _, h, _ => by cases h
  | n + 1, t, s, 0, cs, d, h, hd => by cases hd
  | n + 1, t, s, fuel + 1, cs, d, h, hd => by
    unfold rdB at h
    split at h
    · rename_i hu
      have hs := of_decide_eq_true h
      subst hs
      simp only [DataW.trod, hu] at hd
      match cs, hd with
      | [.bool b], _ => exact ⟨(b : Bool), rfl, trivial⟩
    · rename_i k hu
      have hs := of_decide_eq_true h
      subst hs
      simp only [DataW.trod, hu] at hd
      match cs, hd with
      | [.int k' m], hd =>
        have hd : (if k' = k ∧ (Lit.int k m).wf = true then some (DataW.lit (Lit.int k m), []) else none) = some d := hd
        by_cases hc : k' = k ∧ (Lit.int k m).wf = true
        · obtain ⟨rfl, hw⟩ := hc
          exact ⟨(m : Int), rfl, hw⟩
        · rw [if_neg hc] at hd
          cases hd
    · rename_i hu
      have hs := of_decide_eq_true h
      subst hs
      simp only [DataW.trod, hu] at hd
      match cs, hd with
      | [.string b], hd =>
        have hd : (if b.size ≤ maxLen then some (DataW.lit (Lit.string b.data.toList), []) else none) = some d := hd
        by_cases hc : b.size ≤ maxLen
        · refine ⟨(b : ByteArray), rfl, ?_⟩
          simp only [Wf]
          exact Nat.le_trans hc (by decide)
        · rw [if_neg hc] at hd
          cases hd
    · rename_i et hu
      cases s with
      | sl e =>
        simp only [Bool.and_eq_true] at h
        obtain ⟨⟨h1, h2⟩, h3⟩ := h
        have h2 := Nat.eq_of_beq_eq_true h2
        have h3 := Nat.le_of_ble_eq_true h3
        simp only [DataW.trod, hu] at hd
        match cs, hd with
        | [.slice none 0 0], _ => exact ⟨[], ⟨none, 0, rfl, by simp, .inl rfl⟩, by simp [Wf]⟩
        | [.slice (some a) len cap], hd =>
          by_cases hc : 0 ≤ a.block ∧ len ≤ cap ∧ cap ≤ maxLen
          · simp only [hc, and_self, if_true] at hd
            obtain ⟨elems, he, hd⟩ := Option.bind_eq_some_iff.1 hd
            have he := mapM_some he
            rw [h2] at he
            obtain ⟨xs, hxs, hw⟩ := rows_of (e := e) (f := DataW.trod enc P W 0 sp held fuel et) (fun cs d hd => rdB_sound hA n et e fuel cs d h1 hd) _ _ he
            obtain ⟨hlen, hget⟩ := All2.range hxs
            refine ⟨xs, ⟨some a, cap, by rw [hlen], by omega, ?_⟩, ?_, hw⟩
            · cases hxl : xs with
              | nil => exact .inl rfl
              | cons y ys =>
                right
                have hlp : 0 < xs.length := by rw [hxl]; simp
                obtain ⟨us0, hu0, _⟩ := hget 0 xs[0] (List.getElem?_eq_getElem hlp)
                have hc0 := mapM_some (by simpa [World.cells?] using hu0 : (List.range e.nc).mapM (fun i => W.cell? ((a.add (0 * e.nc)).add i)) = some us0)
                obtain ⟨v0, _, hv0⟩ := hc0.get (i := 0) (a := 0) (List.getElem?_range (by omega))
                simp [Addr.add] at hv0
                have hsp := World.cell?_spot hv0
                obtain ⟨b, o, spot⟩ := a
                simp at hsp
                subst hsp
                have hblk : ∃ cur et' fz, W.heap[b]? = some (.cells cur et' fz) := by
                  unfold World.cell? at hv0
                  simp only at hv0
                  split at hv0
                  · rename_i c _ _ hb
                    exact ⟨_, _, _, hb⟩
                  · cases hv0
                obtain ⟨cur, et', fz, hb⟩ := hblk
                have hbl : b < W.heap.size := by
                  obtain ⟨hi, _⟩ := Array.getElem?_eq_some_iff.1 hb
                  exact hi
                rw [← hxl]
                refine ⟨b, o, cur, et', fz, rfl, hA b hbl, hb, ?_, ?_⟩
                · obtain ⟨us, hus, _⟩ := hget (xs.length - 1) (xs[xs.length - 1]'(by omega)) (by simp [hlp])
                  rw [add_eq] at hus
                  have := (cells_row hb hus).2.2.2 (by omega)
                  have e2 : (xs.length - 1) * e.nc + e.nc = xs.length * e.nc := by
                    conv => rhs; rw [show xs.length = (xs.length - 1) + 1 by omega, Nat.add_mul, Nat.one_mul]
                  omega
                · intro i x hx
                  obtain ⟨us, hus, hv⟩ := hget i x hx
                  rw [add_eq] at hus
                  rw [← (cells_row hb hus).1]
                  exact hv
            · have h4 := hc.2.2
              have h5 : cap ≤ 9223372036854775807 := Nat.le_trans h4 (by decide)
              omega
          · simp only [hc, if_false] at hd
            cases hd
      | _ => cases h
    · rename_i fs hu
      simp only [Bool.and_eq_true] at h
      obtain ⟨⟨h1, h2⟩, h3⟩ := h
      have h2 := Nat.eq_of_beq_eq_true h2
      simp only [DataW.trod, hu] at hd
      split at hd
      · rename_i hc
        obtain ⟨ys, hy, _⟩ := Option.map_eq_some_iff.1 hd
        have hy := mapM_some hy
        have hy2 := All2.unmap (R := fun (p : Nat × TypeId) y => DataW.trod enc P W 0 sp held fuel p.2 ((cs.drop p.1).take (P.cellsOf p.2)) = some y) (f := fun (f : Field) => (f.offset, f.type)) hy
        obtain ⟨x, hx, hw⟩ := rdL_sound (fun t s cs d ht hd => rdB_sound hA n t s fuel cs d ht hd) cs _ 0 s ys h3 hy2
        refine ⟨x, ?_, hw⟩
        rwa [List.drop_zero, List.take_of_length_le (by omega)] at hx
      · cases hd
    · rename_i m e hu
      simp only [Bool.and_eq_true] at h
      obtain ⟨⟨h1, h2⟩, h3⟩ := h
      have h2 := Nat.eq_of_beq_eq_true h2
      simp only [DataW.trod, hu] at hd
      split at hd
      · rename_i hc
        obtain ⟨ys, hy, _⟩ := Option.map_eq_some_iff.1 hd
        have hy := mapM_some hy
        have hy2 := All2.unmap (R := fun (p : Nat × TypeId) y => DataW.trod enc P W 0 sp held fuel p.2 ((cs.drop p.1).take (P.cellsOf p.2)) = some y) (f := fun i => (i * P.cellsOf e, e)) hy
        obtain ⟨x, hx, hw⟩ := rdL_sound (fun t s cs d ht hd => rdB_sound hA n t s fuel cs d ht hd) cs _ 0 s ys h3 hy2
        refine ⟨x, ?_, hw⟩
        rwa [List.drop_zero, List.take_of_length_le (by omega)] at hx
      · cases hd
    · cases h
theorem ofC_cells : ∀ (s : Sh) (x : s.den), ofC s (cells s x) = some x
  | .int k, x => by simp [cells, ofC]
  | .bool, x => rfl
  | .str, x => rfl
  | .sl e, xs => by simp [cells, ofC]
  | .unit, x => rfl
  | .pair a b, x => by
    have h1 : (cells a x.1 ++ cells b x.2).take a.nc = cells a x.1 := by rw [← cells_length a x.1, List.take_left]
    have h2 : (cells a x.1 ++ cells b x.2).drop a.nc = cells b x.2 := by rw [← cells_length a x.1, List.drop_left]
    simp only [cells, ofC, h1, h2, ofC_cells a, ofC_cells b]
theorem valOf_val (s : Sh) (x : s.den) : valOf s ((PK.c s).val x) = some x := by
  cases hs : s.agg with
  | true => simp only [PK.val, hs, cond_true, valOf, ofC_cells]
  | false =>
    have hl := cells_length s x
    rw [nagg_one hs] at hl
    match hc : cells s x, hl with
    | [c], _ =>
      have e : (PK.c s).val x = .c c := by simp only [PK.val, hs, cond_false, hc]
      rw [e]
      simp only [valOf, hs, cond_false]
      rw [← hc]
      exact ofC_cells s x
theorem rdB_agg {n : Nat} {t : TypeId} {s : Sh} (h : rdB P n t s = true) (hs : s.agg = true) : (∃ fs, P.underlying t = some (.struct fs)) ∨ ∃ m e, P.underlying t = some (.array m e) := by
  cases n with
  | zero => cases h
  | succ n =>
    unfold rdB at h
    split at h
    · have := of_decide_eq_true h; subst this; cases hs
    · have := of_decide_eq_true h; subst this; cases hs
    · have := of_decide_eq_true h; subst this; cases hs
    · cases s <;> first | cases h | cases hs
    · rename_i fs hu; exact .inl ⟨_, hu⟩
    · rename_i m e hu; exact .inr ⟨_, _, hu⟩
    · cases h
theorem rdB_nagg {n : Nat} {t : TypeId} {s : Sh} (h : rdB P n t s = true) (hs : s.agg = false) : P.underlying t = some .bool ∨ (∃ k, P.underlying t = some (.int k)) ∨ P.underlying t = some .string ∨ ∃ e, P.underlying t = some (.slice e) := by
  cases n with
  | zero => cases h
  | succ n =>
    unfold rdB at h
    split at h
    · rename_i hu; exact .inl hu
    · rename_i k hu; exact .inr (.inl ⟨k, hu⟩)
    · rename_i hu; exact .inr (.inr (.inl hu))
    · rename_i e hu; exact .inr (.inr (.inr ⟨e, hu⟩))
    · simp [hs] at h
    · simp [hs] at h
    · cases h
theorem trod_arg {n : Nat} {t : TypeId} {s : Sh} {v : Value} {d : DataW H} {ps : List MemPlace} {base : Nat} {r : Reach} (hn : rdB P n t s = true) (hval : Value.okWide P W r base t v) (h : DataW.Trod enc P W 0 sp held t v d ps) (hA : ∀ b, b < W.heap.size → A b) :
    ∃ x : s.den, VR noGam W A emp ((PK.c s).val x) v ∧ Wf s x := by
  obtain ⟨fuel, h⟩ := h
  obtain ⟨x, hx, hw⟩ := rdB_sound hA n t s fuel _ _ hn h
  refine ⟨x, ?_, hw⟩
  have hc := CR.of_VRs s x _ hx
  cases hs : s.agg with
  | true =>
    simp only [PK.val, hs, cond_true]
    have : ∃ cs, v = .agg cs := by
      rcases rdB_agg hn hs with ⟨fs, hu⟩ | ⟨m, e, hu⟩
      · simp only [Value.okWide, hu] at hval
        obtain ⟨cs, h1, _⟩ := hval
        exact ⟨cs, h1⟩
      · simp only [Value.okWide, hu] at hval
        obtain ⟨cs, h1, _⟩ := hval
        exact ⟨cs, h1⟩
    obtain ⟨cs, rfl⟩ := this
    exact ⟨cs.toList, by simp, hc⟩
  | false =>
    have hl := cells_length s x
    rw [nagg_one hs] at hl
    match hcs : cells s x, hl with
    | [c], _ =>
      rw [hcs] at hc
      obtain ⟨u, hu, hcr⟩ := hc.one
      have : v = u := by
        cases v with
        | agg cs =>
          exfalso
          rcases rdB_nagg hn hs with h1 | ⟨k, h1⟩ | h1 | ⟨e, h1⟩ <;> simp [Value.okWide, h1, Cell.okWide, Cell.ok] at hval
        | _ => simpa [Value.cells] using hu
      subst this
      simp only [PK.val, hs, cond_false, hcs]
      exact hcr
end
end Go.Vi
/-
  Vi: a law's contract out of its contract in data: it returns true, and what it was handed reads as before.
-/
set_option linter.unusedVariables false
set_option linter.unusedSimpArgs false
namespace Go.Vi
open Go.ChangeShapes Go.WideShapes Go.ChangeAt Go.RowKit
section
variable {P : Program} {W W' : World} {H : Type} {enc : TypeId × Value → H} {A : Nat → Prop}
def pks (ss : List Sh) : List PK := ss.map .c
def rdArgs (P : Program) (n : Nat) : List TypeId → List Sh → Bool
  | [], [] => true
  | t :: ts, s :: ss => rdB P n t s && rdArgs P n ts ss
  | _, _ => false
def WfL : (ss : List Sh) → pksDen (pks ss) → Prop
  | [], _ => True
  | s :: ss, x => Wf s x.1 ∧ WfL ss x.2
theorem trodAll_args {n base : Nat} {r : Reach} {sp : Nat → Bool} {held : Bool} (hA : ∀ b, b < W.heap.size → A b) : ∀ {ts : List TypeId} {ss : List Sh} {vs : List Value} {ds : List (DataW H)} {ps : List MemPlace}, rdArgs P n ts ss = true →
    (∀ (j : Nat) t v, ts[j]? = some t → vs[j]? = some v → Value.okWide P W r base t v) → DataW.TrodAll enc P W 0 sp held ts vs ds ps →
    ∃ xs : pksDen (pks ss), All2 (VR noGam W A emp) (pksV (pks ss) xs) vs ∧ WfL ss xs
  | [], [], vs, ds, ps, _, _, h => by
    obtain ⟨rfl, _, _⟩ := trodAll_nil h
    exact ⟨(), trivial, trivial⟩
  | t :: ts, s :: ss, vs, ds, ps, hr, hv, h => by
    simp only [rdArgs, Bool.and_eq_true] at hr
    obtain ⟨v, vs', d, ds', p, q, rfl, rfl, rfl, h1, h2⟩ := trodAll_cons h
    obtain ⟨x, hx, hw⟩ := trod_arg hr.1 (hv 0 t v rfl rfl) h1 hA
    obtain ⟨xs, hxs, hws⟩ := trodAll_args hA hr.2 (fun j t v ht hv' => hv (j + 1) t v (by simpa using ht) (by simpa using hv')) h2
    exact ⟨(x, xs), ⟨hx, hxs⟩, hw, hws⟩
  | [], _ :: _, _, _, _, hr, _, _ => by cases hr
  | _ :: _, [], _, _, _, hr, _, _ => by cases hr
theorem pksArg_val : ∀ (ss : List Sh) (xs : pksDen (pks ss)), pksArg (pks ss) (pksV (pks ss) xs) = some xs
  | [], _ => rfl
  | s :: ss, xs => by
    have h1 : (PK.c s).arg ((PK.c s).val xs.1) = some xs.1 := valOf_val s xs.1
    have h2 := pksArg_val ss xs.2
    show ((PK.c s).arg ((PK.c s).val xs.1)).bind (fun x => (pksArg (pks ss) (pksV (pks ss) xs.2)).bind fun y => some (x, y)) = _
    rw [h1, h2]
    rfl
theorem Grows.below (h : Grows W W') : RowKit.Below W.heap.size W W' := ⟨h.os, h.tape, h.output, h.size, h.blk⟩
/-- The call returns true. -/
theorem law_calls {g : FuncId} {ss : List Sh} {t0 : Nat} {S : pksDen (pks ss) → Option Bool} (hfc : FCs P g (phiOf (pks ss) [.c .bool t0] S)) {xs : pksDen (pks ss)} (hS : S xs = some true) {args : Array Value} (hA : ∀ b, A b → b < W.heap.size)
    (ha : All2 (VR noGam W A emp) (pksV (pks ss) xs) args.toList) (hgl : GlobOK W A) : Calls P g args W fun e W' => e = .returned (.bool true) ∧ Grows W W' := by
  have hrun : phiOf (pks ss) [RK.c .bool t0] S (pksV (pks ss) xs) Ret some = some [.val (.bool true)] := by
    unfold phiOf
    rw [pksArg_val]
    simp only [Option.bind_some, hS]
    rfl
  obtain ⟨ret, hret, hf⟩ := hfc _ _ _ _ hrun
  cases hret
  have := hf W A args.toList hA ha hgl
  refine this.mono fun e w' he => ?_
  cases e with
  | returned u =>
    obtain ⟨hg, is, us, rfl, hr⟩ := he
    match is, us, hr with
    | [i], [u], hr =>
      have : u = .bool true := hr.1
      subst this
      exact ⟨rfl, hg⟩
    | _ :: _ :: _, _ :: us, hr => cases us <;> exact hr.2.2.elim
  | panicked _ => exact he.elim
  | outgrown => exact he.elim
theorem trodAll_stays (hl : laidOutB P = true) (hb : RowKit.Below W.heap.size W W') : ∀ {ts : List TypeId} {vs : List Value} {ds : List (DataW H)} {ps : List MemPlace}, (∀ t ∈ ts, P.readableRec t = true ∧ t < P.types.size) → (∀ x ∈ ps, x.block < W.heap.size) →
    DataW.TrodAll enc P W 0 (fun _ => true) true ts vs ds ps → DataW.TrodAll enc P W' 0 (fun b => decide (b < W.heap.size)) true ts vs ds ps
  | [], vs, ds, ps, _, _, h => by
    obtain ⟨rfl, rfl, rfl⟩ := trodAll_nil h
    rfl
  | t :: ts, vs, ds, ps, ht, hps, h => by
    obtain ⟨v, vs', d, ds', p, q, rfl, rfl, rfl, h1, h2⟩ := trodAll_cons h
    have := ht t (by simp)
    exact ⟨p, q, Below.trod hl this.1 this.2 h1 hb (fun x hx => hps x (List.mem_append.2 (.inl hx))), trodAll_stays hl hb (fun t' ht' => ht t' (List.mem_cons_of_mem _ ht')) (fun x hx => hps x (List.mem_append.2 (.inr hx))) h2, rfl⟩
/-- What a row asks of a call. -/
theorem law_post {g : FuncId} {fn : Func} {spec : ChangeSpec} {ss : List Sh} {t0 n base tb : Nat} {S : Nat × Nat → pksDen (pks ss) → Option Bool} (hfc : ∀ n, FCs P g (phiOf (pks ss) [.c .bool t0] (S n)))
    (hS : ∀ xs, WfL ss xs → ∃ n, S n xs = some true) (hl : laidOutB P = true) (hr : rdArgs P n fn.params.toList ss = true) (hts : fn.params.toList.all (fun t => P.readableRec t && decide (t < P.types.size)) = true)
    (hrt : fn.resultTypes = #[tb]) (hu : P.underlying tb = some .bool) (hvars : spec.vars = [])
    (hspec : ∀ (H : Type) (ds : List (DataW H)), ds.length = ss.length → spec.fn H ds = { results := [.lit (.bool true)], args := ds, vars := [] })
    {args : Array Value} {ds gs : List (DataW H)} {before : List MemPlace} (hval : ∀ (j : Nat) t v, fn.params[j]? = some t → args[j]? = some v → Value.okWide P W .any base t v)
    (hW : DataW.Whole enc P fn.params.toList spec.vars false W args.toList ds gs before) (hgl : GlobOK W (fun b => b < W.heap.size)) :
    Calls P g args W fun e W' => ∃ v, e = .returned v ∧ spec.post enc P fn false true false false W args v W' := by
  have hW' := hW
  obtain ⟨p, q, hA0, hV, rfl, hfz, hnd⟩ := hW
  have hlt : ∀ x ∈ p ++ q, x.block < W.heap.size := fun x hx => by simpa using hW'.lt x hx
  rw [hvars] at hV
  obtain ⟨rfl, rfl⟩ := trodVars_none hV
  obtain ⟨xs, hxs, hws⟩ := trodAll_args (A := fun b => b < W.heap.size) (fun b hb => hb) hr (fun j t v ht hv => hval j t v (by simpa using ht) (by simpa using hv)) hA0
  obtain ⟨m, hm⟩ := hS xs hws
  refine (law_calls (hfc m) hm (fun b hb => hb) hxs hgl).mono fun e W' ⟨he, hg⟩ => ?_
  subst he
  have hlen : ds.length = ss.length := by
    have h1 : ∀ {ts : List TypeId} {vs : List Value} {ds : List (DataW H)} {ps : List MemPlace}, DataW.TrodAll enc P W 0 (fun _ => true) true ts vs ds ps → ds.length = ts.length := by
      intro ts
      induction ts with
      | nil =>
        intro vs ds ps h
        obtain ⟨_, rfl, _⟩ := trodAll_nil h
        rfl
      | cons t ts ih =>
        intro vs ds ps h
        obtain ⟨v, vs', d, ds', p, q, rfl, rfl, rfl, h1, h2⟩ := trodAll_cons h
        simp [ih h2]
    have h2 : ∀ {ts : List TypeId} {ss : List Sh}, rdArgs P n ts ss = true → ts.length = ss.length := by
      intro ts
      induction ts with
      | nil => intro ss h; cases ss <;> first | rfl | cases h
      | cons t ts ih =>
        intro ss h
        cases ss with
        | nil => cases h
        | cons s ss =>
          simp only [rdArgs, Bool.and_eq_true] at h
          simp [ih h.2]
    rw [h1 hA0, h2 hr]
  have hsp := hspec H (ds ++ []) (by simpa using hlen)
  refine ⟨_, rfl, ds, [], p ++ [], [], p, [], hW', ?_, ?_, ?_, hg.below.frame _, fun h => by cases h⟩
  · rw [hsp, hrt]
    exact trodAll_mk1 (shut_bool hu _)
  · rw [hsp]
    simp only [List.append_nil]
    refine trodAll_stays hl hg.below ?_ (fun x hx => hlt x (List.mem_append.2 (.inl hx))) hA0
    intro t ht
    have := List.all_eq_true.1 hts t ht
    simp only [Bool.and_eq_true, decide_eq_true_eq] at this
    exact this
  · rw [hsp, hvars]
    rfl
end
end Go.Vi
set_option linter.unusedVariables false
set_option linter.unusedSimpArgs false
set_option maxRecDepth 100000
namespace Go.Proofs.YtkfkbebinhkdlaaGreatDoor
open Go.ChangeShapes Go.WideShapes Go.ChangeAt Go.RowKit Go.Vi
def tab32 : List Int := [0, 1, 28, 2, 29, 14, 24, 3, 30, 22, 20, 15, 25, 17, 4, 8, 31, 27, 13, 23, 21, 19, 16, 7, 26, 12, 18, 6, 11, 5, 10, 9]
def tab64 : List Int := [0, 1, 56, 2, 57, 49, 28, 3, 61, 58, 42, 50, 38, 29, 17, 4, 62, 47, 59, 36, 45, 43, 51, 22, 53, 39, 33, 30, 24, 18, 12, 5, 63, 55, 48, 27, 60, 41, 37, 16, 46, 35, 44, 21, 52, 32, 23, 11, 54, 26, 40, 15, 34, 20, 31, 10, 25, 14, 19, 9, 13, 8, 7, 6]
def divs : List Int := [0, 2, 6, 10, 22, 34, 78, 130, 278, 522, 1062, 2050, 4190, 8194, 16518, 32810, 65814, 131074, 262734, 524290, 1049654, 2097290, 4196358, 8388610, 16781662]
def setTab (w : World) (b : Nat) (k : IntKind) (l : List Int) : World :=
  { w with heap := w.heap.modify b fun
      | .cells _ t frozen => .cells (l.map fun m => Value.int k m).toArray t frozen
      | o => o }
noncomputable def laidWorld (os : Os) : World := setTab (setTab (setTab (World.holding Tryz.prog os ⟨#[], #[], []⟩) 0 .u32 divs) 1 .u8 tab32) 2 .u8 tab64
abbrev laidL : List (String × DataW Unit) := [("math/bits.deBruijn32tab", Rows.laid_math_bits_deBruijn32tab), ("math/bits.deBruijn64tab", Rows.laid_math_bits_deBruijn64tab), ("headword/sheet.divisors", Rows.laid_headword_sheet_divisors)]
theorem laidWorld_met (os : Os) (args : Array Value) : laidMet Tryz.prog laidL ((laidWorld os).forCall (fun _ _ => 0) ⟨#[], args, []⟩).memory :=
  laidMet_of_run' 8 (by kernel_rfl) (by kernel_rfl)
/-- A listed table of numbers lies where the row says. -/
theorem glob_of_vars {P : Program} {W : World} {nm : String} {g t n e : Nat} {k : IntKind} {ns : List Int} {rest : List (String × DataW Unit)} {ps : List MemPlace} (h : DataW.LaidVars P W ((nm, .agg (ns.map fun m => .lit (.int k m))) :: rest) ps) (hg : P.globalNamed nm = some g) (ht : (P.globals[g]?).map (·.type) = some t)
    (hu : P.underlying t = some (.array n e)) (he : P.underlying e = some (.int k)) (hc : P.cellsOf e = 1) (hct : P.cellsOf t = n) : (∃ cur et fz, W.heap[g]? = some (.cells cur et fz) ∧ cur.toList = ns.map fun m => .int k m) ∧ ∃ q, DataW.LaidVars P W rest q := by
  obtain ⟨g0, t0, cs0, f0, p0, q0, hg0, ht0, hv0, hd0, hq, _⟩ := h
  refine ⟨?_, q0, hq⟩
  obtain rfl := Option.some.inj (hg.symm.trans hg0)
  obtain rfl := Option.some.inj (ht.symm.trans ht0)
  obtain ⟨xs, m, _, hx, hl, hxl, hget⟩ := DataW.trod_array hu hd0
  have hcur : ∃ et fz, W.heap[g]? = some (.cells cs0 et fz) := by
    unfold World.var? at hv0
    rw [hg, Option.bind_some] at hv0
    split at hv0
    · rename_i c et fz hb
      cases hv0
      exact ⟨et, fz, hb⟩
    · cases hv0
  obtain ⟨et, fz, hb⟩ := hcur
  refine ⟨cs0, et, fz, hb, ?_⟩
  have e1 : xs.map (·.1) = ns.map fun m => .lit (.int k m) := by
    have := congrArg Prod.fst hx
    simp only [DataW.agg.injEq] at this
    exact this.symm
  have hnl : ns.length = n := by
    have := congrArg List.length e1
    simp only [List.length_map] at this
    omega
  apply List.ext_getElem
  · rw [hl, hct, List.length_map, hnl]
  · intro i h1 h2
    have hi : i < n := by rw [hl, hct] at h1; exact h1
    have h3 := hget i hi
    rw [List.getElem?_eq_getElem (by omega)] at h3
    obtain ⟨z, e2, e3, _⟩ := DataW.trod_int he h3
    have e4 : xs[i].1 = .lit (.int k (ns[i]'(by omega))) := by
      have := congrArg (fun l => l[i]?) e1
      simp only [List.getElem?_map, List.getElem?_eq_getElem (show i < xs.length by omega), List.getElem?_eq_getElem (show i < ns.length by omega), Option.map_some, Option.some.injEq] at this
      exact this
    rw [e3] at e4
    simp only [DataW.lit.injEq, Lit.int.injEq, true_and] at e4
    rw [hc, Nat.mul_one, List.drop_eq_getElem_cons h1] at e2
    simp only [List.take_succ_cons, List.take_zero, List.cons.injEq, and_true] at e2
    rw [e2, List.getElem_map, e4]
theorem globs_vars {W : World} {rest : List (String × DataW Unit)} (h : laidMet Tryz.prog (laidL ++ rest) W) : GlobOK W (fun b => b < W.heap.size) := by
  obtain ⟨ps, h, _, _⟩ := h
  obtain ⟨⟨cur, et, fz, hb, hc⟩, q, h⟩ := glob_of_vars (P := Tryz.prog) (nm := "math/bits.deBruijn32tab") (g := 1) (t := 145) (n := 32) (e := 5) (k := .u8) (ns := tab32) h (by kernel_rfl) (by kernel_rfl) (by kernel_rfl) (by kernel_rfl) (by kernel_rfl) (by kernel_rfl)
  obtain ⟨⟨cur1, et1, fz1, hb1, hc1⟩, q2, h⟩ := glob_of_vars (P := Tryz.prog) (nm := "math/bits.deBruijn64tab") (g := 2) (t := 146) (n := 64) (e := 5) (k := .u8) (ns := tab64) h (by kernel_rfl) (by kernel_rfl) (by kernel_rfl) (by kernel_rfl) (by kernel_rfl) (by kernel_rfl)
  obtain ⟨⟨cur2, et2, fz2, hb2, hc2⟩, _⟩ := glob_of_vars (P := Tryz.prog) (nm := "headword/sheet.divisors") (g := 0) (t := 58) (n := 25) (e := 57) (k := .u32) (ns := divs) h (by kernel_rfl) (by kernel_rfl) (by kernel_rfl) (by kernel_rfl) (by kernel_rfl) (by kernel_rfl)
  intro g ns hg
  match g, hg with
  | 0, hg =>
    cases hg
    exact ⟨(Array.getElem?_eq_some_iff.1 hb2).1, (Array.getElem?_eq_some_iff.1 hb2).1, cur2, et2, fz2, hb2, hc2⟩
  | 1, hg =>
    cases hg
    exact ⟨(Array.getElem?_eq_some_iff.1 hb).1, (Array.getElem?_eq_some_iff.1 hb).1, cur, et, fz, hb, hc⟩
  | 2, hg =>
    cases hg
    exact ⟨(Array.getElem?_eq_some_iff.1 hb1).1, (Array.getElem?_eq_some_iff.1 hb1).1, cur1, et1, fz1, hb1, hc1⟩
  | g + 3, hg => cases hg
theorem globs_ok {W : World} (h : laidMet Tryz.prog laidL W) : GlobOK W (fun b => b < W.heap.size) := globs_vars (rest := []) h
end Go.Proofs.YtkfkbebinhkdlaaGreatDoor
/-
  Vi: marked code that a text of ours walks: it makes one thing, and may leave some temporaries in disorder.
-/
set_option linter.unusedVariables false
set_option linter.unusedSimpArgs false
namespace Go.Vi
/-- The call's surroundings, from here on: what is not the call's own may turn no more. -/
def Cx.anew (x : Cx) {γ : Gam} {H : Heap} {w : World} (hi : Inv x γ H w) (ds : List Deferred) : Cx where
  B := w.heap.size
  M := fun b => ∃ k c, γ k = some (.at b c)
  A0 := fun b => Av x γ w b ∨ ∃ k c, γ k = some (.at b c)
  w0 := w
  ma := fun _ h => .inr h
  pin := x.pin
  pinlo := x.pinlo
  ds := ds
  glob := ⟨rfl, hi.globs.mono (Nat.le_refl _) fun b hb => ⟨.inl hb, rfl⟩⟩
  gM := fun g ns hg h => by
    obtain ⟨k, c, hk⟩ := h
    exact (hi.globs g ns hg).2.1.2.2 k c hk
theorem Av.anew {x : Cx} {γ : Gam} {H : Heap} {w : World} {ds : List Deferred} (hi : Inv x γ H w) (b : Nat) (h : Av x γ w b) : Av (x.anew hi ds) γ w b ∧ w.heap[b]? = w.heap[b]? :=
  ⟨⟨h.1, fun _ => .inl h, h.2.2⟩, rfl⟩
theorem RS.anew {x : Cx} {γ : Gam} {st : St} {a : Act} {w : World} (h : RS x γ st a w) : RS (x.anew h.inv x.ds) γ st a w where
  inv := ⟨Nat.le_refl _, rfl, rfl, rfl, fun _ _ _ => rfl, fun k i hk => by
    obtain ⟨ob, h1, h2⟩ := h.inv.own k i hk
    exact ⟨ob, h1, objR.mono (Av.anew h.inv) ob i (fun _ _ _ => rfl) h2⟩, fun k b c hk => ⟨.inr ⟨k, c, hk⟩, (h.inv.rng k b c hk).2⟩, h.inv.inj, h.inv.pin, h.inv.lnk⟩
  len := h.len
  tm := fun t v hv => VR.mono (Av.anew h.inv) v _ (h.tm t v hv)
  nod := h.nod
section
variable {P : Program} {E : Env} {x : Cx} {ρ : Type} {r : ρ}
end
end Go.Vi
set_option linter.unusedVariables false
set_option linter.unusedSimpArgs false
set_option maxRecDepth 100000
namespace Go.Proofs.YtkfkbebinhkdlaaGreatDoor
open Go.Vi
abbrev uu : V := .undef
def tab : Tab := { sh := [(3, (.int .i64)), (4, .bool), (5, (.int .u8)), (9, .str), (21, (.int .i32)), (22, (.pair (.int .u8) (.pair (.int .u8) (.pair (.int .u8) (.pair (.int .u8) (.pair (.int .u8) (.pair (.int .u8) (.pair (.int .u8) (.int .u8))))))))), (23, (.sl (.int .i64))), (24, (.sl (.int .u8))), (26, (.sl (.pair (.int .i64) (.int .i64)))), (28, (.pair (.sl (.pair (.int .i64) (.int .i64))) (.pair (.int .i64) (.int .i64)))), (30, (.pair (.int .i64) (.int .i64))), (31, (.int .i64)), (42, (.sl (.sl (.int .i64)))), (49, (.sl (.int .i64))), (57, (.int .u32)), (58, (.pair (.int .u32) (.pair (.int .u32) (.pair (.int .u32) (.pair (.int .u32) (.pair (.int .u32) (.pair (.int .u32) (.pair (.int .u32) (.pair (.int .u32) (.pair (.int .u32) (.pair (.int .u32) (.pair (.int .u32) (.pair (.int .u32) (.pair (.int .u32) (.pair (.int .u32) (.pair (.int .u32) (.pair (.int .u32) (.pair (.int .u32) (.pair (.int .u32) (.pair (.int .u32) (.pair (.int .u32) (.pair (.int .u32) (.pair (.int .u32) (.pair (.int .u32) (.pair (.int .u32) (.int .u32)))))))))))))))))))))))))), (74, (.pair (.int .i64) (.int .i64))), (75, (.sl (.pair (.int .i64) (.int .i64)))), (85, (.pair (.int .i64) (.sl (.int .i64)))), (87, (.int .u64)), (102, (.pair (.int .u64) .unit)), (104, (.pair (.int .i64) (.int .i64))), (105, (.sl (.pair (.int .i64) (.int .i64)))), (107, (.pair (.int .i64) (.sl (.pair (.int .i64) (.int .i64))))), (110, (.int .u64)), (119, (.pair (.int .i64) (.sl (.pair (.int .i64) (.int .i64))))), (134, (.pair (.int .u64) (.pair (.int .u64) (.pair (.int .u64) (.pair (.int .u64) (.pair (.int .u64) (.pair (.int .u64) (.int .u64)))))))), (136, (.pair (.int .i64) (.pair (.int .u64) (.pair (.int .u64) (.pair (.int .u64) (.pair (.int .u64) (.pair (.int .u64) (.pair (.int .u64) (.int .u64))))))))), (149, (.sl (.int .u64))), (151, (.sl .str)), (155, (.int .i64)), (162, (.int .u64))], flds := [(28, [(.sl (.pair (.int .i64) (.int .i64))), (.int .i64), (.int .i64)]), (30, [(.int .i64), (.int .i64)]), (74, [(.int .i64), (.int .i64)]), (85, [(.int .i64), (.sl (.int .i64))]), (102, [(.int .u64)]), (107, [(.int .i64), (.sl (.pair (.int .i64) (.int .i64)))]), (119, [(.int .i64), (.sl (.pair (.int .i64) (.int .i64)))]), (136, [(.int .i64), (.pair (.int .u64) (.pair (.int .u64) (.pair (.int .u64) (.pair (.int .u64) (.pair (.int .u64) (.pair (.int .u64) (.int .u64)))))))])], arrs := [(22, (8, (.int .u8))), (58, (25, (.int .u32))), (104, (2, (.int .i64))), (134, (7, (.int .u64)))], maps := [(153, (.i32, .bool))], eqs := [(104, (.pair (.int .i64) (.int .i64)))], idf := [5], del := [], lits := [], nils := false }
theorem id5 : IdC Tryz.prog 5 := ⟨callOK_of Tryz.func5 (by kernel_rfl) (by kernel_rfl), fun u w => by
  go_enter Tryz.func5, Tryz.ntmps5
  go_wp2
  go_ret
  exact ⟨rfl, rfl⟩⟩
theorem idOK : ∀ g ∈ tab.idf, IdC Tryz.prog g := by
  intro g hg
  simp only [tab, List.mem_cons, List.not_mem_nil, or_false] at hg
  subst hg
  exact id5
theorem delOK : ∀ g ∈ tab.del, DelC Tryz.prog g := by
  intro g hg
  cases hg
theorem tabOK : TabOK Tryz.prog tab := tabB_ok (by kernel_rfl) idOK delOK
theorem eqsOK : EqsOK Tryz.prog tab := eqsB_ok (by kernel_rfl)
def tabL : Tab := { tab with lits := [23, 26, 105] }
theorem tabLOK : TabOK Tryz.prog tabL := tabB_ok (by kernel_rfl) idOK delOK
theorem eqsLOK : EqsOK Tryz.prog tabL := eqsB_ok (by kernel_rfl)
def tabN : Tab := { tab with nils := true }
theorem tabNOK : TabOK Tryz.prog tabN := tabB_ok (by kernel_rfl) idOK delOK
theorem eqsNOK : EqsOK Tryz.prog tabN := eqsB_ok (by kernel_rfl)
theorem mixed : Tryz.prog.follows .mixedOrders = true := by kernel_rfl
abbrev R63 := Bool
noncomputable def c63 : Code := bodyOf Tryz.f63
noncomputable def an63 : Ann := .l
def pk63 : List PK := [.c (.int .i64)]
def rk63 : List RK := [.c .bool 2]
noncomputable def rt63 (st : St) : Option R63 := rtG rk63 st
noncomputable def E63 (n : Nat × Nat) : Env := { T := tab, phi := noPhi, eff := fun _ => false, fuel := n.1, hold := n.2 }
noncomputable def S63 (n : Nat × Nat) (p0 : Int) : Option R63 := run (E63 n) c63 an63 rt63 (fun _ _ => none) rt63 { tm := [.c (.int .i64 p0), uu, uu, uu, uu, uu, uu, uu, uu], hp := emp }
theorem S63_eq (n : Nat × Nat) (p0 : Int) : S63 n p0 =
 ((bif (decide (p0 < 0) == false) then some (decide (p0 ≥ 6))
 else some true)).bind fun b1' =>
 some b1' := by kernel_rfl
theorem S63_run (n : Nat × Nat) (xs : pksDen pk63) : S63 n xs.1 = runG (E63 n) noScope c63 an63 (rtG rk63) (fun _ _ => none) (rtG rk63) (st0 pk63 xs Tryz.f63.ntmps) := by kernel_rfl
noncomputable def P63 (n : Nat × Nat) := phiOf pk63 rk63 (fun xs => S63 n xs.1)
theorem call63 : CallOK Tryz.prog 63 := callOK_of Tryz.func63 (by kernel_rfl) (by kernel_rfl)
theorem env63 (n : Nat × Nat) : EnvOK Tryz.prog (E63 n) := envOK0 noPhi_ok rfl rfl
theorem par63 (n : Nat × Nat) : EnvPar (E63 n) := envPar0 noPhi_par rfl
theorem FC63 (n : Nat × Nat) : FCs Tryz.prog 63 (P63 n) := phiOf_FCs fun xs r h vs hv => FC.of_runG tabOK eqsOK (env63 n) (par63 n) mixed (fun _ p _ => noScope_ok p.1 p.2) Tryz.func63 (c := c63) (an := an63) (pks := pk63) (rks := rk63) (by kernel_rfl) (by kernel_rfl) hv ((S63_run n xs).symm.trans h)
/- slices.IndexFunc[[]int,int] -/
abbrev R43c63 := Int
noncomputable def c43c63 : Code := bodyOf Tryz.f43
noncomputable def an43c63 : Ann := (.s .l (.s (.s .l (.j [] (.j [0, 1, 7, 8] (.s .l (.s (.j [0, 1, 7, 8] .l .l) (.s (.j [0, 1, 7, 8] (.s .l (.s .l (.j [0, 1, 7, 8] .l .l))) .l) .l))) .l) .l)) .l))
def pk43c63 : List PK := [.c (.sl (.int .i64)), .f 63 []]
def rk43c63 : List RK := [.c (.int .i64) 4]
noncomputable def rt43c63 (st : St) : Option R43c63 := rtG rk43c63 st
noncomputable def E43c63 (n : Nat × Nat) : Env := { T := tab, phi := (consPhi 63 (fun _ => true) (P63 n) noPhi), eff := fun _ => false, fuel := n.1, hold := n.2, pcl := [11] }
noncomputable def kq43c63_1 (n : Nat × Nat) : St → Option R43c63 := run (E43c63 n) (cB (cB c43c63)) (Ann.snd (Ann.snd an43c63)) rt43c63 (fun _ _ => none) rt43c63
noncomputable def xb43c63_3 (n : Nat × Nat) : Nat → St → Option R43c63 := fun j s => bif Nat.beq j 0 then normC [] s (kq43c63_1 n) else (fun _ _ => none) j s
noncomputable def F43c63_4 (n : Nat × Nat) : (St → Option R43c63) → St → Option R43c63 := fun K s => run (E43c63 n) (cA (cA (cB (cA (cB c43c63))))) (Ann.fst (Ann.fst (Ann.snd (Ann.fst (Ann.snd an43c63))))) (fun s => normC [0, 1, 7, 8] s K) (xb43c63_3 n) rt43c63 s
noncomputable def L43c63_1 (n : Nat × Nat) (m : Nat) (s0 : List Int) (v7 : Int) (v8 : Int) : Option R43c63 := loopN (F43c63_4 n) m { tm := [.c (.sl (.int .i64) s0 false), .fn 63 [], uu, uu, uu, uu, uu, .c (.int .i64 v7), .c (.int .i64 v8), uu, uu, uu, uu, uu, uu, uu, uu, uu, uu], hp := emp }
theorem L43c63_1_eq (n : Nat × Nat) (m1 : Nat) (s0 : List Int) (v7 : Int) (v8 : Int) : L43c63_1 n (m1 + 1) s0 v7 v8 =
 (bif decide (v8 < v7) then (idx s0 v8).bind fun x1' =>
 (S63 n x1').bind fun r2' =>
 (bif r2' then some v8
 else L43c63_1 n m1 s0 v7 (wr .i64 (v8 + 1)))
 else some (-1)) := by kernel_rfl
noncomputable def S43c63 (n : Nat × Nat) (s0 : List Int) : Option R43c63 := run (E43c63 n) c43c63 an43c63 rt43c63 (fun _ _ => none) rt43c63 { tm := [.c (.sl (.int .i64) s0 false), .fn 63 [], uu, uu, uu, uu, uu, uu, uu, uu, uu, uu, uu, uu, uu, uu, uu, uu, uu], hp := emp }
theorem S43c63_eq (n : Nat × Nat) (s0 : List Int) : S43c63 n s0 =
    L43c63_1 n n.1 s0 (s0.length : Int) 0 := by kernel_rfl
theorem S43c63_run (n : Nat × Nat) (xs : pksDen pk43c63) : S43c63 n xs.1 = runG (E43c63 n) noScope c43c63 an43c63 (rtG rk43c63) (fun _ _ => none) (rtG rk43c63) (st0 pk43c63 xs Tryz.f43.ntmps) := by kernel_rfl
noncomputable def P43c63 (n : Nat × Nat) := phiOf pk43c63 rk43c63 (fun xs => S43c63 n xs.1)
theorem call43 : CallOK Tryz.prog 43 := callOK_of Tryz.func43 (by kernel_rfl) (by kernel_rfl)
theorem env43c63 (n : Nat × Nat) : EnvOK Tryz.prog (E43c63 n) := envOK0 (consPhi_ok (FC63 n) call63 noPhi_ok) rfl rfl
theorem par43c63 (n : Nat × Nat) : EnvPar (E43c63 n) := envPar0 (consPhi_par phiOf_Par1 noPhi_par) rfl
theorem FC43c63 (n : Nat × Nat) : FCs Tryz.prog 43 (P43c63 n) := phiOf_FCs fun xs r h vs hv => FC.of_runG tabOK eqsOK (env43c63 n) (par43c63 n) mixed (fun _ p _ => noScope_ok p.1 p.2) Tryz.func43 (c := c43c63) (an := an43c63) (pks := pk43c63) (rks := rk43c63) (by kernel_rfl) (by kernel_rfl) hv ((S43c63_run n xs).symm.trans h)
/- slices.ContainsFunc[[]int,int] -/
abbrev R34c63 := Bool
noncomputable def c34c63 : Code := bodyOf Tryz.f34
noncomputable def an34c63 : Ann := .l
def pk34c63 : List PK := [.c (.sl (.int .i64)), .f 63 []]
def rk34c63 : List RK := [.c .bool 4]
noncomputable def rt34c63 (st : St) : Option R34c63 := rtG rk34c63 st
noncomputable def E34c63 (n : Nat × Nat) : Env := { T := tab, phi := (consPhi 43 (isFns [none, some 63]) (P43c63 n) noPhi), eff := fun _ => false, fuel := n.1, hold := n.2 }
noncomputable def S34c63 (n : Nat × Nat) (s0 : List Int) : Option R34c63 := run (E34c63 n) c34c63 an34c63 rt34c63 (fun _ _ => none) rt34c63 { tm := [.c (.sl (.int .i64) s0 false), .fn 63 [], uu, uu, uu, uu, uu, uu, uu], hp := emp }
theorem S34c63_eq (n : Nat × Nat) (s0 : List Int) : S34c63 n s0 =
 (S43c63 n s0).bind fun r1' =>
 some (decide (r1' ≥ 0)) := by kernel_rfl
theorem S34c63_run (n : Nat × Nat) (xs : pksDen pk34c63) : S34c63 n xs.1 = runG (E34c63 n) noScope c34c63 an34c63 (rtG rk34c63) (fun _ _ => none) (rtG rk34c63) (st0 pk34c63 xs Tryz.f34.ntmps) := by kernel_rfl
noncomputable def P34c63 (n : Nat × Nat) := phiOf pk34c63 rk34c63 (fun xs => S34c63 n xs.1)
theorem call34 : CallOK Tryz.prog 34 := callOK_of Tryz.func34 (by kernel_rfl) (by kernel_rfl)
theorem env34c63 (n : Nat × Nat) : EnvOK Tryz.prog (E34c63 n) := envOK0 (consPhi_ok (FC43c63 n) call43 noPhi_ok) rfl rfl
theorem par34c63 (n : Nat × Nat) : EnvPar (E34c63 n) := envPar0 (consPhi_par phiOf_Par1 noPhi_par) rfl
theorem FC34c63 (n : Nat × Nat) : FCs Tryz.prog 34 (P34c63 n) := phiOf_FCs fun xs r h vs hv => FC.of_runG tabOK eqsOK (env34c63 n) (par34c63 n) mixed (fun _ p _ => noScope_ok p.1 p.2) Tryz.func34 (c := c34c63) (an := an34c63) (pks := pk34c63) (rks := rk34c63) (by kernel_rfl) (by kernel_rfl) hv ((S34c63_run n xs).symm.trans h)
abbrev R35 := Bool
noncomputable def c35 : Code := bodyOf Tryz.f35
noncomputable def an35 : Ann := .l
def pk35 : List PK := [.c (.int .i64), .p (.int .i64)]
def rk35 : List RK := [.c .bool 3]
noncomputable def rt35 (st : St) : Option R35 := rtG rk35 st
noncomputable def E35 (n : Nat × Nat) : Env := { T := tab, phi := noPhi, eff := fun _ => false, fuel := n.1, hold := n.2 }
noncomputable def S35 (n : Nat × Nat) (p0 : Int) (v1 : Int) : Option R35 := run (E35 n) c35 an35 rt35 (fun _ _ => none) rt35 { tm := [.c (.int .i64 p0), .iptr [.int .i64 v1], uu, uu, uu, uu, uu, uu, uu, uu, uu], hp := emp }
theorem S35_eq (n : Nat × Nat) (p0 : Int) (v1 : Int) : S35 n p0 v1 =
 ((bif (decide (p0 < 1) == false) then some (decide (p0 > v1))
 else some true)).bind fun b1' =>
 some b1' := by kernel_rfl
theorem S35_run (n : Nat × Nat) (xs : pksDen pk35) : S35 n xs.1 xs.2.1 = runG (E35 n) noScope c35 an35 (rtG rk35) (fun _ _ => none) (rtG rk35) (st0 pk35 xs Tryz.f35.ntmps) := by kernel_rfl
noncomputable def P35 (n : Nat × Nat) := phiOf pk35 rk35 (fun xs => S35 n xs.1 xs.2.1)
theorem call35 : CallOK Tryz.prog 35 := callOK_of Tryz.func35 (by kernel_rfl) (by kernel_rfl)
theorem env35 (n : Nat × Nat) : EnvOK Tryz.prog (E35 n) := envOK0 noPhi_ok rfl rfl
theorem par35 (n : Nat × Nat) : EnvPar (E35 n) := envPar0 noPhi_par rfl
theorem FC35 (n : Nat × Nat) : FCs Tryz.prog 35 (P35 n) := phiOf_FCs fun xs r h vs hv => FC.of_runG tabOK eqsOK (env35 n) (par35 n) mixed (fun _ p _ => noScope_ok p.1 p.2) Tryz.func35 (c := c35) (an := an35) (pks := pk35) (rks := rk35) (by kernel_rfl) (by kernel_rfl) hv ((S35_run n xs).symm.trans h)
/- slices.IndexFunc[[]int,int] -/
abbrev R43c35 := Int
noncomputable def c43c35 : Code := bodyOf Tryz.f43
noncomputable def an43c35 : Ann := (.s .l (.s (.s .l (.j [] (.j [0, 1, 7, 8] (.s .l (.s (.j [0, 1, 7, 8] .l .l) (.s (.j [0, 1, 7, 8] (.s .l (.s .l (.j [0, 1, 7, 8] .l .l))) .l) .l))) .l) .l)) .l))
def pk43c35 : List PK := [.c (.sl (.int .i64)), .f 35 [(.int .i64)]]
def rk43c35 : List RK := [.c (.int .i64) 4]
noncomputable def rt43c35 (st : St) : Option R43c35 := rtG rk43c35 st
noncomputable def E43c35 (n : Nat × Nat) : Env := { T := tab, phi := (consPhi 35 (fun _ => true) (P35 n) noPhi), eff := fun _ => false, fuel := n.1, hold := n.2, pcl := [11] }
noncomputable def kq43c35_1 (n : Nat × Nat) : St → Option R43c35 := run (E43c35 n) (cB (cB c43c35)) (Ann.snd (Ann.snd an43c35)) rt43c35 (fun _ _ => none) rt43c35
noncomputable def xb43c35_3 (n : Nat × Nat) : Nat → St → Option R43c35 := fun j s => bif Nat.beq j 0 then normC [] s (kq43c35_1 n) else (fun _ _ => none) j s
noncomputable def F43c35_4 (n : Nat × Nat) : (St → Option R43c35) → St → Option R43c35 := fun K s => run (E43c35 n) (cA (cA (cB (cA (cB c43c35))))) (Ann.fst (Ann.fst (Ann.snd (Ann.fst (Ann.snd an43c35))))) (fun s => normC [0, 1, 7, 8] s K) (xb43c35_3 n) rt43c35 s
noncomputable def L43c35_1 (n : Nat × Nat) (m : Nat) (s0 : List Int) (f1_0 : Int) (v7 : Int) (v8 : Int) : Option R43c35 := loopN (F43c35_4 n) m { tm := [.c (.sl (.int .i64) s0 false), .fn 35 [.iptr [.int .i64 f1_0]], uu, uu, uu, uu, uu, .c (.int .i64 v7), .c (.int .i64 v8), uu, uu, uu, uu, uu, uu, uu, uu, uu, uu], hp := emp }
theorem L43c35_1_eq (n : Nat × Nat) (m1 : Nat) (s0 : List Int) (f1_0 : Int) (v7 : Int) (v8 : Int) : L43c35_1 n (m1 + 1) s0 f1_0 v7 v8 =
 (bif decide (v8 < v7) then (idx s0 v8).bind fun x1' =>
 (S35 n x1' f1_0).bind fun r2' =>
 (bif r2' then some v8
 else L43c35_1 n m1 s0 f1_0 v7 (wr .i64 (v8 + 1)))
 else some (-1)) := by kernel_rfl
noncomputable def S43c35 (n : Nat × Nat) (s0 : List Int) (cp_1_0 : Int) : Option R43c35 := run (E43c35 n) c43c35 an43c35 rt43c35 (fun _ _ => none) rt43c35 { tm := [.c (.sl (.int .i64) s0 false), .fn 35 [.iptr [.int .i64 cp_1_0]], uu, uu, uu, uu, uu, uu, uu, uu, uu, uu, uu, uu, uu, uu, uu, uu, uu], hp := emp }
theorem S43c35_eq (n : Nat × Nat) (s0 : List Int) (cp_1_0 : Int) : S43c35 n s0 cp_1_0 =
    L43c35_1 n n.1 s0 cp_1_0 (s0.length : Int) 0 := by kernel_rfl
theorem S43c35_run (n : Nat × Nat) (xs : pksDen pk43c35) : S43c35 n xs.1 xs.2.1.1 = runG (E43c35 n) noScope c43c35 an43c35 (rtG rk43c35) (fun _ _ => none) (rtG rk43c35) (st0 pk43c35 xs Tryz.f43.ntmps) := by kernel_rfl
noncomputable def P43c35 (n : Nat × Nat) := phiOf pk43c35 rk43c35 (fun xs => S43c35 n xs.1 xs.2.1.1)
theorem env43c35 (n : Nat × Nat) : EnvOK Tryz.prog (E43c35 n) := envOK0 (consPhi_ok (FC35 n) call35 noPhi_ok) rfl rfl
theorem par43c35 (n : Nat × Nat) : EnvPar (E43c35 n) := envPar0 (consPhi_par phiOf_Par1 noPhi_par) rfl
theorem FC43c35 (n : Nat × Nat) : FCs Tryz.prog 43 (P43c35 n) := phiOf_FCs fun xs r h vs hv => FC.of_runG tabOK eqsOK (env43c35 n) (par43c35 n) mixed (fun _ p _ => noScope_ok p.1 p.2) Tryz.func43 (c := c43c35) (an := an43c35) (pks := pk43c35) (rks := rk43c35) (by kernel_rfl) (by kernel_rfl) hv ((S43c35_run n xs).symm.trans h)
/- slices.ContainsFunc[[]int,int] -/
abbrev R34c35 := Bool
noncomputable def c34c35 : Code := bodyOf Tryz.f34
noncomputable def an34c35 : Ann := .l
def pk34c35 : List PK := [.c (.sl (.int .i64)), .f 35 [(.int .i64)]]
def rk34c35 : List RK := [.c .bool 4]
noncomputable def rt34c35 (st : St) : Option R34c35 := rtG rk34c35 st
noncomputable def E34c35 (n : Nat × Nat) : Env := { T := tab, phi := (consPhi 43 (isFns [none, some 35]) (P43c35 n) noPhi), eff := fun _ => false, fuel := n.1, hold := n.2 }
noncomputable def S34c35 (n : Nat × Nat) (s0 : List Int) (cp_1_0 : Int) : Option R34c35 := run (E34c35 n) c34c35 an34c35 rt34c35 (fun _ _ => none) rt34c35 { tm := [.c (.sl (.int .i64) s0 false), .fn 35 [.iptr [.int .i64 cp_1_0]], uu, uu, uu, uu, uu, uu, uu], hp := emp }
theorem S34c35_eq (n : Nat × Nat) (s0 : List Int) (cp_1_0 : Int) : S34c35 n s0 cp_1_0 =
 (S43c35 n s0 cp_1_0).bind fun r1' =>
 some (decide (r1' ≥ 0)) := by kernel_rfl
theorem S34c35_run (n : Nat × Nat) (xs : pksDen pk34c35) : S34c35 n xs.1 xs.2.1.1 = runG (E34c35 n) noScope c34c35 an34c35 (rtG rk34c35) (fun _ _ => none) (rtG rk34c35) (st0 pk34c35 xs Tryz.f34.ntmps) := by kernel_rfl
noncomputable def P34c35 (n : Nat × Nat) := phiOf pk34c35 rk34c35 (fun xs => S34c35 n xs.1 xs.2.1.1)
theorem env34c35 (n : Nat × Nat) : EnvOK Tryz.prog (E34c35 n) := envOK0 (consPhi_ok (FC43c35 n) call43 noPhi_ok) rfl rfl
theorem par34c35 (n : Nat × Nat) : EnvPar (E34c35 n) := envPar0 (consPhi_par phiOf_Par1 noPhi_par) rfl
theorem FC34c35 (n : Nat × Nat) : FCs Tryz.prog 34 (P34c35 n) := phiOf_FCs fun xs r h vs hv => FC.of_runG tabOK eqsOK (env34c35 n) (par34c35 n) mixed (fun _ p _ => noScope_ok p.1 p.2) Tryz.func34 (c := c34c35) (an := an34c35) (pks := pk34c35) (rks := rk34c35) (by kernel_rfl) (by kernel_rfl) hv ((S34c35_run n xs).symm.trans h)
abbrev R22 := Int
noncomputable def c22 : Code := bodyOf Tryz.f22
noncomputable def an22 : Ann := (.s .l (.s (.j [] (.s .l (.j [] .l (.s .l (.j [] .l (.s .l (.j [] .l .l)))))) .l) .l))
def pk22 : List PK := [.c (.int .i64), .c (.sl (.int .i64))]
def rk22 : List RK := [.c (.int .i64) 4]
noncomputable def rt22 (st : St) : Option R22 := rtG rk22 st
noncomputable def E22 (n : Nat × Nat) : Env := { T := tab, phi := (consPhi 34 (isFns [none, some 35]) (P34c35 n) noPhi), eff := fun _ => false, fuel := n.1, hold := n.2 }
noncomputable def S22 (n : Nat × Nat) (size0 : Int) (pieces1 : List Int) : Option R22 := run (E22 n) c22 an22 rt22 (fun _ _ => none) rt22 { tm := [.c (.int .i64 size0), .c (.sl (.int .i64) pieces1 false), uu, uu, uu, uu, uu, uu, uu, uu, uu, uu, uu, uu, uu, uu, uu, uu, uu, uu], hp := emp }
theorem S22_eq (n : Nat × Nat) (size0 : Int) (pieces1 : List Int) : S22 n size0 pieces1 =
 ((bif (decide (size0 < 1) == false) then some (decide (size0 > 24))
 else some true)).bind fun b1' =>
 (bif b1' then some 1
 else (bif decide ((pieces1.length : Int) > 8) then some 3
 else (S34c35 n pieces1 size0).bind fun r2' =>
 (bif r2' then some 1
 else some 0))) := by kernel_rfl
theorem S22_run (n : Nat × Nat) (xs : pksDen pk22) : S22 n xs.1 xs.2.1 = runG (E22 n) noScope c22 an22 (rtG rk22) (fun _ _ => none) (rtG rk22) (st0 pk22 xs Tryz.f22.ntmps) := by kernel_rfl
noncomputable def P22 (n : Nat × Nat) := phiOf pk22 rk22 (fun xs => S22 n xs.1 xs.2.1)
theorem call22 : CallOK Tryz.prog 22 := callOK_of Tryz.func22 (by kernel_rfl) (by kernel_rfl)
theorem env22 (n : Nat × Nat) : EnvOK Tryz.prog (E22 n) := envOK0 (consPhi_ok (FC34c35 n) call34 noPhi_ok) rfl rfl
theorem par22 (n : Nat × Nat) : EnvPar (E22 n) := envPar0 (consPhi_par phiOf_Par1 noPhi_par) rfl
theorem FC22 (n : Nat × Nat) : FCs Tryz.prog 22 (P22 n) := phiOf_FCs fun xs r h vs hv => FC.of_runG tabOK eqsOK (env22 n) (par22 n) mixed (fun _ p _ => noScope_ok p.1 p.2) Tryz.func22 (c := c22) (an := an22) (pks := pk22) (rks := rk22) (by kernel_rfl) (by kernel_rfl) hv ((S22_run n xs).symm.trans h)
/- math/bits.Mul64 -/
abbrev R60 := Int × Int
noncomputable def c60 : Code := bodyOf Tryz.f60
noncomputable def an60 : Ann := .l
def pk60 : List PK := [.c (.int .u64), .c (.int .u64)]
def rk60 : List RK := [.c (.int .u64) 4, .c (.int .u64) 5]
noncomputable def rt60 (st : St) : Option R60 := rtG rk60 st
noncomputable def E60 (n : Nat × Nat) : Env := { T := tab, phi := noPhi, eff := fun _ => false, fuel := n.1, hold := n.2 }
noncomputable def S60 (n : Nat × Nat) (x0 : Int) (y1 : Int) : Option R60 := run (E60 n) c60 an60 rt60 (fun _ _ => none) rt60 { tm := [.c (.int .u64 x0), .c (.int .u64 y1), uu, uu, uu, uu, uu, uu, uu, uu, uu, uu, uu, uu, uu, uu, uu, uu, uu, uu, uu, uu, uu, uu, uu, uu, uu, uu, uu, uu, uu, uu, uu, uu, uu, uu, uu, uu, uu, uu, uu, uu, uu, uu, uu, uu, uu, uu, uu, uu, uu], hp := emp }
theorem S60_eq (n : Nat × Nat) (x0 : Int) (y1 : Int) : S60 n x0 y1 =
 (bif decide (32 < 0) then none
 else (bif decide (32 < 0) then none
 else (bif decide (32 < 0) then none
 else (bif decide (32 < 0) then none
 else (bif decide (32 < 0) then none
 else some (wr .u64 ((wr .u64 ((wr .u64 ((Int.fdiv x0 (2 ^ (min (Int.toNat 32) (IntKind.bits .u64)))) * (Int.fdiv y1 (2 ^ (min (Int.toNat 32) (IntKind.bits .u64)))))) + (Int.fdiv (wr .u64 ((wr .u64 ((Int.fdiv x0 (2 ^ (min (Int.toNat 32) (IntKind.bits .u64)))) * (wr .u64 (BitVec.ofInt (IntKind.bits .u64) y1 &&& BitVec.ofInt (IntKind.bits .u64) 4294967295).toNat))) + (Int.fdiv (wr .u64 ((wr .u64 (BitVec.ofInt (IntKind.bits .u64) x0 &&& BitVec.ofInt (IntKind.bits .u64) 4294967295).toNat) * (wr .u64 (BitVec.ofInt (IntKind.bits .u64) y1 &&& BitVec.ofInt (IntKind.bits .u64) 4294967295).toNat))) (2 ^ (min (Int.toNat 32) (IntKind.bits .u64)))))) (2 ^ (min (Int.toNat 32) (IntKind.bits .u64)))))) + (Int.fdiv (wr .u64 ((wr .u64 (BitVec.ofInt (IntKind.bits .u64) (wr .u64 ((wr .u64 ((Int.fdiv x0 (2 ^ (min (Int.toNat 32) (IntKind.bits .u64)))) * (wr .u64 (BitVec.ofInt (IntKind.bits .u64) y1 &&& BitVec.ofInt (IntKind.bits .u64) 4294967295).toNat))) + (Int.fdiv (wr .u64 ((wr .u64 (BitVec.ofInt (IntKind.bits .u64) x0 &&& BitVec.ofInt (IntKind.bits .u64) 4294967295).toNat) * (wr .u64 (BitVec.ofInt (IntKind.bits .u64) y1 &&& BitVec.ofInt (IntKind.bits .u64) 4294967295).toNat))) (2 ^ (min (Int.toNat 32) (IntKind.bits .u64)))))) &&& BitVec.ofInt (IntKind.bits .u64) 4294967295).toNat) + (wr .u64 ((wr .u64 (BitVec.ofInt (IntKind.bits .u64) x0 &&& BitVec.ofInt (IntKind.bits .u64) 4294967295).toNat) * (Int.fdiv y1 (2 ^ (min (Int.toNat 32) (IntKind.bits .u64)))))))) (2 ^ (min (Int.toNat 32) (IntKind.bits .u64))))), wr .u64 (x0 * y1))))))) := by kernel_rfl
theorem S60_run (n : Nat × Nat) (xs : pksDen pk60) : S60 n xs.1 xs.2.1 = runG (E60 n) noScope c60 an60 (rtG rk60) (fun _ _ => none) (rtG rk60) (st0 pk60 xs Tryz.f60.ntmps) := by kernel_rfl
noncomputable def P60 (n : Nat × Nat) := phiOf pk60 rk60 (fun xs => S60 n xs.1 xs.2.1)
theorem call60 : CallOK Tryz.prog 60 := callOK_of Tryz.func60 (by kernel_rfl) (by kernel_rfl)
theorem env60 (n : Nat × Nat) : EnvOK Tryz.prog (E60 n) := envOK0 noPhi_ok rfl rfl
theorem par60 (n : Nat × Nat) : EnvPar (E60 n) := envPar0 noPhi_par rfl
theorem FC60 (n : Nat × Nat) : FCs Tryz.prog 60 (P60 n) := phiOf_FCs fun xs r h vs hv => FC.of_runG tabOK eqsOK (env60 n) (par60 n) mixed (fun _ p _ => noScope_ok p.1 p.2) Tryz.func60 (c := c60) (an := an60) (pks := pk60) (rks := rk60) (by kernel_rfl) (by kernel_rfl) hv ((S60_run n xs).symm.trans h)
/- math/bits.Mul -/
abbrev R51 := Int × Int
noncomputable def c51 : Code := bodyOf Tryz.f51
noncomputable def an51 : Ann := (.s .l (.s (.j [0, 1] .l .l) .l))
def pk51 : List PK := [.c (.int .u64), .c (.int .u64)]
def rk51 : List RK := [.c (.int .u64) 4, .c (.int .u64) 5]
noncomputable def rt51 (st : St) : Option R51 := rtG rk51 st
noncomputable def E51 (n : Nat × Nat) : Env := { T := tab, phi := (consPhi 60 (fun _ => true) (P60 n) noPhi), eff := fun _ => false, fuel := n.1, hold := n.2 }
noncomputable def S51 (n : Nat × Nat) (x0 : Int) (y1 : Int) : Option R51 := run (E51 n) c51 an51 rt51 (fun _ _ => none) rt51 { tm := [.c (.int .u64 x0), .c (.int .u64 y1), uu, uu, uu, uu, uu, uu, uu, uu, uu, uu, uu, uu, uu, uu, uu, uu, uu, uu, uu, uu, uu, uu, uu, uu, uu, uu, uu, uu], hp := emp }
theorem S51_eq (n : Nat × Nat) (x0 : Int) (y1 : Int) : S51 n x0 y1 =
 (S60 n x0 y1).bind fun r1' =>
 some (r1'.1, r1'.2) := by kernel_rfl
theorem S51_run (n : Nat × Nat) (xs : pksDen pk51) : S51 n xs.1 xs.2.1 = runG (E51 n) noScope c51 an51 (rtG rk51) (fun _ _ => none) (rtG rk51) (st0 pk51 xs Tryz.f51.ntmps) := by kernel_rfl
noncomputable def P51 (n : Nat × Nat) := phiOf pk51 rk51 (fun xs => S51 n xs.1 xs.2.1)
theorem call51 : CallOK Tryz.prog 51 := callOK_of Tryz.func51 (by kernel_rfl) (by kernel_rfl)
theorem env51 (n : Nat × Nat) : EnvOK Tryz.prog (E51 n) := envOK0 (consPhi_ok (FC60 n) call60 noPhi_ok) rfl rfl
theorem par51 (n : Nat × Nat) : EnvPar (E51 n) := envPar0 (consPhi_par phiOf_Par1 noPhi_par) rfl
theorem FC51 (n : Nat × Nat) : FCs Tryz.prog 51 (P51 n) := phiOf_FCs fun xs r h vs hv => FC.of_runG tabOK eqsOK (env51 n) (par51 n) mixed (fun _ p _ => noScope_ok p.1 p.2) Tryz.func51 (c := c51) (an := an51) (pks := pk51) (rks := rk51) (by kernel_rfl) (by kernel_rfl) hv ((S51_run n xs).symm.trans h)
/- slices.Repeat[[]int,int] -/
abbrev R44 := List Int
noncomputable def c44 : Code := bodyOf Tryz.f44
noncomputable def an44 : Ann := (.s .l (.s (.s .l (.j [0, 1, 24, 25] .l .l)) (.s .l (.s (.s .l (.j [0, 6] .l .l)) (.s .l (.s .l (.s (.j [7] (.j [7, 8] (.s (.s .l (.j [7, 8] .l .l)) (.j [7, 8] .l .l)) .l) .l) .l)))))))
def pk44 : List PK := [.c (.sl (.int .i64)), .c (.int .i64)]
def rk44 : List RK := [.own (.int .i64) 4]
noncomputable def rt44 (st : St) : Option R44 := rtG rk44 st
noncomputable def E44 (n : Nat × Nat) : Env := { T := tab, phi := (consPhi 51 (fun _ => true) (P51 n) noPhi), eff := fun _ => false, fuel := n.1, hold := n.2 }
noncomputable def kq44_5 (n : Nat × Nat) : St → Option R44 := run (E44 n) (cB (cB (cB (cB (cB (cB (cB c44))))))) (Ann.snd (Ann.snd (Ann.snd (Ann.snd (Ann.snd (Ann.snd (Ann.snd an44))))))) rt44 (fun _ _ => none) rt44
noncomputable def xb44_7 (n : Nat × Nat) : Nat → St → Option R44 := fun j s => bif Nat.beq j 0 then normC [7] s (kq44_5 n) else (fun _ _ => none) j s
noncomputable def F44_8 (n : Nat × Nat) : (St → Option R44) → St → Option R44 := fun K s => run (E44 n) (cA (cA (cA (cB (cB (cB (cB (cB (cB c44))))))))) (Ann.fst (Ann.fst (Ann.fst (Ann.snd (Ann.snd (Ann.snd (Ann.snd (Ann.snd (Ann.snd an44))))))))) (fun s => normC [7, 8] s K) (xb44_7 n) rt44 s
noncomputable def L44_1 (n : Nat × Nat) (m : Nat) (v8 : Int) (newslice7 : List Int) : Option R44 := loopN (F44_8 n) m { tm := [uu, uu, uu, uu, uu, uu, uu, .own 7 none false, .c (.int .i64 v8), uu, uu, uu, uu, uu, uu, uu, uu, uu, uu, uu, uu, uu, uu, uu, uu, uu, uu, uu, uu, uu, uu, uu, uu, uu, uu, uu, uu, uu, uu, uu, uu, uu, uu, uu, uu, uu, uu, uu], hp := (upd emp 7 (.arr (.int .i64) newslice7 false)) }
theorem L44_1_eq (n : Nat × Nat) (m1 : Nat) (v8 : Int) (newslice7 : List Int) : L44_1 n (m1 + 1) v8 newslice7 =
 (bif decide (v8 < (newslice7.length : Int)) then (bif bounds (some v8) none none newslice7.length then (bif bounds none (some v8) none newslice7.length then L44_1 n m1 (wr .i64 (v8 + ((min ((newslice7.drop (0 + 0)).take ((Int.toNat v8) - 0)).length ((newslice7.drop (0 + (Int.toNat v8))).take (newslice7.length - (Int.toNat v8))).length : Nat) : Int))) (newslice7.take (0 + (Int.toNat v8)) ++ ((newslice7.drop (0 + 0)).take ((Int.toNat v8) - 0)).take (min ((newslice7.drop (0 + 0)).take ((Int.toNat v8) - 0)).length ((newslice7.drop (0 + (Int.toNat v8))).take (newslice7.length - (Int.toNat v8))).length) ++ newslice7.drop ((0 + (Int.toNat v8)) + min ((newslice7.drop (0 + 0)).take ((Int.toNat v8) - 0)).length ((newslice7.drop (0 + (Int.toNat v8))).take (newslice7.length - (Int.toNat v8))).length))
 else none)
 else none)
 else some newslice7) := by kernel_rfl
noncomputable def S44 (n : Nat × Nat) (x0 : List Int) (count1 : Int) : Option R44 := run (E44 n) c44 an44 rt44 (fun _ _ => none) rt44 { tm := [.c (.sl (.int .i64) x0 false), .c (.int .i64 count1), uu, uu, uu, uu, uu, uu, uu, uu, uu, uu, uu, uu, uu, uu, uu, uu, uu, uu, uu, uu, uu, uu, uu, uu, uu, uu, uu, uu, uu, uu, uu, uu, uu, uu, uu, uu, uu, uu, uu, uu, uu, uu, uu, uu, uu, uu], hp := emp }
theorem S44_eq (n : Nat × Nat) (x0 : List Int) (count1 : Int) : S44 n x0 count1 =
 (bif decide (count1 < 0) then none
 else (S51 n (wr .u64 (x0.length : Int)) (wr .u64 count1)).bind fun r1' =>
 ((bif (decide (r1'.1 > 0) == false) then some (decide (r1'.2 > 9223372036854775807))
 else some true)).bind fun b2' =>
 (bif b2' then none
 else (bif decide (0 ≤ wr .i64 r1'.2) && decide (wr .i64 r1'.2 ≤ wr .i64 r1'.2) && decide (wr .i64 r1'.2 ≤ lim) then L44_1 n n.1 ((min x0.length (List.replicate (Int.toNat (wr .i64 r1'.2)) (0 : Int)).length : Nat) : Int) ((List.replicate (Int.toNat (wr .i64 r1'.2)) (0 : Int)).take 0 ++ x0.take (min x0.length (List.replicate (Int.toNat (wr .i64 r1'.2)) (0 : Int)).length) ++ (List.replicate (Int.toNat (wr .i64 r1'.2)) (0 : Int)).drop (0 + min x0.length (List.replicate (Int.toNat (wr .i64 r1'.2)) (0 : Int)).length))
 else none))) := by kernel_rfl
theorem S44_run (n : Nat × Nat) (xs : pksDen pk44) : S44 n xs.1 xs.2.1 = runG (E44 n) noScope c44 an44 (rtG rk44) (fun _ _ => none) (rtG rk44) (st0 pk44 xs Tryz.f44.ntmps) := by kernel_rfl
noncomputable def P44 (n : Nat × Nat) := phiOf pk44 rk44 (fun xs => S44 n xs.1 xs.2.1)
theorem call44 : CallOK Tryz.prog 44 := callOK_of Tryz.func44 (by kernel_rfl) (by kernel_rfl)
theorem env44 (n : Nat × Nat) : EnvOK Tryz.prog (E44 n) := envOK0 (consPhi_ok (FC51 n) call51 noPhi_ok) rfl rfl
theorem par44 (n : Nat × Nat) : EnvPar (E44 n) := envPar0 (consPhi_par phiOf_Par1 noPhi_par) rfl
theorem FC44 (n : Nat × Nat) : FCs Tryz.prog 44 (P44 n) := phiOf_FCs fun xs r h vs hv => FC.of_runG tabOK eqsOK (env44 n) (par44 n) mixed (fun _ p _ => noScope_ok p.1 p.2) Tryz.func44 (c := c44) (an := an44) (pks := pk44) (rks := rk44) (by kernel_rfl) (by kernel_rfl) hv ((S44_run n xs).symm.trans h)
abbrev R37io11 := (Bool) × (List Int) × Bool × Unit
noncomputable def c37io11 : Code := bodyOf Tryz.f37
noncomputable def an37io11 : Ann := .l
def pk37io11 : List QK := [.oa (.int .i64), .ob .bool]
def rk37io11 : List RK := [.c .bool 3]
noncomputable def rt37io11 (st : St) : Option R37io11 := rtIO rk37io11 (pk37io11.flatMap QK.ods) st
noncomputable def E37io11 (n : Nat × Nat) : Env := { T := tab, phi := noPhi, eff := fun _ => false, fuel := n.1, hold := n.2 }
noncomputable def S37io11 (n : Nat × Nat) (v0 : List Int) (v1 : Bool) : Option R37io11 := run (E37io11 n) c37io11 an37io11 rt37io11 (fun _ _ => none) rt37io11 { tm := [.own 1000000000000 none false, .ptr 1000000000001 0, uu, uu], hp := (upd (upd emp 1000000000001 (.box [.bool v1])) 1000000000000 (.arr (.int .i64) v0 false)) }
theorem S37io11_eq (n : Nat × Nat) (v0 : List Int) (v1 : Bool) : S37io11 n v0 v1 =
 some (false, v0, true, ()) := by kernel_rfl
theorem S37io11_run (n : Nat × Nat) (xs : qksDen pk37io11) : S37io11 n xs.1 xs.2.1 = runG (E37io11 n) noScope c37io11 an37io11 (rtIO rk37io11 (pk37io11.flatMap QK.ods)) (fun _ _ => none) (rtIO rk37io11 (pk37io11.flatMap QK.ods)) (st1 pk37io11 xs Tryz.f37.ntmps) := by kernel_rfl
noncomputable def P37io11 (n : Nat × Nat) := phioOf pk37io11 rk37io11 (pk37io11.flatMap QK.ods) (fun xs => S37io11 n xs.1 xs.2.1)
theorem call37 : CallOK Tryz.prog 37 := callOK_of Tryz.func37 (by kernel_rfl) (by kernel_rfl)
theorem env37io11 (n : Nat × Nat) : EnvOK Tryz.prog (E37io11 n) := envOK0 noPhi_ok rfl rfl
theorem par37io11 (n : Nat × Nat) : EnvPar (E37io11 n) := envPar0 noPhi_par rfl
theorem FC37io11 (n : Nat × Nat) : FCios Tryz.prog 37 (pk37io11.map QK.flag) (P37io11 n) := phioOf_FCios fun xs r h vs hv => FCio.of_runG tabOK eqsOK (env37io11 n) (par37io11 n) mixed (fun _ p _ => noScope_ok p.1 p.2) Tryz.func37 (c := c37io11) (an := an37io11) (qks := pk37io11) (rks := rk37io11) (by kernel_rfl) (by kernel_rfl) hv ((S37io11_run n xs).symm.trans h)
abbrev R36c37io0001 := (Unit) × Bool × Unit
noncomputable def c36c37io0001 : Code := bodyOf Tryz.f36
noncomputable def an36c37io0001 : Ann := (.s (.s .l (.s .l (.s .l (.s .l (.s (.s .l (.j [0, 1, 2, 3, 8, 9, 10, 42, 43, 44, 45, 46, 47, 48, 49, 50, 51, 52, 1000000000000] (.s (.s .l (.j [0, 1, 2, 3, 8, 9, 10, 42, 43, 44, 45, 46, 47, 48, 49, 50, 51, 52, 1000000000000] .l .l)) .l) .l)) (.s (.j [0, 1, 2, 3, 8, 9, 10, 42, 43, 44, 45, 46, 47, 48, 49, 50, 51, 52, 1000000000000] (.j [0, 1, 2, 3, 8, 9, 10, 42, 43, 44, 45, 46, 47, 48, 49, 50, 51, 52, 1000000000000] (.j [0, 1, 2, 3, 8, 9, 10, 42, 43, 44, 45, 46, 47, 48, 49, 50, 51, 52, 1000000000000] (.s .l (.s .l (.s (.s .l (.j [0, 1, 2, 3, 8, 9, 10, 11, 42, 43, 44, 45, 46, 47, 48, 49, 50, 51, 52, 1000000000000] .l .l)) (.s .l (.j [0, 1, 2, 3, 8, 9, 10, 42, 43, 44, 45, 46, 47, 48, 49, 50, 51, 52, 1000000000000] .l .l))))) .l) .l) .l) (.s .l (.s (.s .l (.s .l (.j [0, 1, 2, 3, 8, 9, 10, 42, 43, 44, 45, 46, 47, 48, 49, 50, 51, 52, 1000000000000] .l .l))) .l)))))))) (.g 0 [0, 1, 2, 3, 8, 9, 10, 42, 43, 44, 45, 46, 47, 48, 49, 50, 51, 52, 1000000000000] (.s .l (.s (.s .l (.s .l (.j [0, 1, 2, 3, 8, 9, 10, 42, 43, 44, 45, 46, 47, 48, 49, 50, 51, 52, 1000000000000] .l .l))) .l)) (.g 1 [0, 1, 2, 3, 8, 9, 10, 42, 43, 44, 45, 46, 47, 48, 49, 50, 51, 52, 1000000000000] (.s .l (.s (.s .l (.j [0, 1, 2, 3, 8, 9, 10, 42, 43, 44, 45, 46, 47, 48, 49, 50, 51, 52, 1000000000000] (.s (.s .l (.j [0, 1, 2, 3, 8, 9, 10, 42, 43, 44, 45, 46, 47, 48, 49, 50, 51, 52, 1000000000000] .l .l)) .l) .l)) (.s (.j [0, 1, 2, 3, 8, 9, 10, 42, 43, 44, 45, 46, 47, 48, 49, 50, 51, 52, 1000000000000] (.j [0, 1, 2, 3, 8, 9, 10, 42, 43, 44, 45, 46, 47, 48, 49, 50, 51, 52, 1000000000000] (.j [0, 1, 2, 3, 8, 9, 10, 42, 43, 44, 45, 46, 47, 48, 49, 50, 51, 52, 1000000000000] (.s .l (.s .l (.s (.s .l (.j [0, 1, 2, 3, 8, 9, 10, 11, 42, 43, 44, 45, 46, 47, 48, 49, 50, 51, 52, 1000000000000] .l .l)) (.s .l (.j [0, 1, 2, 3, 8, 9, 10, 42, 43, 44, 45, 46, 47, 48, 49, 50, 51, 52, 1000000000000] .l .l))))) .l) .l) .l) (.s .l (.s (.s .l (.s .l (.j [0, 1, 2, 3, 8, 9, 10, 42, 43, 44, 45, 46, 47, 48, 49, 50, 51, 52, 1000000000000] .l .l))) .l))))) .l)))
def pk36c37io0001 : List QK := [.pl (.c (.int .i64)), .pl (.c (.sl (.int .i64))), .pl (.c (.int .i64)), .of 37 [.bool]]
def rk36c37io0001 : List RK := []
noncomputable def rt36c37io0001 (st : St) : Option R36c37io0001 := rtIO rk36c37io0001 (pk36c37io0001.flatMap QK.ods) st
noncomputable def io36c37io0001 (n : Nat × Nat) : List IoE := [⟨37, (fun _ => true), pk37io11.map QK.flag, P37io11 n⟩]
noncomputable def E36c37io0001 (n : Nat × Nat) : Env := { T := tab, phi := (consPhi 44 (fun _ => true) (P44 n) noPhi), eff := fun _ => false, fuel := n.1, hold := n.2, phio := phioL (io36c37io0001 n), iop := iopL (io36c37io0001 n) }
noncomputable def PF36c37io0001_1 (n : Nat × Nat) : (Nat × St → Option R36c37io0001) → Nat × St → Option R36c37io0001 := passF (E36c37io0001 n) (cA c36c37io0001) (Ann.labels (Ann.snd an36c37io0001)) rt36c37io0001 (fun _ _ => none) rt36c37io0001
noncomputable def kq36c37io0001_6 (n : Nat × Nat) : St → Option R36c37io0001 := run (E36c37io0001 n) (cB (cB (cB (cB (cB (cB (cA c36c37io0001))))))) (Ann.snd (Ann.snd (Ann.snd (Ann.snd (Ann.snd (Ann.snd (Ann.fst an36c37io0001))))))) rt36c37io0001 (jumpTo (Ann.labels (Ann.snd an36c37io0001)) (loopN (PF36c37io0001_1 n) n.1) (fun _ _ => none)) rt36c37io0001
noncomputable def xb36c37io0001_8 (n : Nat × Nat) : Nat → St → Option R36c37io0001 := fun j s => bif Nat.beq j 0 then normC [0, 1, 2, 3, 8, 9, 10, 42, 43, 44, 45, 46, 47, 48, 49, 50, 51, 52, 1000000000000] s (kq36c37io0001_6 n) else (jumpTo (Ann.labels (Ann.snd an36c37io0001)) (loopN (PF36c37io0001_1 n) n.1) (fun _ _ => none)) j s
noncomputable def F36c37io0001_9 (n : Nat × Nat) : (St → Option R36c37io0001) → St → Option R36c37io0001 := fun K s => run (E36c37io0001 n) (cA (cA (cA (cB (cB (cB (cB (cB (cA c36c37io0001))))))))) (Ann.fst (Ann.fst (Ann.fst (Ann.snd (Ann.snd (Ann.snd (Ann.snd (Ann.snd (Ann.fst an36c37io0001))))))))) (fun s => normC [0, 1, 2, 3, 8, 9, 10, 42, 43, 44, 45, 46, 47, 48, 49, 50, 51, 52, 1000000000000] s K) (xb36c37io0001_8 n) rt36c37io0001 s
noncomputable def kq36c37io0001_21 (n : Nat × Nat) (m1 : Nat) : St → Option R36c37io0001 := run (E36c37io0001 n) (cB (cB (cB (labOf 1 (cA c36c37io0001))))) (Ann.snd (Ann.snd (Ann.snd (annOf (Ann.labels (Ann.snd an36c37io0001)) 1)))) rt36c37io0001 (jumpTo (Ann.labels (Ann.snd an36c37io0001)) (loopN (PF36c37io0001_1 n) m1) (fun _ _ => none)) rt36c37io0001
noncomputable def xb36c37io0001_23 (n : Nat × Nat) (m1 : Nat) : Nat → St → Option R36c37io0001 := fun j s => bif Nat.beq j 0 then normC [0, 1, 2, 3, 8, 9, 10, 42, 43, 44, 45, 46, 47, 48, 49, 50, 51, 52, 1000000000000] s (kq36c37io0001_21 n m1) else (jumpTo (Ann.labels (Ann.snd an36c37io0001)) (loopN (PF36c37io0001_1 n) m1) (fun _ _ => none)) j s
noncomputable def F36c37io0001_24 (n : Nat × Nat) (m1 : Nat) : (St → Option R36c37io0001) → St → Option R36c37io0001 := fun K s => run (E36c37io0001 n) (cA (cA (cA (cB (cB (labOf 1 (cA c36c37io0001))))))) (Ann.fst (Ann.fst (Ann.fst (Ann.snd (Ann.snd (annOf (Ann.labels (Ann.snd an36c37io0001)) 1)))))) (fun s => normC [0, 1, 2, 3, 8, 9, 10, 42, 43, 44, 45, 46, 47, 48, 49, 50, 51, 52, 1000000000000] s K) (xb36c37io0001_23 n m1) rt36c37io0001 s
noncomputable def L36c37io0001_1 (n : Nat × Nat) (m : Nat) (size0 : Int) (pieces1 : List Int) (most2 : Int) (i10 : Int) (v1000000000000 : Bool) (plan8 : List Int) (left9 : List Int) : Option R36c37io0001 := loopN (PF36c37io0001_1 n) m (0, { tm := [.c (.int .i64 size0), .c (.sl (.int .i64) pieces1 false), .c (.int .i64 most2), .fn 37 [.ptr 1000000000000 0], uu, uu, uu, uu, .own 8 none false, .own 9 none false, .c (.int .i64 i10), uu, uu, uu, uu, uu, uu, uu, uu, uu, uu, uu, uu, uu, uu, uu, uu, uu, uu, uu, uu, uu, uu, uu, uu, uu, uu, uu, uu, uu, uu, uu, uu, uu, uu, uu, uu, uu, uu, uu, uu, uu, uu, uu, uu, uu, uu, uu, uu, uu, uu, uu, uu, uu, uu, uu, uu, uu, uu, uu, uu, uu, uu, uu, uu, uu, uu, uu, uu, uu, uu, uu, uu, uu, uu, uu, uu, uu, uu, uu, uu, uu, uu, uu, uu], hp := (upd (upd (upd emp 9 (.arr (.int .i64) left9 false)) 8 (.arr (.int .i64) plan8 false)) 1000000000000 (.box [.bool v1000000000000])) })
noncomputable def L36c37io0001_2 (n : Nat × Nat) (m : Nat) (size0 : Int) (pieces1 : List Int) (most2 : Int) (i10 : Int) (v1000000000000 : Bool) (plan8 : List Int) (left9 : List Int) : Option R36c37io0001 := loopN (F36c37io0001_9 n) m { tm := [.c (.int .i64 size0), .c (.sl (.int .i64) pieces1 false), .c (.int .i64 most2), .fn 37 [.ptr 1000000000000 0], uu, uu, uu, uu, .own 8 none false, .own 9 none false, .c (.int .i64 i10), uu, uu, uu, uu, uu, uu, uu, uu, uu, uu, uu, uu, uu, uu, uu, uu, uu, uu, uu, uu, uu, uu, uu, uu, uu, uu, uu, uu, uu, uu, uu, uu, uu, uu, uu, uu, uu, uu, uu, uu, uu, uu, uu, uu, uu, uu, uu, uu, uu, uu, uu, uu, uu, uu, uu, uu, uu, uu, uu, uu, uu, uu, uu, uu, uu, uu, uu, uu, uu, uu, uu, uu, uu, uu, uu, uu, uu, uu, uu, uu, uu, uu, uu, uu], hp := (upd (upd (upd emp 9 (.arr (.int .i64) left9 false)) 8 (.arr (.int .i64) plan8 false)) 1000000000000 (.box [.bool v1000000000000])) }
noncomputable def L36c37io0001_3 (n : Nat × Nat) (m : Nat) (size0 : Int) (pieces1 : List Int) (most2 : Int) (i10 : Int) (v1000000000000 : Bool) (plan8 : List Int) (left9 : List Int) : Option R36c37io0001 := loopN (PF36c37io0001_1 n) m (1, { tm := [.c (.int .i64 size0), .c (.sl (.int .i64) pieces1 false), .c (.int .i64 most2), .fn 37 [.ptr 1000000000000 0], uu, uu, uu, uu, .own 8 none false, .own 9 none false, .c (.int .i64 i10), uu, uu, uu, uu, uu, uu, uu, uu, uu, uu, uu, uu, uu, uu, uu, uu, uu, uu, uu, uu, uu, uu, uu, uu, uu, uu, uu, uu, uu, uu, uu, uu, uu, uu, uu, uu, uu, uu, uu, uu, uu, uu, uu, uu, uu, uu, uu, uu, uu, uu, uu, uu, uu, uu, uu, uu, uu, uu, uu, uu, uu, uu, uu, uu, uu, uu, uu, uu, uu, uu, uu, uu, uu, uu, uu, uu, uu, uu, uu, uu, uu, uu, uu, uu], hp := (upd (upd (upd emp 9 (.arr (.int .i64) left9 false)) 8 (.arr (.int .i64) plan8 false)) 1000000000000 (.box [.bool v1000000000000])) })
noncomputable def L36c37io0001_4 (n : Nat × Nat) (m1 : Nat) (m : Nat) (size0 : Int) (pieces1 : List Int) (most2 : Int) (i10 : Int) (v1000000000000 : Bool) (plan8 : List Int) (left9 : List Int) : Option R36c37io0001 := loopN (F36c37io0001_24 n m1) m { tm := [.c (.int .i64 size0), .c (.sl (.int .i64) pieces1 false), .c (.int .i64 most2), .fn 37 [.ptr 1000000000000 0], uu, uu, uu, uu, .own 8 none false, .own 9 none false, .c (.int .i64 i10), uu, uu, uu, uu, uu, uu, uu, uu, uu, uu, uu, uu, uu, uu, uu, uu, uu, uu, uu, uu, uu, uu, uu, uu, uu, uu, uu, uu, uu, uu, uu, uu, uu, uu, uu, uu, uu, uu, uu, uu, uu, uu, uu, uu, uu, uu, uu, uu, uu, uu, uu, uu, uu, uu, uu, uu, uu, uu, uu, uu, uu, uu, uu, uu, uu, uu, uu, uu, uu, uu, uu, uu, uu, uu, uu, uu, uu, uu, uu, uu, uu, uu, uu, uu], hp := (upd (upd (upd emp 9 (.arr (.int .i64) left9 false)) 8 (.arr (.int .i64) plan8 false)) 1000000000000 (.box [.bool v1000000000000])) }
theorem L36c37io0001_1_eq (n : Nat × Nat) (m1 : Nat) (size0 : Int) (pieces1 : List Int) (most2 : Int) (i10 : Int) (v1000000000000 : Bool) (plan8 : List Int) (left9 : List Int) : L36c37io0001_1 n (m1 + 1) size0 pieces1 most2 i10 v1000000000000 plan8 left9 =
 (bif decide (wr .i64 (i10 - 1) < 0) then some ((), v1000000000000, ())
 else (bif inB (wr .i64 (i10 - 1)) plan8.length then (idx plan8 (wr .i64 (i10 - 1))).bind fun x4' =>
 (bif inB x4' left9.length then (idx left9 x4').bind fun x5' =>
 (idx pieces1 (wr .i64 (i10 - 1))).bind fun x6' =>
 (bif inB x4' left9.length then (idx left9 x4').bind fun x7' =>
            L36c37io0001_3 n m1 size0 pieces1 most2 (wr .i64 (i10 - 1)) v1000000000000 plan8 (left9.set (Int.toNat x4') (wr .i64 (x5' + x6')))
 else none)
 else none)
 else none)) := by kernel_rfl
theorem L36c37io0001_2_eq (n : Nat × Nat) (m1 : Nat) (size0 : Int) (pieces1 : List Int) (most2 : Int) (i10 : Int) (v1000000000000 : Bool) (plan8 : List Int) (left9 : List Int) : L36c37io0001_2 n (m1 + 1) size0 pieces1 most2 i10 v1000000000000 plan8 left9 =
 (bif inB i10 plan8.length then (idx plan8 i10).bind fun x8' =>
 (bif inB i10 plan8.length then (idx plan8 i10).bind fun x9' =>
 (bif inB i10 (plan8.set (Int.toNat i10) (wr .i64 (x8' + 1))).length then (idx (plan8.set (Int.toNat i10) (wr .i64 (x8' + 1))) i10).bind fun x10' =>
 ((bif (decide (x10' ≥ most2) == false) then ((bif (decide (x10' > 0) == true) then (bif inB (wr .i64 (x10' - 1)) left9.length then (idx left9 (wr .i64 (x10' - 1))).bind fun x11' =>
 some (x11' == size0)
 else none)
 else some false)).bind fun b12' =>
 some b12'
 else some true)).bind fun b13' =>
 (bif b13' then (bif inB i10 (plan8.set (Int.toNat i10) (wr .i64 (x8' + 1))).length then (idx (plan8.set (Int.toNat i10) (wr .i64 (x8' + 1))) i10).bind fun x14' =>
              L36c37io0001_1 n n.1 size0 pieces1 most2 i10 v1000000000000 ((plan8.set (Int.toNat i10) (wr .i64 (x8' + 1))).set (Int.toNat i10) (-1)) left9
 else none)
 else (bif inB x10' left9.length then (idx left9 x10').bind fun x15' =>
 (idx pieces1 i10).bind fun x16' =>
 (bif decide (x15' ≥ x16') then (bif inB x10' left9.length then (idx left9 x10').bind fun x17' =>
 (idx pieces1 i10).bind fun x18' =>
 (bif inB x10' left9.length then (idx left9 x10').bind fun x19' =>
                    L36c37io0001_3 n n.1 size0 pieces1 most2 (wr .i64 (i10 + 1)) v1000000000000 (plan8.set (Int.toNat i10) (wr .i64 (x8' + 1))) (left9.set (Int.toNat x10') (wr .i64 (x17' - x18')))
 else none)
 else none)
 else L36c37io0001_2 n m1 size0 pieces1 most2 i10 v1000000000000 (plan8.set (Int.toNat i10) (wr .i64 (x8' + 1))) left9)
 else none))
 else none)
 else none)
 else none) := by kernel_rfl
theorem L36c37io0001_3_eq (n : Nat × Nat) (m1 : Nat) (size0 : Int) (pieces1 : List Int) (most2 : Int) (i10 : Int) (v1000000000000 : Bool) (plan8 : List Int) (left9 : List Int) : L36c37io0001_3 n (m1 + 1) size0 pieces1 most2 i10 v1000000000000 plan8 left9 =
 (bif (i10 == (pieces1.length : Int)) then (S37io11 n plan8 v1000000000000).bind fun r20' =>
 (bif Nat.beq r20'.2.1.length plan8.length then (bif (!r20'.1) then some ((), r20'.2.2.1, ())
 else L36c37io0001_1 n m1 size0 pieces1 most2 i10 r20'.2.2.1 r20'.2.1 left9)
 else none)
 else L36c37io0001_4 n m1 n.1 size0 pieces1 most2 i10 v1000000000000 plan8 left9) := by kernel_rfl
theorem L36c37io0001_4_eq (n : Nat × Nat) (m1 m2 : Nat) (size0 : Int) (pieces1 : List Int) (most2 : Int) (i10 : Int) (v1000000000000 : Bool) (plan8 : List Int) (left9 : List Int) : L36c37io0001_4 n m1 (m2 + 1) size0 pieces1 most2 i10 v1000000000000 plan8 left9 =
 (bif inB i10 plan8.length then (idx plan8 i10).bind fun x21' =>
 (bif inB i10 plan8.length then (idx plan8 i10).bind fun x22' =>
 (bif inB i10 (plan8.set (Int.toNat i10) (wr .i64 (x21' + 1))).length then (idx (plan8.set (Int.toNat i10) (wr .i64 (x21' + 1))) i10).bind fun x23' =>
 ((bif (decide (x23' ≥ most2) == false) then ((bif (decide (x23' > 0) == true) then (bif inB (wr .i64 (x23' - 1)) left9.length then (idx left9 (wr .i64 (x23' - 1))).bind fun x24' =>
 some (x24' == size0)
 else none)
 else some false)).bind fun b25' =>
 some b25'
 else some true)).bind fun b26' =>
 (bif b26' then (bif inB i10 (plan8.set (Int.toNat i10) (wr .i64 (x21' + 1))).length then (idx (plan8.set (Int.toNat i10) (wr .i64 (x21' + 1))) i10).bind fun x27' =>
              L36c37io0001_1 n m1 size0 pieces1 most2 i10 v1000000000000 ((plan8.set (Int.toNat i10) (wr .i64 (x21' + 1))).set (Int.toNat i10) (-1)) left9
 else none)
 else (bif inB x23' left9.length then (idx left9 x23').bind fun x28' =>
 (idx pieces1 i10).bind fun x29' =>
 (bif decide (x28' ≥ x29') then (bif inB x23' left9.length then (idx left9 x23').bind fun x30' =>
 (idx pieces1 i10).bind fun x31' =>
 (bif inB x23' left9.length then (idx left9 x23').bind fun x32' =>
                    L36c37io0001_3 n m1 size0 pieces1 most2 (wr .i64 (i10 + 1)) v1000000000000 (plan8.set (Int.toNat i10) (wr .i64 (x21' + 1))) (left9.set (Int.toNat x23') (wr .i64 (x30' - x31')))
 else none)
 else none)
 else L36c37io0001_4 n m1 m2 size0 pieces1 most2 i10 v1000000000000 (plan8.set (Int.toNat i10) (wr .i64 (x21' + 1))) left9)
 else none))
 else none)
 else none)
 else none) := by kernel_rfl
noncomputable def S36c37io0001 (n : Nat × Nat) (size0 : Int) (pieces1 : List Int) (most2 : Int) (cp_3_0 : Bool) : Option R36c37io0001 := run1 (E36c37io0001 n) c36c37io0001 an36c37io0001 rt36c37io0001 (fun _ _ => none) rt36c37io0001 { tm := [.c (.int .i64 size0), .c (.sl (.int .i64) pieces1 false), .c (.int .i64 most2), .fn 37 [.ptr 1000000000000 0], uu, uu, uu, uu, uu, uu, uu, uu, uu, uu, uu, uu, uu, uu, uu, uu, uu, uu, uu, uu, uu, uu, uu, uu, uu, uu, uu, uu, uu, uu, uu, uu, uu, uu, uu, uu, uu, uu, uu, uu, uu, uu, uu, uu, uu, uu, uu, uu, uu, uu, uu, uu, uu, uu, uu, uu, uu, uu, uu, uu, uu, uu, uu, uu, uu, uu, uu, uu, uu, uu, uu, uu, uu, uu, uu, uu, uu, uu, uu, uu, uu, uu, uu, uu, uu, uu, uu, uu, uu, uu, uu], hp := (upd emp 1000000000000 (.box [.bool cp_3_0])) }
theorem S36c37io0001_eq (n : Nat × Nat) (size0 : Int) (pieces1 : List Int) (most2 : Int) (cp_3_0 : Bool) : S36c37io0001 n size0 pieces1 most2 cp_3_0 =
 (S44 n [-1] (pieces1.length : Int)).bind fun r1' =>
 (S44 n [size0] most2).bind fun r2' =>
 (bif (0 == (pieces1.length : Int)) then (S37io11 n r1' cp_3_0).bind fun r3' =>
 (bif Nat.beq r3'.2.1.length r1'.length then (bif (!r3'.1) then some ((), r3'.2.2.1, ())
 else L36c37io0001_1 n n.1 size0 pieces1 most2 0 r3'.2.2.1 r3'.2.1 r2')
 else none)
 else L36c37io0001_2 n n.1 size0 pieces1 most2 0 cp_3_0 r1' r2') := by kernel_rfl
theorem S36c37io0001_run (n : Nat × Nat) (xs : qksDen pk36c37io0001) : S36c37io0001 n xs.1 xs.2.1 xs.2.2.1 xs.2.2.2.1.1 = runG (E36c37io0001 n) (scope1 (E36c37io0001 n)) c36c37io0001 an36c37io0001 (rtIO rk36c37io0001 (pk36c37io0001.flatMap QK.ods)) (fun _ _ => none) (rtIO rk36c37io0001 (pk36c37io0001.flatMap QK.ods)) (st1 pk36c37io0001 xs Tryz.f36.ntmps) := by kernel_rfl
noncomputable def P36c37io0001 (n : Nat × Nat) := phioOf pk36c37io0001 rk36c37io0001 (pk36c37io0001.flatMap QK.ods) (fun xs => S36c37io0001 n xs.1 xs.2.1 xs.2.2.1 xs.2.2.2.1.1)
theorem call36 : CallOK Tryz.prog 36 := callOK_of Tryz.func36 (by kernel_rfl) (by kernel_rfl)
theorem env36c37io0001 (n : Nat × Nat) : EnvOK Tryz.prog (E36c37io0001 n) := envOK (l := io36c37io0001 n) (consPhi_ok (FC44 n) call44 noPhi_ok) rfl rfl (by kernel_rfl) ⟨FC37io11 n, call37, trivial⟩
theorem par36c37io0001 (n : Nat × Nat) : EnvPar (E36c37io0001 n) := envPar (l := io36c37io0001 n) (consPhi_par phiOf_Par1 noPhi_par) rfl ⟨phioOf_Pario1, trivial⟩
theorem FC36c37io0001 (n : Nat × Nat) : FCios Tryz.prog 36 (pk36c37io0001.map QK.flag) (P36c37io0001 n) := phioOf_FCios fun xs r h vs hv => FCio.of_runG tabOK eqsOK (env36c37io0001 n) (par36c37io0001 n) mixed (fun _ p _ => scope1_ok tabOK eqsOK (env36c37io0001 n) (par36c37io0001 n) mixed p.1 p.2) Tryz.func36 (c := c36c37io0001) (an := an36c37io0001) (qks := pk36c37io0001) (rks := rk36c37io0001) (by kernel_rfl) (by kernel_rfl) hv ((S36c37io0001_run n xs).symm.trans h)
abbrev R23 := Int
noncomputable def c23 : Code := bodyOf Tryz.f23
noncomputable def an23 : Ann := (.s .l (.s .l (.j [4] (.j [0, 1, 5, 16, 17, 18, 19] (.s (.j [0, 1, 5, 16, 17, 18, 19] (.s .l (.s .l (.s .l (.j [0, 1, 5, 16, 17, 18, 19] .l .l)))) .l) .l) .l) .l)))
def pk23 : List PK := [.c (.int .i64), .c (.sl (.int .i64))]
def rk23 : List RK := [.c (.int .i64) 4]
noncomputable def rt23 (st : St) : Option R23 := rtG rk23 st
noncomputable def io23 (n : Nat × Nat) : List IoE := [⟨36, (isFns [none, none, none, some 37]), pk36c37io0001.map QK.flag, P36c37io0001 n⟩]
noncomputable def E23 (n : Nat × Nat) : Env := { T := tab, phi := noPhi, eff := fun _ => false, fuel := n.1, hold := n.2, phio := phioL (io23 n), iop := iopL (io23 n) }
noncomputable def xb23_2 (n : Nat × Nat) : Nat → St → Option R23 := fun j s => bif Nat.beq j 0 then normC [4] s rt23 else (fun _ _ => none) j s
noncomputable def F23_3 (n : Nat × Nat) : (St → Option R23) → St → Option R23 := fun K s => run (E23 n) (cA (cA (cB (cB c23)))) (Ann.fst (Ann.fst (Ann.snd (Ann.snd an23)))) (fun s => normC [0, 1, 5, 16, 17, 18, 19] s K) (xb23_2 n) rt23 s
noncomputable def L23_1 (n : Nat × Nat) (m : Nat) (size0 : Int) (pieces1 : List Int) (most5 : Int) : Option R23 := loopN (F23_3 n) m { tm := [.c (.int .i64 size0), .c (.sl (.int .i64) pieces1 false), uu, uu, uu, .c (.int .i64 most5), uu, uu, uu, uu, uu, uu, uu, uu, uu, uu, uu, uu, uu, uu, uu, uu], hp := emp }
theorem L23_1_eq (n : Nat × Nat) (m1 : Nat) (size0 : Int) (pieces1 : List Int) (most5 : Int) : L23_1 n (m1 + 1) size0 pieces1 most5 =
 (S36c37io0001 n size0 pieces1 most5 false).bind fun r1' =>
 ((bif (r1'.2.1 == false) then some (most5 == (pieces1.length : Int))
 else some true)).bind fun b2' =>
 (bif b2' then some most5
 else L23_1 n m1 size0 pieces1 (wr .i64 (most5 + 1))) := by kernel_rfl
noncomputable def S23 (n : Nat × Nat) (size0 : Int) (pieces1 : List Int) : Option R23 := run (E23 n) c23 an23 rt23 (fun _ _ => none) rt23 { tm := [.c (.int .i64 size0), .c (.sl (.int .i64) pieces1 false), uu, uu, uu, uu, uu, uu, uu, uu, uu, uu, uu, uu, uu, uu, uu, uu, uu, uu, uu, uu], hp := emp }
theorem S23_eq (n : Nat × Nat) (size0 : Int) (pieces1 : List Int) : S23 n size0 pieces1 =
    L23_1 n n.1 size0 pieces1 0 := by kernel_rfl
theorem S23_run (n : Nat × Nat) (xs : pksDen pk23) : S23 n xs.1 xs.2.1 = runG (E23 n) noScope c23 an23 (rtG rk23) (fun _ _ => none) (rtG rk23) (st0 pk23 xs Tryz.f23.ntmps) := by kernel_rfl
noncomputable def P23 (n : Nat × Nat) := phiOf pk23 rk23 (fun xs => S23 n xs.1 xs.2.1)
theorem call23 : CallOK Tryz.prog 23 := callOK_of Tryz.func23 (by kernel_rfl) (by kernel_rfl)
theorem env23 (n : Nat × Nat) : EnvOK Tryz.prog (E23 n) := envOK (l := io23 n) noPhi_ok rfl rfl (by kernel_rfl) ⟨FC36c37io0001 n, call36, trivial⟩
theorem par23 (n : Nat × Nat) : EnvPar (E23 n) := envPar (l := io23 n) noPhi_par rfl ⟨phioOf_Pario1, trivial⟩
theorem FC23 (n : Nat × Nat) : FCs Tryz.prog 23 (P23 n) := phiOf_FCs fun xs r h vs hv => FC.of_runG tabOK eqsOK (env23 n) (par23 n) mixed (fun _ p _ => noScope_ok p.1 p.2) Tryz.func23 (c := c23) (an := an23) (pks := pk23) (rks := rk23) (by kernel_rfl) (by kernel_rfl) hv ((S23_run n xs).symm.trans h)
abbrev R8 := Int × Int
noncomputable def c8 : Code := bodyOf Tryz.f8
noncomputable def an8 : Ann := (.s .l (.s (.s .l (.s .l (.j [0, 1] .l .l))) .l))
def pk8 : List PK := [.c (.int .i64), .c (.sl (.int .i64))]
def rk8 : List RK := [.c (.int .i64) 4, .c (.int .i64) 5]
noncomputable def rt8 (st : St) : Option R8 := rtG rk8 st
noncomputable def E8 (n : Nat × Nat) : Env := { T := tab, phi := (consPhi 22 (fun _ => true) (P22 n) (consPhi 23 (fun _ => true) (P23 n) noPhi)), eff := fun _ => false, fuel := n.1, hold := n.2 }
noncomputable def S8 (n : Nat × Nat) (size0 : Int) (pieces1 : List Int) : Option R8 := run (E8 n) c8 an8 rt8 (fun _ _ => none) rt8 { tm := [.c (.int .i64 size0), .c (.sl (.int .i64) pieces1 false), uu, uu, uu, uu, uu, uu, uu, uu, uu, uu, uu, uu, uu, uu], hp := emp }
theorem S8_eq (n : Nat × Nat) (size0 : Int) (pieces1 : List Int) : S8 n size0 pieces1 =
 (S22 n size0 pieces1).bind fun r1' =>
 (bif (r1' != 0) then some (0, r1')
 else (S23 n size0 pieces1).bind fun r2' =>
 some (r2', 0)) := by kernel_rfl
theorem S8_run (n : Nat × Nat) (xs : pksDen pk8) : S8 n xs.1 xs.2.1 = runG (E8 n) noScope c8 an8 (rtG rk8) (fun _ _ => none) (rtG rk8) (st0 pk8 xs Tryz.f8.ntmps) := by kernel_rfl
noncomputable def P8 (n : Nat × Nat) := phiOf pk8 rk8 (fun xs => S8 n xs.1 xs.2.1)
theorem call8 : CallOK Tryz.prog 8 := callOK_of Tryz.func8 (by kernel_rfl) (by kernel_rfl)
theorem env8 (n : Nat × Nat) : EnvOK Tryz.prog (E8 n) := envOK0 (consPhi_ok (FC22 n) call22 (consPhi_ok (FC23 n) call23 noPhi_ok)) rfl rfl
theorem par8 (n : Nat × Nat) : EnvPar (E8 n) := envPar0 (consPhi_par phiOf_Par1 (consPhi_par phiOf_Par1 noPhi_par)) rfl
theorem FC8 (n : Nat × Nat) : FCs Tryz.prog 8 (P8 n) := phiOf_FCs fun xs r h vs hv => FC.of_runG tabOK eqsOK (env8 n) (par8 n) mixed (fun _ p _ => noScope_ok p.1 p.2) Tryz.func8 (c := c8) (an := an8) (pks := pk8) (rks := rk8) (by kernel_rfl) (by kernel_rfl) hv ((S8_run n xs).symm.trans h)
abbrev R39 := Int
noncomputable def c39 : Code := bodyOf Tryz.f39
noncomputable def an39 : Ann := .l
def pk39 : List PK := [.c (.int .i64), .c (.int .i64), .p (.sl (.int .i64))]
def rk39 : List RK := [.c (.int .i64) 5]
noncomputable def rt39 (st : St) : Option R39 := rtG rk39 st
noncomputable def E39 (n : Nat × Nat) : Env := { T := tab, phi := noPhi, eff := fun _ => false, fuel := n.1, hold := n.2 }
noncomputable def S39 (n : Nat × Nat) (i0 : Int) (j1 : Int) (v2 : List Int) : Option R39 := run (E39 n) c39 an39 rt39 (fun _ _ => none) rt39 { tm := [.c (.int .i64 i0), .c (.int .i64 j1), .iptr [.sl (.int .i64) v2 false], uu, uu, uu, uu, uu, uu, uu, uu, uu, uu, uu, uu], hp := emp }
theorem S39_eq (n : Nat × Nat) (i0 : Int) (j1 : Int) (v2 : List Int) : S39 n i0 j1 v2 =
 (idx v2 j1).bind fun x1' =>
 (idx v2 i0).bind fun x2' =>
 some (wr .i64 (x1' - x2')) := by kernel_rfl
theorem S39_run (n : Nat × Nat) (xs : pksDen pk39) : S39 n xs.1 xs.2.1 xs.2.2.1 = runG (E39 n) noScope c39 an39 (rtG rk39) (fun _ _ => none) (rtG rk39) (st0 pk39 xs Tryz.f39.ntmps) := by kernel_rfl
noncomputable def P39 (n : Nat × Nat) := phiOf pk39 rk39 (fun xs => S39 n xs.1 xs.2.1 xs.2.2.1)
theorem call39 : CallOK Tryz.prog 39 := callOK_of Tryz.func39 (by kernel_rfl) (by kernel_rfl)
theorem env39 (n : Nat × Nat) : EnvOK Tryz.prog (E39 n) := envOK0 noPhi_ok rfl rfl
theorem par39 (n : Nat × Nat) : EnvPar (E39 n) := envPar0 noPhi_par rfl
theorem FC39 (n : Nat × Nat) : FCs Tryz.prog 39 (P39 n) := phiOf_FCs fun xs r h vs hv => FC.of_runG tabOK eqsOK (env39 n) (par39 n) mixed (fun _ p _ => noScope_ok p.1 p.2) Tryz.func39 (c := c39) (an := an39) (pks := pk39) (rks := rk39) (by kernel_rfl) (by kernel_rfl) hv ((S39_run n xs).symm.trans h)
/- slices.insertionSortCmpFunc[int] -/
abbrev R52c39io1001 := (Unit) × (List Int) × (List Int) × Unit
noncomputable def c52c39io1001 : Code := bodyOf Tryz.f52
noncomputable def an52c39io1001 : Ann := (.s .l (.j [1000000000000, 1000000000001] (.j [0, 1, 2, 3, 8, 22, 23, 24, 25, 26, 27, 28, 29, 30, 31, 32, 33, 1000000000000, 1000000000001] (.s (.s .l (.j [0, 1, 2, 3, 8, 22, 23, 24, 25, 26, 27, 28, 29, 30, 31, 32, 33, 1000000000000, 1000000000001] .l .l)) (.s (.j [0, 1, 2, 3, 8, 22, 23, 24, 25, 26, 27, 28, 29, 30, 31, 32, 33, 1000000000000, 1000000000001] (.s .l (.j [0, 1, 2, 3, 8, 22, 23, 24, 25, 26, 27, 28, 29, 30, 31, 32, 33, 1000000000000, 1000000000001] (.j [0, 1, 2, 3, 8, 9, 22, 23, 24, 25, 26, 27, 28, 29, 30, 31, 32, 33, 1000000000000, 1000000000001] (.s (.s .l (.j [0, 1, 2, 3, 8, 9, 22, 23, 24, 25, 26, 27, 28, 29, 30, 31, 32, 33, 1000000000000, 1000000000001] .l .l)) (.s (.j [0, 1, 2, 3, 8, 9, 22, 23, 24, 25, 26, 27, 28, 29, 30, 31, 32, 33, 1000000000000, 1000000000001] .l .l) .l)) .l) .l)) .l) .l)) .l) .l))
def pk52c39io1001 : List QK := [.oa (.int .i64), .pl (.c (.int .i64)), .pl (.c (.int .i64)), .of 39 [(.sl (.int .i64))]]
def rk52c39io1001 : List RK := []
noncomputable def rt52c39io1001 (st : St) : Option R52c39io1001 := rtIO rk52c39io1001 (pk52c39io1001.flatMap QK.ods) st
noncomputable def E52c39io1001 (n : Nat × Nat) : Env := { T := tab, phi := (consPhi 39 (fun _ => true) (P39 n) noPhi), eff := fun _ => false, fuel := n.1, hold := n.2, pcl := [22] }
noncomputable def xb52c39io1001_2 (n : Nat × Nat) : Nat → St → Option R52c39io1001 := fun j s => bif Nat.beq j 0 then normC [1000000000000, 1000000000001] s rt52c39io1001 else (fun _ _ => none) j s
noncomputable def F52c39io1001_3 (n : Nat × Nat) : (St → Option R52c39io1001) → St → Option R52c39io1001 := fun K s => run (E52c39io1001 n) (cA (cA (cB c52c39io1001))) (Ann.fst (Ann.fst (Ann.snd an52c39io1001))) (fun s => normC [0, 1, 2, 3, 8, 22, 23, 24, 25, 26, 27, 28, 29, 30, 31, 32, 33, 1000000000000, 1000000000001] s K) (xb52c39io1001_2 n) rt52c39io1001 s
noncomputable def kq52c39io1001_6 (n : Nat × Nat) (m1 : Nat) : St → Option R52c39io1001 := run (E52c39io1001 n) (cB (cB (cA (cA (cB c52c39io1001))))) (Ann.snd (Ann.snd (Ann.fst (Ann.fst (Ann.snd an52c39io1001))))) (fun s => normC [0, 1, 2, 3, 8, 22, 23, 24, 25, 26, 27, 28, 29, 30, 31, 32, 33, 1000000000000, 1000000000001] s (loopN (F52c39io1001_3 n) m1)) (xb52c39io1001_2 n) rt52c39io1001
noncomputable def kc52c39io1001_7 (n : Nat × Nat) (m1 : Nat) : St → Option R52c39io1001 := fun s => normC [0, 1, 2, 3, 8, 22, 23, 24, 25, 26, 27, 28, 29, 30, 31, 32, 33, 1000000000000, 1000000000001] s (kq52c39io1001_6 n m1)
noncomputable def xb52c39io1001_8 (n : Nat × Nat) (m1 : Nat) : Nat → St → Option R52c39io1001 := fun j s => bif Nat.beq j 1 then normC [0, 1, 2, 3, 8, 22, 23, 24, 25, 26, 27, 28, 29, 30, 31, 32, 33, 1000000000000, 1000000000001] s (kq52c39io1001_6 n m1) else (xb52c39io1001_2 n) j s
noncomputable def xb52c39io1001_10 (n : Nat × Nat) (m1 : Nat) : Nat → St → Option R52c39io1001 := fun j s => bif Nat.beq j 2 then normC [0, 1, 2, 3, 8, 22, 23, 24, 25, 26, 27, 28, 29, 30, 31, 32, 33, 1000000000000, 1000000000001] s (kc52c39io1001_7 n m1) else (xb52c39io1001_8 n m1) j s
noncomputable def F52c39io1001_11 (n : Nat × Nat) (m1 : Nat) : (St → Option R52c39io1001) → St → Option R52c39io1001 := fun K s => run (E52c39io1001 n) (cA (cA (cB (cA (cA (cB (cA (cA (cB c52c39io1001))))))))) (Ann.fst (Ann.fst (Ann.snd (Ann.fst (Ann.fst (Ann.snd (Ann.fst (Ann.fst (Ann.snd an52c39io1001))))))))) (fun s => normC [0, 1, 2, 3, 8, 9, 22, 23, 24, 25, 26, 27, 28, 29, 30, 31, 32, 33, 1000000000000, 1000000000001] s K) (xb52c39io1001_10 n m1) rt52c39io1001 s
noncomputable def L52c39io1001_1 (n : Nat × Nat) (m : Nat) (a1 : Int) (b2 : Int) (i8 : Int) (v1000000000000 : List Int) (v1000000000001 : List Int) : Option R52c39io1001 := loopN (F52c39io1001_3 n) m { tm := [.own 1000000000000 none false, .c (.int .i64 a1), .c (.int .i64 b2), .fn 39 [.ptr 1000000000001 0], uu, uu, uu, uu, .c (.int .i64 i8), uu, uu, uu, uu, uu, uu, uu, uu, uu, uu, uu, uu, uu, uu, uu, uu, uu, uu, uu, uu, uu, uu, uu, uu, uu, uu, uu, uu, uu, uu, uu, uu, uu, uu, uu, uu, uu, uu, uu, uu, uu, uu, uu, uu], hp := (upd (upd emp 1000000000001 (.box [.sl (.int .i64) v1000000000001 false])) 1000000000000 (.arr (.int .i64) v1000000000000 false)) }
noncomputable def L52c39io1001_2 (n : Nat × Nat) (m1 : Nat) (m : Nat) (a1 : Int) (b2 : Int) (i8 : Int) (j9 : Int) (v1000000000000 : List Int) (v1000000000001 : List Int) : Option R52c39io1001 := loopN (F52c39io1001_11 n m1) m { tm := [.own 1000000000000 none false, .c (.int .i64 a1), .c (.int .i64 b2), .fn 39 [.ptr 1000000000001 0], uu, uu, uu, uu, .c (.int .i64 i8), .c (.int .i64 j9), uu, uu, uu, uu, uu, uu, uu, uu, uu, uu, uu, uu, uu, uu, uu, uu, uu, uu, uu, uu, uu, uu, uu, uu, uu, uu, uu, uu, uu, uu, uu, uu, uu, uu, uu, uu, uu, uu, uu, uu, uu, uu, uu], hp := (upd (upd emp 1000000000001 (.box [.sl (.int .i64) v1000000000001 false])) 1000000000000 (.arr (.int .i64) v1000000000000 false)) }
theorem L52c39io1001_1_eq (n : Nat × Nat) (m1 : Nat) (a1 : Int) (b2 : Int) (i8 : Int) (v1000000000000 : List Int) (v1000000000001 : List Int) : L52c39io1001_1 n (m1 + 1) a1 b2 i8 v1000000000000 v1000000000001 =
 (bif decide (i8 < b2) then L52c39io1001_2 n m1 n.1 a1 b2 i8 i8 v1000000000000 v1000000000001
 else some ((), v1000000000000, v1000000000001, ())) := by kernel_rfl
theorem L52c39io1001_2_eq (n : Nat × Nat) (m1 m2 : Nat) (a1 : Int) (b2 : Int) (i8 : Int) (j9 : Int) (v1000000000000 : List Int) (v1000000000001 : List Int) : L52c39io1001_2 n m1 (m2 + 1) a1 b2 i8 j9 v1000000000000 v1000000000001 =
 ((bif (decide (j9 > a1) == true) then (bif inB j9 v1000000000000.length then (idx v1000000000000 j9).bind fun x1' =>
 (bif inB (wr .i64 (j9 - 1)) v1000000000000.length then (idx v1000000000000 (wr .i64 (j9 - 1))).bind fun x2' =>
 (S39 n x1' x2' v1000000000001).bind fun r3' =>
 some (decide (r3' < 0))
 else none)
 else none)
 else some false)).bind fun b4' =>
 (bif b4' then (bif inB (wr .i64 (j9 - 1)) v1000000000000.length then (idx v1000000000000 (wr .i64 (j9 - 1))).bind fun x5' =>
 (bif inB j9 v1000000000000.length then (idx v1000000000000 j9).bind fun x6' =>
 (bif inB j9 v1000000000000.length then (idx v1000000000000 j9).bind fun x7' =>
 (bif inB (wr .i64 (j9 - 1)) (v1000000000000.set (Int.toNat j9) x5').length then (idx (v1000000000000.set (Int.toNat j9) x5') (wr .i64 (j9 - 1))).bind fun x8' =>
              L52c39io1001_2 n m1 m2 a1 b2 i8 (wr .i64 (j9 - 1)) ((v1000000000000.set (Int.toNat j9) x5').set (Int.toNat (wr .i64 (j9 - 1))) x6') v1000000000001
 else none)
 else none)
 else none)
 else none)
 else L52c39io1001_1 n m1 a1 b2 (wr .i64 (i8 + 1)) v1000000000000 v1000000000001) := by kernel_rfl
noncomputable def S52c39io1001 (n : Nat × Nat) (data0 : List Int) (a1 : Int) (b2 : Int) (cp_3_0 : List Int) : Option R52c39io1001 := run (E52c39io1001 n) c52c39io1001 an52c39io1001 rt52c39io1001 (fun _ _ => none) rt52c39io1001 { tm := [.own 1000000000000 none false, .c (.int .i64 a1), .c (.int .i64 b2), .fn 39 [.ptr 1000000000001 0], uu, uu, uu, uu, uu, uu, uu, uu, uu, uu, uu, uu, uu, uu, uu, uu, uu, uu, uu, uu, uu, uu, uu, uu, uu, uu, uu, uu, uu, uu, uu, uu, uu, uu, uu, uu, uu, uu, uu, uu, uu, uu, uu, uu, uu, uu, uu, uu, uu], hp := (upd (upd emp 1000000000001 (.box [.sl (.int .i64) cp_3_0 false])) 1000000000000 (.arr (.int .i64) data0 false)) }
theorem S52c39io1001_eq (n : Nat × Nat) (data0 : List Int) (a1 : Int) (b2 : Int) (cp_3_0 : List Int) : S52c39io1001 n data0 a1 b2 cp_3_0 =
    L52c39io1001_1 n n.1 a1 b2 (wr .i64 (a1 + 1)) data0 cp_3_0 := by kernel_rfl
theorem S52c39io1001_run (n : Nat × Nat) (xs : qksDen pk52c39io1001) : S52c39io1001 n xs.1 xs.2.1 xs.2.2.1 xs.2.2.2.1.1 = runG (E52c39io1001 n) noScope c52c39io1001 an52c39io1001 (rtIO rk52c39io1001 (pk52c39io1001.flatMap QK.ods)) (fun _ _ => none) (rtIO rk52c39io1001 (pk52c39io1001.flatMap QK.ods)) (st1 pk52c39io1001 xs Tryz.f52.ntmps) := by kernel_rfl
noncomputable def P52c39io1001 (n : Nat × Nat) := phioOf pk52c39io1001 rk52c39io1001 (pk52c39io1001.flatMap QK.ods) (fun xs => S52c39io1001 n xs.1 xs.2.1 xs.2.2.1 xs.2.2.2.1.1)
theorem call52 : CallOK Tryz.prog 52 := callOK_of Tryz.func52 (by kernel_rfl) (by kernel_rfl)
theorem env52c39io1001 (n : Nat × Nat) : EnvOK Tryz.prog (E52c39io1001 n) := envOK0 (consPhi_ok (FC39 n) call39 noPhi_ok) rfl rfl
theorem par52c39io1001 (n : Nat × Nat) : EnvPar (E52c39io1001 n) := envPar0 (consPhi_par phiOf_Par1 noPhi_par) rfl
theorem FC52c39io1001 (n : Nat × Nat) : FCios Tryz.prog 52 (pk52c39io1001.map QK.flag) (P52c39io1001 n) := phioOf_FCios fun xs r h vs hv => FCio.of_runG tabOK eqsOK (env52c39io1001 n) (par52c39io1001 n) mixed (fun _ p _ => noScope_ok p.1 p.2) Tryz.func52 (c := c52c39io1001) (an := an52c39io1001) (qks := pk52c39io1001) (rks := rk52c39io1001) (by kernel_rfl) (by kernel_rfl) hv ((S52c39io1001_run n xs).symm.trans h)
abbrev R53c39io10001 := (Unit) × (List Int) × (List Int) × Unit
def pk53c39io10001 : List QK := [.oa (.int .i64), .pl (.c (.int .i64)), .pl (.c (.int .i64)), .pl (.c (.int .i64)), .of 39 [(.sl (.int .i64))]]
def rk53c39io10001 : List RK := []
noncomputable def T53c39io10001 (d : Nat) : Option R53c39io10001 := Nat.rec none (fun _ _ => none) d
noncomputable def S53c39io10001 (n : Nat × Nat) (data0 : List Int) (a1 : Int) (m2 : Int) (b3 : Int) (cp_4_0 : List Int) : Option R53c39io10001 := T53c39io10001 n.1
theorem S53c39io10001_none (n : Nat × Nat) (data0 : List Int) (a1 : Int) (m2 : Int) (b3 : Int) (cp_4_0 : List Int) : S53c39io10001 n data0 a1 m2 b3 cp_4_0 = none := by unfold S53c39io10001 T53c39io10001; cases n.1 <;> rfl
noncomputable def P53c39io10001 (n : Nat × Nat) := phioOf pk53c39io10001 rk53c39io10001 (pk53c39io10001.flatMap QK.ods) (fun xs => S53c39io10001 n xs.1 xs.2.1 xs.2.2.1 xs.2.2.2.1 xs.2.2.2.2.1.1)
theorem call53 : CallOK Tryz.prog 53 := callOK_of Tryz.func53 (by kernel_rfl) (by kernel_rfl)
theorem FC53c39io10001 (n : Nat × Nat) : FCios Tryz.prog 53 (pk53c39io10001.map QK.flag) (P53c39io10001 n) := phioOf_FCios fun xs r h => absurd ((S53c39io10001_none n _ _ _ _ _).symm.trans h).symm (Option.some_ne_none _)
/- slices.stableCmpFunc[int] -/
abbrev R45c39io101 := (Unit) × (List Int) × (List Int) × Unit
noncomputable def c45c39io101 : Code := bodyOf Tryz.f45
noncomputable def an45c39io101 : Ann := (.s .l (.s .l (.s (.j [0, 1, 2, 6, 7, 1000000000000, 1000000000001] (.j [0, 1, 2, 6, 7, 8, 1000000000000, 1000000000001] (.s (.s .l (.j [0, 1, 2, 6, 7, 8, 1000000000000, 1000000000001] .l .l)) (.j [0, 1, 2, 6, 7, 8, 1000000000000, 1000000000001] .l .l)) .l) .l) (.s .l (.j [1000000000000, 1000000000001] (.j [0, 1, 2, 6, 1000000000000, 1000000000001] (.s (.s .l (.j [0, 1, 2, 6, 1000000000000, 1000000000001] .l .l)) (.j [0, 1, 2, 6, 1000000000000, 1000000000001] (.s .l (.s (.j [0, 1, 2, 6, 7, 1000000000000, 1000000000001] (.j [0, 1, 2, 6, 7, 8, 1000000000000, 1000000000001] (.s (.s .l (.j [0, 1, 2, 6, 7, 8, 1000000000000, 1000000000001] .l .l)) (.j [0, 1, 2, 6, 7, 8, 1000000000000, 1000000000001] .l .l)) .l) .l) (.s (.s .l (.s .l (.j [0, 1, 2, 6, 1000000000000, 1000000000001] .l .l))) .l))) .l)) .l) .l)))))
def pk45c39io101 : List QK := [.oa (.int .i64), .pl (.c (.int .i64)), .of 39 [(.sl (.int .i64))]]
def rk45c39io101 : List RK := []
noncomputable def rt45c39io101 (st : St) : Option R45c39io101 := rtIO rk45c39io101 (pk45c39io101.flatMap QK.ods) st
noncomputable def io45c39io101 (n : Nat × Nat) : List IoE := [⟨52, (isFns [none, none, none, some 39]), pk52c39io1001.map QK.flag, P52c39io1001 n⟩, ⟨53, (isFns [none, none, none, none, some 39]), pk53c39io10001.map QK.flag, P53c39io10001 n⟩]
noncomputable def E45c39io101 (n : Nat × Nat) : Env := { T := tab, phi := noPhi, eff := fun _ => false, fuel := n.1, hold := n.2, phio := phioL (io45c39io101 n), iop := iopL (io45c39io101 n) }
noncomputable def kq45c39io101_1 (n : Nat × Nat) : St → Option R45c39io101 := run (E45c39io101 n) (cB (cB (cB c45c39io101))) (Ann.snd (Ann.snd (Ann.snd an45c39io101))) rt45c39io101 (fun _ _ => none) rt45c39io101
noncomputable def xb45c39io101_3 (n : Nat × Nat) : Nat → St → Option R45c39io101 := fun j s => bif Nat.beq j 0 then normC [0, 1, 2, 6, 7, 1000000000000, 1000000000001] s (kq45c39io101_1 n) else (fun _ _ => none) j s
noncomputable def F45c39io101_4 (n : Nat × Nat) : (St → Option R45c39io101) → St → Option R45c39io101 := fun K s => run (E45c39io101 n) (cA (cA (cA (cB (cB c45c39io101))))) (Ann.fst (Ann.fst (Ann.fst (Ann.snd (Ann.snd an45c39io101))))) (fun s => normC [0, 1, 2, 6, 7, 8, 1000000000000, 1000000000001] s K) (xb45c39io101_3 n) rt45c39io101 s
noncomputable def xb45c39io101_10 (n : Nat × Nat) : Nat → St → Option R45c39io101 := fun j s => bif Nat.beq j 2 then normC [1000000000000, 1000000000001] s rt45c39io101 else (fun _ _ => none) j s
noncomputable def F45c39io101_11 (n : Nat × Nat) : (St → Option R45c39io101) → St → Option R45c39io101 := fun K s => run (E45c39io101 n) (cA (cA (cB (cB (cB (cB c45c39io101)))))) (Ann.fst (Ann.fst (Ann.snd (Ann.snd (Ann.snd (Ann.snd an45c39io101)))))) (fun s => normC [0, 1, 2, 6, 1000000000000, 1000000000001] s K) (xb45c39io101_10 n) rt45c39io101 s
noncomputable def kc45c39io101_14 (n : Nat × Nat) (m1 : Nat) : St → Option R45c39io101 := fun s => normC [0, 1, 2, 6, 1000000000000, 1000000000001] s (fun s => normC [0, 1, 2, 6, 1000000000000, 1000000000001] s (loopN (F45c39io101_11 n) m1))
noncomputable def xb45c39io101_15 (n : Nat × Nat) (m1 : Nat) : Nat → St → Option R45c39io101 := fun j s => bif Nat.beq j 3 then normC [0, 1, 2, 6, 1000000000000, 1000000000001] s (fun s => normC [0, 1, 2, 6, 1000000000000, 1000000000001] s (loopN (F45c39io101_11 n) m1)) else (xb45c39io101_10 n) j s
noncomputable def kq45c39io101_16 (n : Nat × Nat) (m1 : Nat) : St → Option R45c39io101 := run (E45c39io101 n) (cB (cB (cA (cB (cA (cA (cB (cB (cB (cB c45c39io101)))))))))) (Ann.snd (Ann.snd (Ann.fst (Ann.snd (Ann.fst (Ann.fst (Ann.snd (Ann.snd (Ann.snd (Ann.snd an45c39io101)))))))))) (kc45c39io101_14 n m1) (xb45c39io101_15 n m1) rt45c39io101
noncomputable def xb45c39io101_18 (n : Nat × Nat) (m1 : Nat) : Nat → St → Option R45c39io101 := fun j s => bif Nat.beq j 4 then normC [0, 1, 2, 6, 7, 1000000000000, 1000000000001] s (kq45c39io101_16 n m1) else (xb45c39io101_15 n m1) j s
noncomputable def F45c39io101_19 (n : Nat × Nat) (m1 : Nat) : (St → Option R45c39io101) → St → Option R45c39io101 := fun K s => run (E45c39io101 n) (cA (cA (cA (cB (cA (cB (cA (cA (cB (cB (cB (cB c45c39io101)))))))))))) (Ann.fst (Ann.fst (Ann.fst (Ann.snd (Ann.fst (Ann.snd (Ann.fst (Ann.fst (Ann.snd (Ann.snd (Ann.snd (Ann.snd an45c39io101)))))))))))) (fun s => normC [0, 1, 2, 6, 7, 8, 1000000000000, 1000000000001] s K) (xb45c39io101_18 n m1) rt45c39io101 s
noncomputable def L45c39io101_1 (n : Nat × Nat) (m : Nat) (v1 : Int) (blockSize6 : Int) (a7 : Int) (b8 : Int) (v1000000000000 : List Int) (v1000000000001 : List Int) : Option R45c39io101 := loopN (F45c39io101_4 n) m { tm := [.own 1000000000000 none false, .c (.int .i64 v1), .fn 39 [.ptr 1000000000001 0], uu, uu, uu, .c (.int .i64 blockSize6), .c (.int .i64 a7), .c (.int .i64 b8), uu, uu, uu, uu, uu, uu, uu, uu, uu, uu, uu, uu, uu, uu, uu, uu, uu, uu, uu, uu, uu, uu, uu, uu, uu, uu, uu, uu, uu, uu, uu, uu, uu, uu, uu, uu, uu, uu, uu, uu, uu, uu, uu, uu, uu, uu, uu, uu, uu, uu, uu, uu, uu, uu], hp := (upd (upd emp 1000000000001 (.box [.sl (.int .i64) v1000000000001 false])) 1000000000000 (.arr (.int .i64) v1000000000000 false)) }
noncomputable def L45c39io101_2 (n : Nat × Nat) (m : Nat) (v1 : Int) (blockSize6 : Int) (v1000000000000 : List Int) (v1000000000001 : List Int) : Option R45c39io101 := loopN (F45c39io101_11 n) m { tm := [.own 1000000000000 none false, .c (.int .i64 v1), .fn 39 [.ptr 1000000000001 0], uu, uu, uu, .c (.int .i64 blockSize6), uu, uu, uu, uu, uu, uu, uu, uu, uu, uu, uu, uu, uu, uu, uu, uu, uu, uu, uu, uu, uu, uu, uu, uu, uu, uu, uu, uu, uu, uu, uu, uu, uu, uu, uu, uu, uu, uu, uu, uu, uu, uu, uu, uu, uu, uu, uu, uu, uu, uu, uu, uu, uu, uu, uu, uu], hp := (upd (upd emp 1000000000001 (.box [.sl (.int .i64) v1000000000001 false])) 1000000000000 (.arr (.int .i64) v1000000000000 false)) }
noncomputable def L45c39io101_3 (n : Nat × Nat) (m1 : Nat) (m : Nat) (v1 : Int) (blockSize6 : Int) (a7 : Int) (b8 : Int) (v1000000000000 : List Int) (v1000000000001 : List Int) : Option R45c39io101 := loopN (F45c39io101_19 n m1) m { tm := [.own 1000000000000 none false, .c (.int .i64 v1), .fn 39 [.ptr 1000000000001 0], uu, uu, uu, .c (.int .i64 blockSize6), .c (.int .i64 a7), .c (.int .i64 b8), uu, uu, uu, uu, uu, uu, uu, uu, uu, uu, uu, uu, uu, uu, uu, uu, uu, uu, uu, uu, uu, uu, uu, uu, uu, uu, uu, uu, uu, uu, uu, uu, uu, uu, uu, uu, uu, uu, uu, uu, uu, uu, uu, uu, uu, uu, uu, uu, uu, uu, uu, uu, uu, uu], hp := (upd (upd emp 1000000000001 (.box [.sl (.int .i64) v1000000000001 false])) 1000000000000 (.arr (.int .i64) v1000000000000 false)) }
theorem L45c39io101_1_eq (n : Nat × Nat) (m1 : Nat) (v1 : Int) (blockSize6 : Int) (a7 : Int) (b8 : Int) (v1000000000000 : List Int) (v1000000000001 : List Int) : L45c39io101_1 n (m1 + 1) v1 blockSize6 a7 b8 v1000000000000 v1000000000001 =
 (bif decide (b8 ≤ v1) then (S52c39io1001 n v1000000000000 a7 b8 v1000000000001).bind fun r1' =>
 (bif Nat.beq r1'.2.1.length v1000000000000.length then L45c39io101_1 n m1 v1 blockSize6 b8 (wr .i64 (b8 + blockSize6)) r1'.2.1 r1'.2.2.1
 else none)
 else (S52c39io1001 n v1000000000000 a7 v1 v1000000000001).bind fun r2' =>
 (bif Nat.beq r2'.2.1.length v1000000000000.length then L45c39io101_2 n n.1 v1 blockSize6 r2'.2.1 r2'.2.2.1
 else none)) := by kernel_rfl
theorem L45c39io101_2_eq (n : Nat × Nat) (m1 : Nat) (v1 : Int) (blockSize6 : Int) (v1000000000000 : List Int) (v1000000000001 : List Int) : L45c39io101_2 n (m1 + 1) v1 blockSize6 v1000000000000 v1000000000001 =
 (bif decide (blockSize6 < v1) then L45c39io101_3 n m1 n.1 v1 blockSize6 0 (wr .i64 (2 * blockSize6)) v1000000000000 v1000000000001
 else some ((), v1000000000000, v1000000000001, ())) := by kernel_rfl
theorem L45c39io101_3_eq (n : Nat × Nat) (m1 m2 : Nat) (v1 : Int) (blockSize6 : Int) (a7 : Int) (b8 : Int) (v1000000000000 : List Int) (v1000000000001 : List Int) : L45c39io101_3 n m1 (m2 + 1) v1 blockSize6 a7 b8 v1000000000000 v1000000000001 =
 (bif decide (b8 ≤ v1) then (S53c39io10001 n v1000000000000 a7 (wr .i64 (a7 + blockSize6)) b8 v1000000000001).bind fun r3' =>
 (bif Nat.beq r3'.2.1.length v1000000000000.length then L45c39io101_3 n m1 m2 v1 blockSize6 b8 (wr .i64 (b8 + (wr .i64 (2 * blockSize6)))) r3'.2.1 r3'.2.2.1
 else none)
 else (bif decide (wr .i64 (a7 + blockSize6) < v1) then (S53c39io10001 n v1000000000000 a7 (wr .i64 (a7 + blockSize6)) v1 v1000000000001).bind fun r4' =>
 (bif Nat.beq r4'.2.1.length v1000000000000.length then L45c39io101_2 n m1 v1 (wr .i64 (blockSize6 * 2)) r4'.2.1 r4'.2.2.1
 else none)
 else L45c39io101_2 n m1 v1 (wr .i64 (blockSize6 * 2)) v1000000000000 v1000000000001)) := by kernel_rfl
noncomputable def S45c39io101 (n : Nat × Nat) (data0 : List Int) (v1 : Int) (cp_2_0 : List Int) : Option R45c39io101 := run (E45c39io101 n) c45c39io101 an45c39io101 rt45c39io101 (fun _ _ => none) rt45c39io101 { tm := [.own 1000000000000 none false, .c (.int .i64 v1), .fn 39 [.ptr 1000000000001 0], uu, uu, uu, uu, uu, uu, uu, uu, uu, uu, uu, uu, uu, uu, uu, uu, uu, uu, uu, uu, uu, uu, uu, uu, uu, uu, uu, uu, uu, uu, uu, uu, uu, uu, uu, uu, uu, uu, uu, uu, uu, uu, uu, uu, uu, uu, uu, uu, uu, uu, uu, uu, uu, uu, uu, uu, uu, uu, uu, uu], hp := (upd (upd emp 1000000000001 (.box [.sl (.int .i64) cp_2_0 false])) 1000000000000 (.arr (.int .i64) data0 false)) }
theorem S45c39io101_eq (n : Nat × Nat) (data0 : List Int) (v1 : Int) (cp_2_0 : List Int) : S45c39io101 n data0 v1 cp_2_0 =
    L45c39io101_1 n n.1 v1 20 0 20 data0 cp_2_0 := by kernel_rfl
theorem S45c39io101_run (n : Nat × Nat) (xs : qksDen pk45c39io101) : S45c39io101 n xs.1 xs.2.1 xs.2.2.1.1 = runG (E45c39io101 n) noScope c45c39io101 an45c39io101 (rtIO rk45c39io101 (pk45c39io101.flatMap QK.ods)) (fun _ _ => none) (rtIO rk45c39io101 (pk45c39io101.flatMap QK.ods)) (st1 pk45c39io101 xs Tryz.f45.ntmps) := by kernel_rfl
noncomputable def P45c39io101 (n : Nat × Nat) := phioOf pk45c39io101 rk45c39io101 (pk45c39io101.flatMap QK.ods) (fun xs => S45c39io101 n xs.1 xs.2.1 xs.2.2.1.1)
theorem call45 : CallOK Tryz.prog 45 := callOK_of Tryz.func45 (by kernel_rfl) (by kernel_rfl)
theorem env45c39io101 (n : Nat × Nat) : EnvOK Tryz.prog (E45c39io101 n) := envOK (l := io45c39io101 n) noPhi_ok rfl rfl (by kernel_rfl) ⟨FC52c39io1001 n, call52, FC53c39io10001 n, call53, trivial⟩
theorem par45c39io101 (n : Nat × Nat) : EnvPar (E45c39io101 n) := envPar (l := io45c39io101 n) noPhi_par rfl ⟨phioOf_Pario1, phioOf_Pario1, trivial⟩
theorem FC45c39io101 (n : Nat × Nat) : FCios Tryz.prog 45 (pk45c39io101.map QK.flag) (P45c39io101 n) := phioOf_FCios fun xs r h vs hv => FCio.of_runG tabOK eqsOK (env45c39io101 n) (par45c39io101 n) mixed (fun _ p _ => noScope_ok p.1 p.2) Tryz.func45 (c := c45c39io101) (an := an45c39io101) (qks := pk45c39io101) (rks := rk45c39io101) (by kernel_rfl) (by kernel_rfl) hv ((S45c39io101_run n xs).symm.trans h)
/- slices.SortStableFunc[[]int,int] -/
abbrev R38c39io11 := (Unit) × (List Int) × (List Int) × Unit
noncomputable def c38c39io11 : Code := bodyOf Tryz.f38
noncomputable def an38c39io11 : Ann := .l
def pk38c39io11 : List QK := [.oa (.int .i64), .of 39 [(.sl (.int .i64))]]
def rk38c39io11 : List RK := []
noncomputable def rt38c39io11 (st : St) : Option R38c39io11 := rtIO rk38c39io11 (pk38c39io11.flatMap QK.ods) st
noncomputable def io38c39io11 (n : Nat × Nat) : List IoE := [⟨45, (isFns [none, none, some 39]), pk45c39io101.map QK.flag, P45c39io101 n⟩]
noncomputable def E38c39io11 (n : Nat × Nat) : Env := { T := tab, phi := noPhi, eff := fun _ => false, fuel := n.1, hold := n.2, phio := phioL (io38c39io11 n), iop := iopL (io38c39io11 n) }
noncomputable def S38c39io11 (n : Nat × Nat) (x0 : List Int) (cp_1_0 : List Int) : Option R38c39io11 := run (E38c39io11 n) c38c39io11 an38c39io11 rt38c39io11 (fun _ _ => none) rt38c39io11 { tm := [.own 1000000000000 none false, .fn 39 [.ptr 1000000000001 0], uu, uu, uu, uu, uu, uu, uu], hp := (upd (upd emp 1000000000001 (.box [.sl (.int .i64) cp_1_0 false])) 1000000000000 (.arr (.int .i64) x0 false)) }
theorem S38c39io11_eq (n : Nat × Nat) (x0 : List Int) (cp_1_0 : List Int) : S38c39io11 n x0 cp_1_0 =
 (S45c39io101 n x0 (x0.length : Int) cp_1_0).bind fun r1' =>
 (bif Nat.beq r1'.2.1.length x0.length then some ((), r1'.2.1, r1'.2.2.1, ())
 else none) := by kernel_rfl
theorem S38c39io11_run (n : Nat × Nat) (xs : qksDen pk38c39io11) : S38c39io11 n xs.1 xs.2.1.1 = runG (E38c39io11 n) noScope c38c39io11 an38c39io11 (rtIO rk38c39io11 (pk38c39io11.flatMap QK.ods)) (fun _ _ => none) (rtIO rk38c39io11 (pk38c39io11.flatMap QK.ods)) (st1 pk38c39io11 xs Tryz.f38.ntmps) := by kernel_rfl
noncomputable def P38c39io11 (n : Nat × Nat) := phioOf pk38c39io11 rk38c39io11 (pk38c39io11.flatMap QK.ods) (fun xs => S38c39io11 n xs.1 xs.2.1.1)
theorem call38 : CallOK Tryz.prog 38 := callOK_of Tryz.func38 (by kernel_rfl) (by kernel_rfl)
theorem env38c39io11 (n : Nat × Nat) : EnvOK Tryz.prog (E38c39io11 n) := envOK (l := io38c39io11 n) noPhi_ok rfl rfl (by kernel_rfl) ⟨FC45c39io101 n, call45, trivial⟩
theorem par38c39io11 (n : Nat × Nat) : EnvPar (E38c39io11 n) := envPar (l := io38c39io11 n) noPhi_par rfl ⟨phioOf_Pario1, trivial⟩
theorem FC38c39io11 (n : Nat × Nat) : FCios Tryz.prog 38 (pk38c39io11.map QK.flag) (P38c39io11 n) := phioOf_FCios fun xs r h vs hv => FCio.of_runG tabOK eqsOK (env38c39io11 n) (par38c39io11 n) mixed (fun _ p _ => noScope_ok p.1 p.2) Tryz.func38 (c := c38c39io11) (an := an38c39io11) (qks := pk38c39io11) (rks := rk38c39io11) (by kernel_rfl) (by kernel_rfl) hv ((S38c39io11_run n xs).symm.trans h)
abbrev R24 := List Int
noncomputable def c24 : Code := bodyOf Tryz.f24
noncomputable def an24 : Ann := (.s .l (.s .l (.s (.s .l (.j [1, 3] (.j [1, 3, 9, 10] (.s .l (.s (.j [1, 3, 9, 10] .l .l) (.s (.j [1, 3, 9, 10] .l .l) .l))) .l) .l)) .l)))
def pk24 : List PK := [.c (.sl (.int .i64))]
def rk24 : List RK := [.own (.int .i64) 2]
noncomputable def rt24 (st : St) : Option R24 := rtG rk24 st
noncomputable def io24 (n : Nat × Nat) : List IoE := [⟨38, (isFns [none, some 39]), pk38c39io11.map QK.flag, P38c39io11 n⟩]
noncomputable def E24 (n : Nat × Nat) : Env := { T := tab, phi := noPhi, eff := fun _ => false, fuel := n.1, hold := n.2, phio := phioL (io24 n), iop := iopL (io24 n) }
noncomputable def kq24_1 (n : Nat × Nat) : St → Option R24 := run (E24 n) (cB (cB (cB c24))) (Ann.snd (Ann.snd (Ann.snd an24))) rt24 (fun _ _ => none) rt24
noncomputable def xb24_3 (n : Nat × Nat) : Nat → St → Option R24 := fun j s => bif Nat.beq j 0 then normC [1, 3] s (kq24_1 n) else (fun _ _ => none) j s
noncomputable def F24_4 (n : Nat × Nat) : (St → Option R24) → St → Option R24 := fun K s => run (E24 n) (cA (cA (cB (cA (cB (cB c24)))))) (Ann.fst (Ann.fst (Ann.snd (Ann.fst (Ann.snd (Ann.snd an24)))))) (fun s => normC [1, 3, 9, 10] s K) (xb24_3 n) rt24 s
noncomputable def L24_1 (n : Nat × Nat) (m : Nat) (v9 : Int) (v10 : Int) (pieces1 : List Int) (out3 : List Int) : Option R24 := loopN (F24_4 n) m { tm := [uu, .ptr 1 0, uu, .own 3 none false, uu, uu, uu, uu, uu, .c (.int .i64 v9), .c (.int .i64 v10), uu, uu, uu, uu, uu, uu, uu, uu, uu, uu, uu], hp := (upd (upd emp 3 (.arr (.int .i64) out3 false)) 1 (.box [.sl (.int .i64) pieces1 false])) }
theorem L24_1_eq (n : Nat × Nat) (m1 : Nat) (v9 : Int) (v10 : Int) (pieces1 : List Int) (out3 : List Int) : L24_1 n (m1 + 1) v9 v10 pieces1 out3 =
 (bif decide (v10 < v9) then (bif inB v10 out3.length then (idx out3 v10).bind fun x1' =>
        L24_1 n m1 v9 (wr .i64 (v10 + 1)) pieces1 (out3.set (Int.toNat v10) v10)
 else none)
 else (S38c39io11 n out3 pieces1).bind fun r2' =>
 (bif Nat.beq r2'.2.1.length out3.length then some r2'.2.1
 else none)) := by kernel_rfl
noncomputable def S24 (n : Nat × Nat) (pieces0 : List Int) : Option R24 := run (E24 n) c24 an24 rt24 (fun _ _ => none) rt24 { tm := [.c (.sl (.int .i64) pieces0 false), uu, uu, uu, uu, uu, uu, uu, uu, uu, uu, uu, uu, uu, uu, uu, uu, uu, uu, uu, uu, uu], hp := emp }
theorem S24_eq (n : Nat × Nat) (pieces0 : List Int) : S24 n pieces0 =
 (bif decide (0 ≤ (pieces0.length : Int)) && decide ((pieces0.length : Int) ≤ (pieces0.length : Int)) && decide ((pieces0.length : Int) ≤ lim) then L24_1 n n.1 ((List.replicate (Int.toNat (pieces0.length : Int)) (0 : Int)).length : Int) 0 pieces0 (List.replicate (Int.toNat (pieces0.length : Int)) (0 : Int))
 else none) := by kernel_rfl
theorem S24_run (n : Nat × Nat) (xs : pksDen pk24) : S24 n xs.1 = runG (E24 n) noScope c24 an24 (rtG rk24) (fun _ _ => none) (rtG rk24) (st0 pk24 xs Tryz.f24.ntmps) := by kernel_rfl
noncomputable def P24 (n : Nat × Nat) := phiOf pk24 rk24 (fun xs => S24 n xs.1)
theorem call24 : CallOK Tryz.prog 24 := callOK_of Tryz.func24 (by kernel_rfl) (by kernel_rfl)
theorem env24 (n : Nat × Nat) : EnvOK Tryz.prog (E24 n) := envOK (l := io24 n) noPhi_ok rfl rfl (by kernel_rfl) ⟨FC38c39io11 n, call38, trivial⟩
theorem par24 (n : Nat × Nat) : EnvPar (E24 n) := envPar (l := io24 n) noPhi_par rfl ⟨phioOf_Pario1, trivial⟩
theorem FC24 (n : Nat × Nat) : FCs Tryz.prog 24 (P24 n) := phiOf_FCs fun xs r h vs hv => FC.of_runG tabOK eqsOK (env24 n) (par24 n) mixed (fun _ p _ => noScope_ok p.1 p.2) Tryz.func24 (c := c24) (an := an24) (pks := pk24) (rks := rk24) (by kernel_rfl) (by kernel_rfl) hv ((S24_run n xs).symm.trans h)
abbrev R9 := Bool × Int
noncomputable def c9 : Code := bodyOf Tryz.f9
noncomputable def an9 : Ann := (.s .l (.s (.s .l (.s .l (.j [0, 1] .l .l))) (.s (.s .l (.j [] (.j [0, 1, 16, 17, 18] (.s .l (.s (.j [0, 1, 16, 17, 18] .l .l) (.s (.j [0, 1, 16, 17, 18] (.s .l (.s (.s .l (.j [1, 8, 16, 17, 18] .l .l)) .l)) .l) .l))) .l) .l)) .l)))
def pk9 : List PK := [.c (.int .i64), .c (.sl (.int .i64))]
def rk9 : List RK := [.c .bool 4, .c (.int .i64) 5]
noncomputable def rt9 (st : St) : Option R9 := rtG rk9 st
noncomputable def E9 (n : Nat × Nat) : Env := { T := tab, phi := (consPhi 22 (fun _ => true) (P22 n) (consPhi 24 (fun _ => true) (P24 n) noPhi)), eff := fun _ => false, fuel := n.1, hold := n.2 }
noncomputable def kq9_3 (n : Nat × Nat) : St → Option R9 := run (E9 n) (cB (cB (cB c9))) (Ann.snd (Ann.snd (Ann.snd an9))) rt9 (fun _ _ => none) rt9
noncomputable def xb9_5 (n : Nat × Nat) : Nat → St → Option R9 := fun j s => bif Nat.beq j 0 then normC [] s (kq9_3 n) else (fun _ _ => none) j s
noncomputable def F9_6 (n : Nat × Nat) : (St → Option R9) → St → Option R9 := fun K s => run (E9 n) (cA (cA (cB (cA (cB (cB c9)))))) (Ann.fst (Ann.fst (Ann.snd (Ann.fst (Ann.snd (Ann.snd an9)))))) (fun s => normC [0, 1, 16, 17, 18] s K) (xb9_5 n) rt9 s
noncomputable def L9_1 (n : Nat × Nat) (m : Nat) (size0 : Int) (pieces1 : List Int) (v17 : Int) (v18 : Int) (v16 : List Int) : Option R9 := loopN (F9_6 n) m { tm := [.c (.int .i64 size0), .c (.sl (.int .i64) pieces1 false), uu, uu, uu, uu, uu, uu, uu, uu, uu, uu, uu, uu, uu, uu, .own 16 none false, .c (.int .i64 v17), .c (.int .i64 v18), uu, uu, uu, uu, uu, uu, uu, uu, uu, uu, uu, uu, uu, uu, uu, uu, uu, uu], hp := (upd emp 16 (.arr (.int .i64) v16 false)) }
theorem L9_1_eq (n : Nat × Nat) (m1 : Nat) (size0 : Int) (pieces1 : List Int) (v17 : Int) (v18 : Int) (v16 : List Int) : L9_1 n (m1 + 1) size0 pieces1 v17 v18 v16 =
 (bif decide (v18 < v17) then (bif inB v18 v16.length then (idx v16 v18).bind fun x3' =>
 (idx ([0, 2, 6, 10, 22, 34, 78, 130, 278, 522, 1062, 2050, 4190, 8194, 16518, 32810, 65814, 131074, 262734, 524290, 1049654, 2097290, 4196358, 8388610, 16781662] : List Int) size0).bind fun x4' =>
 (idx pieces1 x3').bind fun x5' =>
 (bif decide (x5' < 0) then none
 else (bif ((wr .u32 (BitVec.ofInt (IntKind.bits .u32) (Int.fdiv x4' (2 ^ (min (Int.toNat x5') (IntKind.bits .u32)))) &&& BitVec.ofInt (IntKind.bits .u32) 1).toNat) == 0) then some (false, 0)
 else (idx pieces1 x3').bind fun x6' =>
            L9_1 n m1 x6' pieces1 v17 (wr .i64 (v18 + 1)) v16))
 else none)
 else some (true, 0)) := by kernel_rfl
noncomputable def S9 (n : Nat × Nat) (size0 : Int) (pieces1 : List Int) : Option R9 := run (E9 n) c9 an9 rt9 (fun _ _ => none) rt9 { tm := [.c (.int .i64 size0), .c (.sl (.int .i64) pieces1 false), uu, uu, uu, uu, uu, uu, uu, uu, uu, uu, uu, uu, uu, uu, uu, uu, uu, uu, uu, uu, uu, uu, uu, uu, uu, uu, uu, uu, uu, uu, uu, uu, uu, uu, uu], hp := emp }
theorem S9_eq (n : Nat × Nat) (size0 : Int) (pieces1 : List Int) : S9 n size0 pieces1 =
 (S22 n size0 pieces1).bind fun r1' =>
 (bif (r1' != 0) then some (false, r1')
 else (S24 n pieces1).bind fun r2' =>
      L9_1 n n.1 size0 pieces1 (r2'.length : Int) 0 r2') := by kernel_rfl
theorem S9_run (n : Nat × Nat) (xs : pksDen pk9) : S9 n xs.1 xs.2.1 = runG (E9 n) noScope c9 an9 (rtG rk9) (fun _ _ => none) (rtG rk9) (st0 pk9 xs Tryz.f9.ntmps) := by kernel_rfl
noncomputable def P9 (n : Nat × Nat) := phiOf pk9 rk9 (fun xs => S9 n xs.1 xs.2.1)
theorem call9 : CallOK Tryz.prog 9 := callOK_of Tryz.func9 (by kernel_rfl) (by kernel_rfl)
theorem env9 (n : Nat × Nat) : EnvOK Tryz.prog (E9 n) := envOK0 (consPhi_ok (FC22 n) call22 (consPhi_ok (FC24 n) call24 noPhi_ok)) rfl rfl
theorem par9 (n : Nat × Nat) : EnvPar (E9 n) := envPar0 (consPhi_par phiOf_Par1 (consPhi_par phiOf_Par1 noPhi_par)) rfl
theorem FC9 (n : Nat × Nat) : FCs Tryz.prog 9 (P9 n) := phiOf_FCs fun xs r h vs hv => FC.of_runG tabOK eqsOK (env9 n) (par9 n) mixed (fun _ p _ => noScope_ok p.1 p.2) Tryz.func9 (c := c9) (an := an9) (pks := pk9) (rks := rk9) (by kernel_rfl) (by kernel_rfl) hv ((S9_run n xs).symm.trans h)
abbrev R10 := List Int × Int
noncomputable def c10 : Code := bodyOf Tryz.f10
noncomputable def an10 : Ann := (.s .l (.s (.s .l (.s .l (.j [1] .l .l))) .l))
def pk10 : List PK := [.c (.int .i64), .c (.sl (.int .i64))]
def rk10 : List RK := [.own (.int .i64) 4, .c (.int .i64) 5]
noncomputable def rt10 (st : St) : Option R10 := rtG rk10 st
noncomputable def E10 (n : Nat × Nat) : Env := { T := tab, phi := (consPhi 22 (fun _ => true) (P22 n) (consPhi 24 (fun _ => true) (P24 n) noPhi)), eff := fun _ => false, fuel := n.1, hold := n.2 }
noncomputable def S10 (n : Nat × Nat) (size0 : Int) (pieces1 : List Int) : Option R10 := run (E10 n) c10 an10 rt10 (fun _ _ => none) rt10 { tm := [.c (.int .i64 size0), .c (.sl (.int .i64) pieces1 false), uu, uu, uu, uu, uu, uu, uu, uu, uu, uu, uu, uu, uu], hp := emp }
theorem S10_eq (n : Nat × Nat) (size0 : Int) (pieces1 : List Int) : S10 n size0 pieces1 =
 (S22 n size0 pieces1).bind fun r1' =>
 (bif (r1' != 0) then some ([], r1')
 else (S24 n pieces1).bind fun r2' =>
 some (r2', 0)) := by kernel_rfl
theorem S10_run (n : Nat × Nat) (xs : pksDen pk10) : S10 n xs.1 xs.2.1 = runG (E10 n) noScope c10 an10 (rtG rk10) (fun _ _ => none) (rtG rk10) (st0 pk10 xs Tryz.f10.ntmps) := by kernel_rfl
noncomputable def P10 (n : Nat × Nat) := phiOf pk10 rk10 (fun xs => S10 n xs.1 xs.2.1)
theorem call10 : CallOK Tryz.prog 10 := callOK_of Tryz.func10 (by kernel_rfl) (by kernel_rfl)
theorem env10 (n : Nat × Nat) : EnvOK Tryz.prog (E10 n) := envOK0 (consPhi_ok (FC22 n) call22 (consPhi_ok (FC24 n) call24 noPhi_ok)) rfl rfl
theorem par10 (n : Nat × Nat) : EnvPar (E10 n) := envPar0 (consPhi_par phiOf_Par1 (consPhi_par phiOf_Par1 noPhi_par)) rfl
theorem FC10 (n : Nat × Nat) : FCs Tryz.prog 10 (P10 n) := phiOf_FCs fun xs r h vs hv => FC.of_runG tabOK eqsOK (env10 n) (par10 n) mixed (fun _ p _ => noScope_ok p.1 p.2) Tryz.func10 (c := c10) (an := an10) (pks := pk10) (rks := rk10) (by kernel_rfl) (by kernel_rfl) hv ((S10_run n xs).symm.trans h)
abbrev R18 := Int
noncomputable def c18 : Code := bodyOf Tryz.f18
noncomputable def an18 : Ann := (.s .l (.s (.j [1, 30, 31, 32, 33, 34, 35, 48, 49, 50, 53, 54, 55, 58, 59, 60, 61, 62] (.s .l (.j [1, 30, 31, 32, 33, 34, 35, 48, 49, 50, 53, 54, 55, 58, 59, 60, 61, 62] .l (.s .l (.j [1, 30, 31, 32, 33, 34, 35, 48, 49, 50, 53, 54, 55, 58, 59, 60, 61, 62] .l .l)))) .l) (.s (.s .l (.j [1, 48, 49, 50, 53, 54, 55, 58, 59, 60, 61, 62] (.j [1, 16, 17, 18, 30, 31, 32, 33, 34, 35, 48, 49, 50, 53, 54, 55, 58, 59, 60, 61, 62] (.s .l (.s (.j [1, 16, 17, 18, 30, 31, 32, 33, 34, 35, 48, 49, 50, 53, 54, 55, 58, 59, 60, 61, 62] .l .l) (.s (.j [1, 16, 17, 18, 30, 31, 32, 33, 34, 35, 48, 49, 50, 53, 54, 55, 58, 59, 60, 61, 62] (.s .l (.j [1, 16, 17, 18, 30, 31, 32, 33, 34, 35, 48, 49, 50, 53, 54, 55, 58, 59, 60, 61, 62] (.s .l (.j [1, 16, 17, 18, 30, 31, 32, 33, 34, 35, 48, 49, 50, 53, 54, 55, 58, 59, 60, 61, 62] .l (.s .l (.j [1, 16, 17, 18, 30, 31, 32, 33, 34, 35, 48, 49, 50, 53, 54, 55, 58, 59, 60, 61, 62] .l .l)))) .l)) .l) .l))) .l) .l)) (.s (.s .l (.j [] .l .l)) .l))))
def pk18 : List PK := [.c (.pair (.sl (.pair (.int .i64) (.int .i64))) (.pair (.int .i64) (.int .i64)))]
def rk18 : List RK := [.c (.int .i64) 2]
noncomputable def rt18 (st : St) : Option R18 := rtG rk18 st
noncomputable def E18 (n : Nat × Nat) : Env := { T := tab, phi := noPhi, eff := fun _ => false, fuel := n.1, hold := n.2 }
noncomputable def kq18_6 (n : Nat × Nat) : St → Option R18 := run (E18 n) (cB (cB (cB c18))) (Ann.snd (Ann.snd (Ann.snd an18))) rt18 (fun _ _ => none) rt18
noncomputable def xb18_8 (n : Nat × Nat) : Nat → St → Option R18 := fun j s => bif Nat.beq j 1 then normC [1, 48, 49, 50, 53, 54, 55, 58, 59, 60, 61, 62] s (kq18_6 n) else (fun _ _ => none) j s
noncomputable def F18_9 (n : Nat × Nat) : (St → Option R18) → St → Option R18 := fun K s => run (E18 n) (cA (cA (cB (cA (cB (cB c18)))))) (Ann.fst (Ann.fst (Ann.snd (Ann.fst (Ann.snd (Ann.snd an18)))))) (fun s => normC [1, 16, 17, 18, 30, 31, 32, 33, 34, 35, 48, 49, 50, 53, 54, 55, 58, 59, 60, 61, 62] s K) (xb18_8 n) rt18 s
noncomputable def L18_1 (n : Nat × Nat) (m : Nat) (v16 : List (Int × Int)) (v17 : Int) (v18 : Int) (b1_0 : List (Int × Int)) (b1_1 : Int) (b1_2 : Int) : Option R18 := loopN (F18_9 n) m { tm := [uu, .ptr 1 0, uu, uu, uu, uu, uu, uu, uu, uu, uu, uu, uu, uu, uu, uu, .c (.sl (.pair (.int .i64) (.int .i64)) v16 false), .c (.int .i64 v17), .c (.int .i64 v18), uu, uu, uu, uu, uu, uu, uu, uu, uu, uu, uu, uu, uu, uu, uu, uu, uu, uu, uu, uu, uu, uu, uu, uu, uu, uu, uu, uu, uu, uu, uu, uu, uu, uu, uu, uu, uu, uu, uu, uu, uu, uu, uu, uu, uu], hp := (upd emp 1 (.box [.sl (.pair (.int .i64) (.int .i64)) b1_0 false, .int .i64 b1_1, .int .i64 b1_2])) }
theorem L18_1_eq (n : Nat × Nat) (m1 : Nat) (v16 : List (Int × Int)) (v17 : Int) (v18 : Int) (b1_0 : List (Int × Int)) (b1_1 : Int) (b1_2 : Int) : L18_1 n (m1 + 1) v16 v17 v18 b1_0 b1_1 b1_2 =
 (bif decide (v18 < v17) then (idx v16 v18).bind fun x1' =>
 ((bif (decide ((if x1'.2 < x1'.1 then x1'.2 else x1'.1) < 1) == false) then some (decide ((if x1'.2 > x1'.1 then x1'.2 else x1'.1) > 30))
 else some true)).bind fun b2' =>
 (bif b2' then some 1
 else (bif decide (x1'.1 > x1'.2) then some 7
 else L18_1 n m1 v16 v17 (wr .i64 (v18 + 1)) b1_0 b1_1 b1_2))
 else ((bif (decide (b1_1 < 1) == false) then some (decide (b1_1 > 100))
 else some true)).bind fun b3' =>
 ((bif (b3' == false) then some (decide (b1_2 < 0))
 else some true)).bind fun b4' =>
 ((bif (b4' == false) then some (decide (b1_2 > b1_1))
 else some true)).bind fun b5' =>
 (bif b5' then some 1
 else some 0)) := by kernel_rfl
noncomputable def S18 (n : Nat × Nat) (b0 : (List (Int × Int)) × Int × Int) : Option R18 := run (E18 n) c18 an18 rt18 (fun _ _ => none) rt18 { tm := [.agg [.sl (.pair (.int .i64) (.int .i64)) b0.1 false, .int .i64 b0.2.1, .int .i64 b0.2.2], uu, uu, uu, uu, uu, uu, uu, uu, uu, uu, uu, uu, uu, uu, uu, uu, uu, uu, uu, uu, uu, uu, uu, uu, uu, uu, uu, uu, uu, uu, uu, uu, uu, uu, uu, uu, uu, uu, uu, uu, uu, uu, uu, uu, uu, uu, uu, uu, uu, uu, uu, uu, uu, uu, uu, uu, uu, uu, uu, uu, uu, uu, uu], hp := emp }
theorem S18_eq (n : Nat × Nat) (b0 : (List (Int × Int)) × Int × Int) : S18 n b0 =
 (bif ((b0.1.length : Int) == 0) then some 4
 else (bif decide ((b0.1.length : Int) > 12) then some 3
 else L18_1 n n.1 b0.1 (b0.1.length : Int) 0 b0.1 b0.2.1 b0.2.2)) := by kernel_rfl
theorem S18_run (n : Nat × Nat) (xs : pksDen pk18) : S18 n xs.1 = runG (E18 n) noScope c18 an18 (rtG rk18) (fun _ _ => none) (rtG rk18) (st0 pk18 xs Tryz.f18.ntmps) := by kernel_rfl
noncomputable def P18 (n : Nat × Nat) := phiOf pk18 rk18 (fun xs => S18 n xs.1)
theorem call18 : CallOK Tryz.prog 18 := callOK_of Tryz.func18 (by kernel_rfl) (by kernel_rfl)
theorem env18 (n : Nat × Nat) : EnvOK Tryz.prog (E18 n) := envOK0 noPhi_ok rfl rfl
theorem par18 (n : Nat × Nat) : EnvPar (E18 n) := envPar0 noPhi_par rfl
theorem FC18 (n : Nat × Nat) : FCs Tryz.prog 18 (P18 n) := phiOf_FCs fun xs r h vs hv => FC.of_runG tabOK eqsOK (env18 n) (par18 n) mixed (fun _ p _ => noScope_ok p.1 p.2) Tryz.func18 (c := c18) (an := an18) (pks := pk18) (rks := rk18) (by kernel_rfl) (by kernel_rfl) hv ((S18_run n xs).symm.trans h)
/- (headword/volume.Article).most -/
abbrev R20 := Int
noncomputable def c20 : Code := bodyOf Tryz.f20
noncomputable def an20 : Ann := .l
def pk20 : List PK := [.c (.pair (.int .i64) (.int .i64))]
def rk20 : List RK := [.c (.int .i64) 2]
noncomputable def rt20 (st : St) : Option R20 := rtG rk20 st
noncomputable def E20 (n : Nat × Nat) : Env := { T := tab, phi := noPhi, eff := fun _ => false, fuel := n.1, hold := n.2 }
noncomputable def S20 (n : Nat × Nat) (a0 : Int × Int) : Option R20 := run (E20 n) c20 an20 rt20 (fun _ _ => none) rt20 { tm := [.agg [.int .i64 a0.1, .int .i64 a0.2], uu, uu, uu, uu], hp := emp }
theorem S20_eq (n : Nat × Nat) (a0 : Int × Int) : S20 n a0 =
 some a0.2 := by kernel_rfl
theorem S20_run (n : Nat × Nat) (xs : pksDen pk20) : S20 n xs.1 = runG (E20 n) noScope c20 an20 (rtG rk20) (fun _ _ => none) (rtG rk20) (st0 pk20 xs Tryz.f20.ntmps) := by kernel_rfl
noncomputable def P20 (n : Nat × Nat) := phiOf pk20 rk20 (fun xs => S20 n xs.1)
theorem call20 : CallOK Tryz.prog 20 := callOK_of Tryz.func20 (by kernel_rfl) (by kernel_rfl)
theorem env20 (n : Nat × Nat) : EnvOK Tryz.prog (E20 n) := envOK0 noPhi_ok rfl rfl
theorem par20 (n : Nat × Nat) : EnvPar (E20 n) := envPar0 noPhi_par rfl
theorem FC20 (n : Nat × Nat) : FCs Tryz.prog 20 (P20 n) := phiOf_FCs fun xs r h vs hv => FC.of_runG tabOK eqsOK (env20 n) (par20 n) mixed (fun _ p _ => noScope_ok p.1 p.2) Tryz.func20 (c := c20) (an := an20) (pks := pk20) (rks := rk20) (by kernel_rfl) (by kernel_rfl) hv ((S20_run n xs).symm.trans h)
end Go.Proofs.YtkfkbebinhkdlaaGreatDoor
