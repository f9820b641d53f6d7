/-
  Vi: functions: scopes; parameters and results; a function's contract out of its run.
-/
import Derived.Test.YtombednapelokaaViN
set_option linter.unusedVariables false
set_option linter.unusedSimpArgs false
namespace Go.Vi
open Op

section
variable {P : Program} {E : Env} {x : Cx} {γ γ' : Gam} {w w0 : World} {a : Act} {st st' : St} {A A0 A1 : Nat → Prop}
variable {Q : Exit → Act → World → Prop} {H H' : Heap} {ρ : Type} {k : St → Option ρ} {r : ρ}

/-! ### Scopes -/

theorem jumpTo_some {K : Nat × St → Option ρ} {ex : Nat → St → Option ρ} {j : Nat} {s : St} : ∀ (ls : List (Nat × List Nat × Ann)), jumpTo ls K ex j s = some r →
    (∃ l lv, j = goff + l ∧ K (l, norm lv s) = some r) ∨ (j < goff ∧ ex j s = some r)
  | [], h => by
    simp only [jumpTo] at h
    obtain ⟨h1, h2⟩ := cond_some h rfl
    exact .inr ⟨Nat.le_of_ble_eq_true h1, h2⟩
  | (l, lv, an) :: ls, h => by
    simp only [jumpTo, normC_eq] at h
    cases hb : Nat.beq j (goff + l) with
    | true =>
      rw [hb] at h
      exact .inl ⟨l, lv, Nat.eq_of_beq_eq_true hb, h⟩
    | false =>
      rw [hb] at h
      exact jumpTo_some ls h

theorem scope1_ok (hT : TabOK P E.T) (hE : EqsOK P E.T) (hphi : EnvOK P E) (hpar : EnvPar E) (hm : P.follows .mixedOrders = true) : ScOK P x (scope1 E) := by
  intro ρ c an k ex rt r Q st γ a w h hr hp
  unfold scope1 at h
  generalize an.snd.labels = ls at h
  let Q2 : Nat → Exit → Act → World → Prop := fun n e a w =>
    match e with
    | .goto l => ∃ st γ, loopN (passF E c ls k ex rt) n (l, st) = some r ∧ RS x γ st a w
    | e => Q e a w
  have posts : ∀ n, Posts x k (jumpTo ls (loopN (passF E c ls k ex rt) n) ex) rt r (Q2 n) := by
    intro n
    refine ⟨fun st' γ' a' w' hk hr' => hp.norm st' γ' a' w' hk hr', ?_, fun st' γ' a' w' hk hr' => hp.ret st' γ' a' w' hk hr'⟩
    intro j st' γ' a' w' hk hr'
    rcases jumpTo_some ls hk with ⟨l, lv, rfl, hk2⟩ | ⟨hj, hk2⟩
    · have : exitOf (goff + l) = .goto l := by
        unfold exitOf
        rw [if_neg (by omega), show goff + l - goff = l by omega]
      rw [this]
      obtain ⟨γ2, hr2⟩ := hr'.norm lv
      exact ⟨_, γ2, hk2, hr2⟩
    · have h1 := hp.exit j st' γ' a' w' hk2 hr'
      have : exitOf j = .exit j := if_pos hj
      rw [this] at h1 ⊢
      exact h1
  intro b kk cs
  have key : ∀ (n l : Nat) (st : St) (γ : Gam) (a : Act) (w : World) (rest : Code), loopN (passF E c ls k ex rt) n (l, st) = some r → RS x γ st a w → findLabel c l = some rest →
      ∃ e a' w', Q e a' w' ∧ Arrives P (lone (b.at a (.code rest :: .inScope c :: kk)) cs w) b kk cs e a' w' := by
    intro n
    induction n with
    | zero => intro l st γ a w rest h _ _; cases h
    | succ n ih =>
      intro l st γ a w rest h hr hf
      simp only [loopN, passF, hf] at h
      split at h
      · rename_i q rest' hfl hl
        cases hfl
        obtain ⟨e, a₁, w₁, hq, harr⟩ := run_sound hT hE hphi hpar hm h hr (posts n) b (.inScope c :: kk) cs
        cases e with
        | normal => exact ⟨.normal, a₁, w₁, hq, Steps.trans harr (.one step_inScope)⟩
        | exit id => exact ⟨.exit id, a₁, w₁, hq, fun k' hk => harr k' (by simp [exitTo, hk])⟩
        | goto l' =>
          obtain ⟨st', γ', h1, h2⟩ := hq
          have hfl : ∃ rest', findLabel c l' = some rest' := by
            cases n with
            | zero => cases h1
            | succ n =>
              simp only [loopN, passF] at h1
              split at h1
              · rename_i q' rest' hh _
                exact ⟨_, hh⟩
              · cases h1
          obtain ⟨rest', hf'⟩ := hfl
          obtain ⟨e₂, a₂, w₂, hq₂, harr₂⟩ := ih l' st' γ' a₁ w₁ rest' h1 h2 hf'
          have hg : gotoIn l' (.inScope c :: kk) = some (.code rest' :: .inScope c :: kk) := by simp [gotoIn, hf']
          exact ⟨e₂, a₂, w₂, hq₂, .of_steps (harr _ hg) harr₂⟩
        | ret => exact ⟨_, a₁, w₁, hq, harr⟩
        | panic ch => exact ⟨_, a₁, w₁, hq, harr⟩
        | outgrown => exact ⟨_, a₁, w₁, hq, harr⟩
      · cases h
  obtain ⟨e, a₁, w₁, hq, harr⟩ := run_sound hT hE hphi hpar hm h hr (posts E.fuel) b (.inScope c :: kk) cs
  cases e with
  | normal => exact ⟨.normal, a₁, w₁, hq, .head step_scope (Steps.trans harr (.one step_inScope))⟩
  | exit id => exact ⟨.exit id, a₁, w₁, hq, fun k' hk => .head step_scope (harr k' (by simp [exitTo, hk]))⟩
  | goto l' =>
    obtain ⟨st', γ', h1, h2⟩ := hq
    have hfl : ∃ rest', findLabel c l' = some rest' := by
      cases hn : E.fuel with
      | zero => rw [hn] at h1; cases h1
      | succ n =>
        rw [hn] at h1
        simp only [loopN, passF] at h1
        split at h1
        · rename_i q' rest' hh _
          exact ⟨_, hh⟩
        · cases h1
    obtain ⟨rest', hf'⟩ := hfl
    obtain ⟨e₂, a₂, w₂, hq₂, harr₂⟩ := key E.fuel l' st' γ' a₁ w₁ rest' h1 h2 hf'
    have hg : gotoIn l' (.inScope c :: kk) = some (.code rest' :: .inScope c :: kk) := by simp [gotoIn, hf']
    exact ⟨e₂, a₂, w₂, hq₂, .of_steps (.head step_scope (harr _ hg)) harr₂⟩
  | ret => exact ⟨_, a₁, w₁, hq, .of_steps (.one step_scope) harr⟩
  | panic ch => exact ⟨_, a₁, w₁, hq, .of_steps (.one step_scope) harr⟩
  | outgrown => exact ⟨_, a₁, w₁, hq, .of_steps (.one step_scope) harr⟩

theorem run1_sound (hT : TabOK P E.T) (hE : EqsOK P E.T) (hphi : EnvOK P E) (hpar : EnvPar E) (hm : P.follows .mixedOrders = true) {c : Code} {an : Ann} {ex : Nat → St → Option ρ} {rt : St → Option ρ}
    (h : run1 E c an k ex rt st = some r) (hr : RS x γ st a w) (hp : Posts x k ex rt r Q) : c.wp P Q a w :=
  runG_sound hT hE hphi hpar hm (scope1_ok hT hE hphi hpar hm) c an k ex rt Q st γ a w h hr hp

/-! ### Results -/

theorem nagg_one {s : Sh} (h : s.agg = false) : s.nc = 1 := by cases s <;> first | rfl | cases h

theorem mk1_R {s : Sh} {y : s.den} {u : Value} {vs : List Value} (h : VRs w A s y vs) (hA : ∀ b, A b → A1 b) (hu : u = if s.agg = true then .agg vs.toArray else vs.headD undef) : RetR1 w0 w A1 (mk1 s y) .emp u := by
  have hc := CR.of_VRs s y vs h
  have hA' : ∀ b, A b → A1 b ∧ w.heap[b]? = w.heap[b]? := fun b hb => ⟨hA b hb, rfl⟩
  unfold mk1
  cases hs : s.agg with
  | true =>
    rw [hs] at hu
    simp only [cond_true]
    exact ⟨vs, by simpa using hu, hc.mono (CR.mono hA')⟩
  | false =>
    rw [hs] at hu
    simp only [cond_false]
    have hl := cells_length s y
    rw [nagg_one hs] at hl
    match hcs : cells s y, hl with
    | [c], _ =>
      rw [hcs] at hc
      obtain ⟨v, rfl, hv⟩ := hc.one
      simp at hu
      subst hu
      exact CR.mono hA' c _ hv

theorem valOf_VRs {s : Sh} {v : V} {y : s.den} {u : Value} (h : valOf s v = some y) (hv : VR γ w A H v u) : ∃ vs, VRs w A s y vs ∧ u = if s.agg = true then .agg vs.toArray else vs.headD undef := by
  unfold valOf at h
  split at h
  · rename_i c
    obtain ⟨hs, h⟩ := cond_none h rfl
    refine ⟨[u], VRs.of_ofC s _ y [u] h ⟨hv, trivial⟩, ?_⟩
    rw [hs]
    rfl
  · rename_i cs
    obtain ⟨hs, h⟩ := cond_some h rfl
    obtain ⟨vs, rfl, hc⟩ := hv
    refine ⟨vs, VRs.of_ofC s _ y vs h hc, ?_⟩
    rw [hs]
    rfl
  · cases h

def resF (tmps : Array Value) : ResultVar → Sem Value
  | .tmp t => pure (tmps.getD t undef)
  | .cell a t => do loadVar t (← asAddr (tmps.getD a undef))

theorem results_run {fn : Func} {us : List Value} (h : (fn.results.toList.mapM (resF a.tmps)).run P w = .ok us w) : (results fn a.tmps).run P w = .ok (retVal us) w := by
  have e : (fn.results.mapM (resF a.tmps)).run P w = .ok us.toArray w := by
    rw [Array.mapM_eq_mapM_toList, Sem.run_map, h]
    rfl
  have e2 : results fn a.tmps = fn.results.mapM (resF a.tmps) >>= fun vs => pure (if h : vs.size = 1 then vs[0] else .tuple vs) := by
    unfold results
    congr 1
  rw [e2, Sem.run_bind, e]
  simp only [Result.andThen_ok, Sem.run_pure]
  congr 1
  match us with
  | [] => rfl
  | [u] => rfl
  | u :: u' :: us =>
    unfold retVal
    rw [dif_neg (by simp)]

/-- What a result stands for in the call's own. -/
def RK.info (γ : Gam) (st : St) : RK → Info
  | .own _ t =>
    match (st.tm[t]? : Option V) with
    | some (.own k _ _) => (γ k).getD .emp
    | _ => .emp
  | _ => .emp

theorem castL_some {e' e : Sh} {xs : List e'.den} {ys : List e.den} (h : castL e' e xs = some ys) : ∃ he : e' = e, ys = he ▸ xs := by
  unfold castL at h
  split at h
  · rename_i he
    cases h
    exact ⟨he, rfl⟩
  · cases h

theorem OwnSl.weak {i : Info} {n len : Nat} {nilE t : Bool} {v : Value} (h : OwnSl i n len nilE none t v) : OwnSl i n len false none false v := by
  cases i with
  | emp =>
    obtain ⟨a, h1, h2, h3, h4⟩ := h
    exact ⟨a, h1, by simp, h3, h4⟩
  | «at» b c =>
    obtain ⟨h1, h2, h3⟩ := h
    exact ⟨h1, h2, by simp⟩

theorem objR.weak {e : Sh} {xs : List e.den} {nilE : Bool} {i : Info} (h : objR w A (.arr e xs nilE) i) : objR w A (.arr e xs false) i := by
  cases i with
  | emp => exact h
  | «at» b c => exact ⟨by simp, h.2⟩

/-- One result. -/
theorem RK_get (hT : TabOK P E.T) (hr : RS x γ st a w) {rv : ResultVar} {rk : RK} (hok : rksOK E.T [rv] [rk] = true) {y : rk.den} (hg : rk.get st = some y) (hA : ∀ b, Av x γ w b → A1 b)
    (hO : ∀ k ∈ rk.ownK st, ∀ b c, γ k = some (.at b c) → w0.heap.size ≤ b) (hS : ∀ k ∈ rk.slK st, ∀ b c, γ k = some (.at b c) → A1 b) : ∃ u, (resF a.tmps rv).run P w = .ok u w ∧ RetR1 w0 w A1 (rk.ret y) (rk.info γ st) u := by
  have hA' : ∀ b, Av x γ w b → A1 b ∧ w.heap[b]? = w.heap[b]? := fun b hb => ⟨hA b hb, rfl⟩
  cases rk with
  | own e t =>
    cases rv with
    | cell _ _ => cases hok
    | tmp t' =>
      simp only [rksOK, Bool.and_true] at hok
      have := Nat.eq_of_beq_eq_true hok
      subst this
      refine ⟨_, rfl, ?_⟩
      simp only [RK.get, rOwn] at hg
      split at hg
      · rename_i k b hv
        obtain ⟨i, e', xs, nilE, h1, h2, h3⟩ := hr.tm _ _ hv
        simp only [elemsAs, elems, h2, view] at hg
        obtain ⟨rfl, rfl⟩ := castL_some hg
        obtain ⟨ob, h4, h5⟩ := hr.inv.own k i h1
        rw [h2] at h4
        cases h4
        simp only [RK.info, hv, h1, Option.getD_some]
        refine ⟨(objR.mono hA' _ i (fun _ _ _ => rfl) h5).weak, h3.weak, fun b c hi => ?_⟩
        have h6 := hr.inv.rng k b c (hi ▸ h1)
        exact ⟨hO k (by simp [RK.ownK, hv]) b c (hi ▸ h1), h6.2⟩
      · cases hg
  | sl e t =>
    cases rv with
    | cell _ _ => cases hok
    | tmp t' =>
      simp only [rksOK, Bool.and_true] at hok
      have := Nat.eq_of_beq_eq_true hok
      subst this
      refine ⟨_, rfl, ?_⟩
      simp only [RK.get, rSl] at hg
      split at hg
      · rename_i v hv
        have hVR := hr.tm _ _ hv
        have key : ∀ (keys : List Nat), (∀ k ∈ v.ownKey, k ∈ keys) → (∀ k ∈ keys, ∀ b c, γ k = some (.at b c) → A1 b) → ∀ tt, gnd st.hp v = some (.c (.sl e y tt)) → RetR1 w0 w A1 (.val (.sl e y false)) .emp (a.tmps.getD t' undef) := by
          intro keys hk hkA tt hgn
          have := gnd_VR hr.inv hgn hVR hk
          obtain ⟨ad, cap, c1, c2, c3, c4⟩ : CR w (A0k x γ w keys) (.sl e y tt) (a.tmps.getD t' undef) := this
          have hA2 : ∀ b, A0k x γ w keys b → A1 b ∧ w.heap[b]? = w.heap[b]? := by
            rintro b (hb | ⟨k, hk, c, hc⟩)
            · exact hA' b hb
            · exact ⟨hkA k hk b c hc, rfl⟩
          exact ⟨ad, cap, c1, c2, by simp, c4.mono hA2 fun x us hx => VRs.mono hA2 e x us hx⟩
        simp only [elemsAs] at hg
        split at hg
        · rename_i e' xs he
          obtain ⟨rfl, rfl⟩ := castL_some hg
          cases v with
          | own k win tt =>
            simp only [elems] at he
            split at he
            · rename_i e2 xs2 n2 hH
              cases he
              refine key [k] (by simp [V.ownKey]) ?_ tt (by simp only [gnd, gnd1, hH])
              intro k' hk' b c hc
              rw [List.mem_singleton.1 hk'] at hc
              exact hS k (by simp [RK.slK, hv]) b c hc
            · cases he
          | c y' =>
            cases y' with
            | sl e2 xs2 tt =>
              cases he
              exact key [] (by simp [V.ownKey]) (by simp) tt rfl
            | _ => simp [elems] at he
          | _ => simp [elems] at he
        · cases hg
      · cases hg
  | c s t =>
    cases rv with
    | cell _ _ => cases hok
    | tmp t' =>
      simp only [rksOK, Bool.and_true] at hok
      have := Nat.eq_of_beq_eq_true hok
      subst this
      refine ⟨_, rfl, ?_⟩
      simp only [RK.get] at hg
      split at hg
      · rename_i v hv
        obtain ⟨vs, h1, h2⟩ := valOf_VRs hg (hr.tm _ _ hv)
        exact mk1_R h1 hA h2
      · cases hg
  | box s t =>
    cases rv with
    | tmp _ => cases hok
    | cell t' ty =>
      simp only [rksOK, Bool.and_true, Bool.and_eq_true] at hok
      have := Nat.eq_of_beq_eq_true hok.1
      subst this
      have hty := of_decide_eq_true hok.2
      simp only [RK.get, rBox] at hg
      split at hg
      · rename_i k off hv
        obtain ⟨b, c, h1, h2⟩ := hr.tm _ _ hv
        split at hg
        · rename_i cs hH
          obtain ⟨ob, h3, h4⟩ := hr.inv.own k _ h1
          rw [hH] at h3
          cases h3
          obtain ⟨cur, et, h5, h6⟩ := h4
          obtain ⟨hd, hg⟩ := cond_some hg rfl
          have hd := of_decide_eq_true hd
          have hV := VRs.of_ofC s _ y _ hg ((h6.drop off).take s.nc)
          have hl2 := h6.length
          simp only [Array.length_toList] at hl2
          refine ⟨if s.agg = true then .agg ((cur.toList.drop off).take s.nc).toArray else ((cur.toList.drop off).take s.nc).headD undef, ?_, mk1_R hV hA rfl⟩
          have hsh := hT.sh ty s hty
          have hnc : s.agg = false → s.nc = 1 := nagg_one
          have hle : off + s.nc ≤ cur.size := by omega
          have hrun := run_load_shape (P := P) (w := w) hsh.base h5 hle hnc
          simp only [Instr.loadAt, Instr.sureAddr, Sem.run_bind, Sem.run_pure, Result.andThen_ok] at hrun
          simp only [resF, h2, asAddr, Sem.run_bind, Sem.run_pure, Result.andThen_ok]
          rw [hrun]
          congr 1
          split
          · rfl
          · rename_i hag
            have h1 := hnc (by simpa using hag)
            rw [h1]
            have hlt : off < cur.size := by omega
            simp [List.getD, List.take_one, List.head?_drop, hlt]
        · cases hg
      · cases hg


theorem info_at {rk : RK} {b c : Nat} (h : rk.info γ st = .at b c) : ∃ k ∈ rk.ownK st, γ k = some (.at b c) := by
  cases rk with
  | own e t =>
    simp only [RK.info] at h
    split at h
    · rename_i k _ _ hv
      cases hg : γ k with
      | none => rw [hg] at h; cases h
      | some i =>
        rw [hg] at h
        simp only [Option.getD_some] at h
        exact ⟨k, by simp [RK.ownK, hv], by rw [hg, h]⟩
    · cases h
  | _ => cases h

theorem rksOK_cons {T : Tab} {rv : ResultVar} {rk : RK} {rvs : List ResultVar} {rks : List RK} (h : rksOK T (rv :: rvs) (rk :: rks) = true) : rksOK T [rv] [rk] = true ∧ rksOK T rvs rks = true := by
  cases rv <;> cases rk <;> simp only [rksOK, Bool.and_eq_true, Bool.and_true] at h ⊢ <;> first | exact h | cases h

/-- All results. -/
theorem RKs_get (hT : TabOK P E.T) (hr : RS x γ st a w) (hA : ∀ b, Av x γ w b → A1 b) : ∀ (rks : List RK) (rvs : List ResultVar) (y : rksDen rks), rksOK E.T rvs rks = true → rtL st rks = some y →
    (rks.flatMap (RK.ownK st)).Nodup → (∀ k ∈ rks.flatMap (RK.ownK st), ∀ b c, γ k = some (.at b c) → w0.heap.size ≤ b) → (∀ k ∈ rks.flatMap (RK.slK st), ∀ b c, γ k = some (.at b c) → A1 b) →
    ∃ us, (rvs.mapM (resF a.tmps)).run P w = .ok us w ∧ RetRs w0 w A1 (rets rks y) (rks.map (RK.info γ st)) us := by
  intro rks
  induction rks with
  | nil =>
    intro rvs y hok h hnd hO hS
    cases rvs with
    | nil => exact ⟨[], rfl, trivial⟩
    | cons rv rvs => cases rv <;> cases hok
  | cons rk rks ih =>
    intro rvs y hok h hnd hO hS
    cases rvs with
    | nil => cases rk <;> cases hok
    | cons rv rvs =>
      obtain ⟨hok1, hok2⟩ := rksOK_cons hok
      rw [List.flatMap_cons, List.nodup_append] at hnd
      have hO1 : ∀ k ∈ rk.ownK st, ∀ b c, γ k = some (.at b c) → w0.heap.size ≤ b := fun k hk => hO k (by rw [List.flatMap_cons]; exact List.mem_append.2 (.inl hk))
      have hO2 : ∀ k ∈ rks.flatMap (RK.ownK st), ∀ b c, γ k = some (.at b c) → w0.heap.size ≤ b := fun k hk => hO k (by rw [List.flatMap_cons]; exact List.mem_append.2 (.inr hk))
      have hS1 : ∀ k ∈ rk.slK st, ∀ b c, γ k = some (.at b c) → A1 b := fun k hk => hS k (by rw [List.flatMap_cons]; exact List.mem_append.2 (.inl hk))
      have hS2 : ∀ k ∈ rks.flatMap (RK.slK st), ∀ b c, γ k = some (.at b c) → A1 b := fun k hk => hS k (by rw [List.flatMap_cons]; exact List.mem_append.2 (.inr hk))
      have dis : ∀ b c, rk.info γ st = .at b c → ∀ j ∈ rks.map (RK.info γ st), ∀ c', j ≠ .at b c' := by
        intro b c hi j hj c' he
        obtain ⟨k, hk, hg⟩ := info_at hi
        obtain ⟨rk', hm, rfl⟩ := List.mem_map.1 hj
        obtain ⟨k', hk', hg'⟩ := info_at he
        have := hr.inv.inj k k' b c c' hg hg'
        subst this
        exact hnd.2.2 k hk k (List.mem_flatMap.2 ⟨rk', hm, hk'⟩) rfl
      cases rks with
      | nil =>
        obtain ⟨u, h1, h2⟩ := RK_get hT hr hok1 (y := y) h hA hO1 hS1
        cases rvs with
        | nil =>
          refine ⟨[u], ?_, h2, dis, trivial⟩
          simp only [List.mapM_cons, List.mapM_nil, Sem.run_bind, h1, Result.andThen_ok, Sem.run_pure]
        | cons rv' rvs => cases rv' <;> cases hok2
      | cons rk' rks =>
        obtain ⟨y1, h1, h⟩ := Option.bind_eq_some_iff.1 h
        obtain ⟨y2, h2, h⟩ := Option.bind_eq_some_iff.1 h
        cases h
        obtain ⟨u, h3, h4⟩ := RK_get hT hr hok1 h1 hA hO1 hS1
        obtain ⟨us, h5, h6⟩ := ih rvs y2 hok2 h2 hnd.2.1 hO2 hS2
        refine ⟨u :: us, ?_, h4, dis, h6⟩
        simp only [List.mapM_cons, Sem.run_bind, h3, Result.andThen_ok, h5, Sem.run_pure]

theorem rtG_RetR (hT : TabOK P E.T) (hr : RS x γ st a w) (hB : x.B = w0.heap.size) (hM : ∀ b, ¬ x.M b) {fn : Func} {rks : List RK} {y : rksDen rks} (hok : rksOK E.T fn.results.toList rks = true) (h : rtG rks st = some y) :
    ∃ u, (results fn a.tmps).run P w = .ok u w ∧ RetR w0 w x.A0 (rets rks y) u := by
  unfold rtG at h
  obtain ⟨hk, h⟩ := cond_some h rfl
  simp only [rkOK, Bool.and_eq_true] at hk
  have hnd := nodupB_spec hk.1
  let A1 : Nat → Prop := newA w0 w x.A0 (rks.map (RK.info γ st))
  have hA : ∀ b, Av x γ w b → A1 b := by
    intro b hb
    refine ⟨hb.1, fun hlt => hb.2.1 (by omega), fun i hi c he => ?_⟩
    obtain ⟨rk, _, rfl⟩ := List.mem_map.1 hi
    obtain ⟨k, _, hg⟩ := info_at he
    exact hb.2.2 k c hg
  have hS : ∀ k ∈ rks.flatMap (RK.slK st), ∀ b c, γ k = some (.at b c) → A1 b := by
    intro k hkm b c hg
    have h1 := hr.inv.rng k b c hg
    have h2 := h1.1.resolve_right (hM b)
    refine ⟨h1.2, fun hlt => by omega, fun i hi c' he => ?_⟩
    obtain ⟨rk, hm, rfl⟩ := List.mem_map.1 hi
    obtain ⟨k', hk', hg'⟩ := info_at he
    have := hr.inv.inj k k' b c c' hg hg'
    subst this
    have h3 := List.all_eq_true.1 hk.2 k hkm
    rw [mem_memN.2 (List.mem_flatMap.2 ⟨rk, hm, hk'⟩)] at h3
    cases h3
  obtain ⟨us, h1, h2⟩ := RKs_get hT hr hA rks fn.results.toList y hok h hnd (fun k _ b c hg => by rw [← hB]; exact (hr.inv.rng k b c hg).1.resolve_right (hM b)) hS
  exact ⟨retVal us, results_run h1, rks.map (RK.info γ st), us, rfl, h2⟩

/-! ### Parameters -/

theorem aPtr_VR1 {s : Sh} {v : V} {y : s.den} {u : Value} (h : aPtr s v = some y) (hv : VR1 γ w A H v u) : VR1 γ w A H (.iptr (cells s y)) u := by
  unfold aPtr at h
  split at h
  · rename_i cs
    obtain ⟨b, o, cur, et, fz, h1, h2, h3, h4, h5⟩ := hv
    have hV := VRs.of_ofC s _ y _ h (h5.take s.nc)
    have hl := hV.length
    simp only [List.length_take, List.length_drop, Array.length_toList] at hl
    have hC := CR.of_VRs s y _ hV
    refine ⟨b, o, cur, et, fz, h1, h2, h3, by rw [cells_length]; omega, ?_⟩
    rw [cells_length]
    rw [List.take_take, Nat.min_eq_left (by omega)] at hC
    exact hC
  · cases h

theorem capsArg_VR1 : ∀ (l : List Sh) (vs : List V) (us : List Value) (y : capsDen l), capsArg l vs = some y → All2 (VR1 γ w A H) vs us → All2 (VR1 γ w A H) (capsV l y) us
  | [], [], us, y, h, hv => hv
  | s :: l, v :: vs, [], y, h, hv => hv.elim
  | s :: l, v :: vs, u :: us, y, h, hv => by
    simp only [capsArg] at h
    obtain ⟨y1, h1, h⟩ := Option.bind_eq_some_iff.1 h
    obtain ⟨y2, h2, h⟩ := Option.bind_eq_some_iff.1 h
    cases h
    exact ⟨aPtr_VR1 h1 hv.1, capsArg_VR1 l vs us y2 h2 hv.2⟩
  | [], _ :: _, _, _, h, _ => by cases h
  | _ :: _, [], _, _, h, _ => by cases h

theorem PK.arg_val {pk : PK} {v : V} {y : pk.den} {u : Value} (h : pk.arg v = some y) (hv : VR γ w A H v u) : VR γ w A H (pk.val y) u := by
  cases pk with
  | c s =>
    obtain ⟨vs, h1, h2⟩ := valOf_VRs h hv
    have hc := CR.of_VRs s y vs h1
    simp only [PK.val]
    cases hs : s.agg with
    | true =>
      rw [hs] at h2
      exact ⟨vs, by simpa using h2, hc⟩
    | false =>
      rw [hs] at h2
      simp only [cond_false]
      have hl := cells_length s y
      rw [nagg_one hs] at hl
      match hcs : cells s y, hl with
      | [z], _ =>
        rw [hcs] at hc
        obtain ⟨v', rfl, hv'⟩ := hc.one
        simp at h2
        subst h2
        exact hv'
  | p s =>
    have : VR1 γ w A H v u := by
      simp only [PK.arg, aPtr] at h
      split at h
      · exact hv
      · cases h
    exact aPtr_VR1 h this
  | f g caps =>
    simp only [PK.arg] at h
    split at h
    · rename_i g' vs
      obtain ⟨hg, h⟩ := cond_some h rfl
      have := Nat.eq_of_beq_eq_true hg
      subst this
      obtain ⟨us, h1, h2⟩ := hv
      exact ⟨us, h1, capsArg_VR1 caps vs us y h h2⟩
    · cases h

theorem pksV_len : ∀ (l : List PK) (xs : pksDen l), (pksV l xs).length = l.length
  | [], _ => rfl
  | _ :: l, xs => by simp [pksV, pksV_len l]

theorem pksArg_VR : ∀ (l : List PK) (vs : List V) (us : List Value) (xs : pksDen l), pksArg l vs = some xs → All2 (VR γ w A H) vs us → All2 (VR γ w A H) (pksV l xs) us
  | [], [], us, xs, h, hv => hv
  | s :: l, v :: vs, [], y, h, hv => hv.elim
  | s :: l, v :: vs, u :: us, y, h, hv => by
    simp only [pksArg] at h
    obtain ⟨y1, h1, h⟩ := Option.bind_eq_some_iff.1 h
    obtain ⟨y2, h2, h⟩ := Option.bind_eq_some_iff.1 h
    cases h
    exact ⟨PK.arg_val h1 hv.1, pksArg_VR l vs us y2 h2 hv.2⟩
  | [], _ :: _, _, _, h, _ => by cases h
  | _ :: _, [], _, _, h, _ => by cases h

/-! ### A function's contract -/

/-- The state in which a call begins. -/
theorem RS.start {pks : List PK} {xs : pksDen pks} {vs : List V} {args : List Value} {n : Nat} (hx : x.w0 = w) (hxB : x.B = w.heap.size) (hpin : ∀ k, x.pin k = none) (hA0 : ∀ b, x.A0 b → b < w.heap.size) (hv : pksArg pks vs = some xs)
    (hargs : All2 (VR noGam w x.A0 emp) vs args) : RS x noGam (st0 pks xs n) { tmps := args.toArray ++ Array.replicate (n - args.toArray.size) undef, defers := [] } w := by
  have h1 := pksArg_VR pks vs args xs hv hargs
  have hlen := h1.length
  rw [pksV_len] at hlen
  have hav : ∀ b, x.A0 b → Av x noGam w b ∧ w.heap[b]? = w.heap[b]? := fun b hb => ⟨⟨hA0 b hb, fun _ => hb, fun k c h => by cases h⟩, rfl⟩
  refine ⟨⟨by omega, by rw [hx], by rw [hx], by rw [hx], fun b _ _ => by rw [hx], fun k i h => (by cases h), fun k b c h => (by cases h), fun k k' b c c' h => (by cases h), fun k i h => by rw [hpin k] at h; cases h⟩, ?_, ?_, rfl⟩
  · simp only [st0, List.length_append, pksV_len, List.length_replicate, Array.size_append, List.size_toArray, Array.size_replicate]
    omega
  · intro t v hv'
    simp only [st0, List.getElem?_append] at hv'
    split at hv'
    · rename_i hlt
      obtain ⟨u, hu, hvr⟩ := h1.get hv'
      have : (args.toArray ++ Array.replicate (n - args.toArray.size) undef).getD t undef = u := by
        have hta : t < args.length := (List.getElem?_eq_some_iff.1 hu).1
        rw [Array.getD_eq_getD_getElem?, Array.getElem?_append_left (by simpa using hta)]
        simp [hu]
      rw [this]
      exact VR.mono hav v u hvr
    · rw [List.getElem?_replicate] at hv'
      split at hv'
      · cases hv'
        trivial
      · cases hv'

theorem FC.of_runG (hT : TabOK P E.T) (hE : EqsOK P E.T) (hphi : EnvOK P E) (hpar : EnvPar E) (hm : P.follows .mixedOrders = true) {sc : Scp} (hsc : ∀ x, ScOK P x sc) {g : FuncId} {fn : Func} {c : Code} {an : Ann} {pks : List PK} {rks : List RK} {xs : pksDen pks} {vs : List V}
    {r : rksDen rks} (hf : P.funcs[g]? = some fn) (hb : fn.body = some c) (hrk : rksOK E.T fn.results.toList rks = true) (hv : pksArg pks vs = some xs) (h : runG E sc c an (rtG rks) (fun _ _ => none) (rtG rks) (st0 pks xs fn.ntmps) = some r) : FC P g vs (rets rks r) := by
  intro w A0 args hA0 hargs
  let x : Cx := { B := w.heap.size, M := fun _ => False, A0 := A0, w0 := w, ma := fun _ h => h.elim }
  have hr := RS.start (x := x) (n := fn.ntmps) rfl rfl (fun _ => rfl) hA0 hv hargs
  have fin : ∀ st γ a w', rtG rks st = some r → RS x γ st a w' → a.defers = [] ∧ ∃ v, (results fn a.tmps).run P w' = .ok v w' ∧ (Grows w w' ∧ RetR w w' A0 (rets rks r) v) := by
    intro st γ a w' hrt hr'
    obtain ⟨u, h1, h2⟩ := rtG_RetR (w0 := w) hT hr' rfl (fun _ h => h) hrk hrt
    exact ⟨hr'.nod, u, h1, ⟨hr'.inv.size, hr'.inv.os, hr'.inv.tape, hr'.inv.output, fun b hb => hr'.inv.blk b hb (fun h => h)⟩, h2⟩
  refine calls_of_wp hf hb (runG_sound hT hE hphi hpar hm (hsc x) c an _ _ _ _ _ _ _ _ h hr ⟨?_, ?_, ?_⟩)
  · intro st γ a w' hrt hr'
    exact fin st γ a w' hrt hr'
  · intro j st γ a w' hrt hr'
    cases hrt
  · intro st γ a w' hrt hr'
    exact fin st γ a w' hrt hr'

/-- A callee's place in what is called. -/
def FCs (P : Program) (g : FuncId) (F : List V → (ρ : Type) → (Ret → Option ρ) → Option ρ) : Prop :=
  ∀ vs ρ (K : Ret → Option ρ) r, F vs ρ K = some r → ∃ ret, K ret = some r ∧ FC P g vs ret

def Par1 (F : List V → (ρ : Type) → (Ret → Option ρ) → Option ρ) : Prop :=
  ∀ vs (ρ : Type) (K : Ret → Option ρ) r, F vs ρ K = some r → ∃ ret, K ret = some r ∧ ∀ (ρ' : Type) (K' : Ret → Option ρ'), F vs ρ' K' = K' ret

def CallOK (P : Program) (g : FuncId) : Prop := ∀ args w, (callFunc g args).run P w = .ok (.enter g args) w

theorem callOK_of {g : FuncId} {fn : Func} (hf : P.funcs[g]? = some fn) (hn : (fn.name == "runtime.NumGoroutine") = false) (hb : fn.body.isNone = false) : CallOK P g := by
  intro args w
  unfold callFunc
  simp only [Sem.run_bind]
  have : (program : Sem Program).run P w = .ok P w := rfl
  rw [this]
  simp only [Result.andThen_ok, hf, hn, hb, Bool.false_eq_true, if_false, Sem.run_pure]

theorem phiOf_FCs {g : FuncId} {pks : List PK} {rks : List RK} {S : pksDen pks → Option (rksDen rks)} (h : ∀ xs r, S xs = some r → ∀ vs, pksArg pks vs = some xs → FC P g vs (rets rks r)) : FCs P g (phiOf pks rks S) := by
  intro vs ρ K r hk
  unfold phiOf at hk
  obtain ⟨xs, h1, hk⟩ := Option.bind_eq_some_iff.1 hk
  obtain ⟨y, h2, hk⟩ := Option.bind_eq_some_iff.1 hk
  exact ⟨_, hk, h xs y h2 vs h1⟩

theorem phiOf_Par1 {pks : List PK} {rks : List RK} {S : pksDen pks → Option (rksDen rks)} : Par1 (phiOf pks rks S) := by
  intro vs ρ K r hk
  unfold phiOf at hk
  obtain ⟨xs, h1, hk⟩ := Option.bind_eq_some_iff.1 hk
  obtain ⟨y, h2, hk⟩ := Option.bind_eq_some_iff.1 hk
  refine ⟨_, hk, fun ρ' K' => ?_⟩
  simp only [phiOf, h1, Option.bind_some, h2]

def noPhi : Phi := fun _ _ _ _ => none
theorem noPhi_ok : PhiOK P noPhi := by intro g vs ρ K r h; cases h
theorem noPhi_par : PhiPar noPhi := by intro g vs ρ K r h; cases h

/-- One callee more. -/
def consPhi (g : FuncId) (q : List V → Bool) (F : List V → (ρ : Type) → (Ret → Option ρ) → Option ρ) (phi : Phi) : Phi := fun g' vs ρ K => bif Nat.beq g' g && q vs then F vs ρ K else phi g' vs ρ K

theorem consPhi_ok {g : FuncId} {q : List V → Bool} {F : List V → (ρ : Type) → (Ret → Option ρ) → Option ρ} {phi : Phi} (hF : FCs P g F) (hc : CallOK P g) (h : PhiOK P phi) : PhiOK P (consPhi g q F phi) := by
  intro g' vs ρ K r hk
  unfold consPhi at hk
  cases hb : Nat.beq g' g && q vs with
  | true =>
    rw [hb] at hk
    rw [Bool.and_eq_true] at hb
    have := Nat.eq_of_beq_eq_true hb.1
    subst this
    obtain ⟨ret, h1, h2⟩ := hF vs ρ K r hk
    exact ⟨ret, h1, h2, hc⟩
  | false =>
    rw [hb] at hk
    exact h g' vs ρ K r hk

theorem consPhi_par {g : FuncId} {q : List V → Bool} {F : List V → (ρ : Type) → (Ret → Option ρ) → Option ρ} {phi : Phi} (hF : Par1 F) (h : PhiPar phi) : PhiPar (consPhi g q F phi) := by
  intro g' vs ρ K r hk
  unfold consPhi at hk ⊢
  cases hb : Nat.beq g' g && q vs with
  | true =>
    rw [hb] at hk
    exact hF vs ρ K r hk
  | false =>
    rw [hb] at hk
    exact h g' vs ρ K r hk

theorem eqsB_ok {T : Tab} (h : T.eqs.all (eqsB P) = true) : EqsOK P T :=
  ⟨fun t s hl => List.all_eq_true.1 h _ (look_mem hl)⟩

end
end Go.Vi
