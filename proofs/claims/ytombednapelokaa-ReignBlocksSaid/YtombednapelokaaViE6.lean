/-
  Vi: every operation.
-/
import Derived.Test.YtombednapelokaaViE7
set_option linter.unusedVariables false
set_option linter.unusedSimpArgs false
namespace Go.Vi
open Op

variable {P : Program} {E : Env} {o : Oper} {ρ : Type} {r : ρ} {x : Cx} {γ : Gam} {H : Heap} {w : World} {a : Act} {st : St} {K : St → Option ρ}

theorem evalE_eff (hT : TabOK P E.T) (hphi : EnvOK P E) (h : evalE E o st ρ K = some r) (hr : RS x γ st a w) : Eff P o K r x a w := by
  cases ho : o.op with
  | store t p y => exact E_store hT ho h hr
  | mapUpdate t p q y => exact E_mapUpdate hT ho h hr
  | buildSlice t n ps => exact E_buildSlice hT ho h hr
  | call c =>
    cases hc : c.callee with
    | builtin b =>
      cases b with
      | append => exact E_append hT ho hc h hr
      | copy => exact E_copy hT ho hc h hr
      | delete => exact E_delete hT ho hc h hr
      | _ => simp only [evalE, ho, hc] at h; cases h
    | value f => exact E_callv hT hphi ho hc h hr
    | invoke rv m => simp only [evalE, ho, hc] at h; cases h
  | _ => simp only [evalE, ho] at h; cases h

theorem evalOp_eff {all : List Oper} (hT : TabOK P E.T) (hE : EqsOK P E.T) (hphi : EnvOK P E) (h : evalOp E all o st ρ K = some r) (hr : RS x γ st a w) : Eff P o K r x a w := by
  unfold evalOp at h
  simp only [fTm_eq] at h
  cases he : isEff E all o with
  | true =>
    rw [he] at h
    exact evalE_eff hT hphi h hr
  | false =>
    rw [he] at h
    exact E_pure (fun v obs hk => cond_some hk rfl) (evalP_good hT hE hphi.1 h hr.inv hr.ops') hr

end Go.Vi
