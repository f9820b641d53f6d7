/- Texts of this claim, joined: Pj to Pw. -/
import Derived.Test.YtnlbhjmbaedadaaQPressJohnson1
set_option linter.unusedVariables false
set_option linter.unusedSimpArgs false
namespace Go.Proofs.Ytnlbhjmbaedadaa
open Go.Vi
theorem tmod_ok {x y : Int} (h0 : 0 ≤ x) (hy : 0 < y) : Int.tmod x y = x % y := Int.tmod_eq_emod_of_nonneg h0
def By (x : Int) : Prop := 0 ≤ x ∧ x ≤ 255
def gm (t : Int) (x : Int × Int) : Int × Int := (x.1 % (t + 1), x.2 % (t + 1))
theorem made_loop (n : Nat × Nat) (t : Int) (ht : 1 ≤ t ∧ t ≤ 50) (q : List (Int × Int)) (hq : ∀ x ∈ q, By x.1 ∧ By x.2) (hl : q.length ≤ 7) : ∀ (m k : Nat), k ≤ q.length → q.length - k < m → DL43_1 n m t q (q.length : Int) (k : Int) ((q.take k).map (gm t)) = some (q.map (gm t))
  | 0, k, _, h => by omega
  | m + 1, k, hk, h => by
    rw [DL43_1_succ]
    unfold DF43_1
    by_cases hlt : k < q.length
    · have ih := made_loop n t ht q hq hl m (k + 1) (by omega) (by omega)
      obtain ⟨h1, h2⟩ := hq _ (List.getElem_mem hlt)
      unfold By at h1 h2
      rw [dlt_t hlt, cond_true, show inB 0 2 = true from rfl, show inB 1 2 = true from rfl, idx_nat hlt, Option.bind_some, cond_true, wr_succ (by omega), wr_ok (x := t + 1) (by omega) (by omega), show (t + 1 == 0) = false by simp; omega]
      rw [show idx [q[k].1, q[k].2] 0 = some q[k].1 from rfl, show idx [q[k].1, q[k].2] 1 = some q[k].2 from rfl]
      simp only [Option.bind_some, cond_true, cond_false]
      rw [lim_dec (by simp; omega), cond_true, wr_ok (x := q[k].1) (by omega) (by omega), wr_ok (x := q[k].2) (by omega) (by omega), tmod_ok h1.1 (by omega), tmod_ok h2.1 (by omega), ← ih, take_snoc hlt, List.map_append]
      rfl
    · rw [dlt_f hlt, cond_false, List.take_of_length_le (by omega)]
abbrev Fm := Int × Int × (Int × Int) × (Int × Int) × (Int × Int) × (Int × Int) × (Int × Int) × (Int × Int) × Int × Int
def FmOk (f : Fm) : Prop := By f.1 ∧ By f.2.1 ∧ ∀ x ∈ [f.2.2.1, f.2.2.2.1, f.2.2.2.2.1, f.2.2.2.2.2.1, f.2.2.2.2.2.2.1, f.2.2.2.2.2.2.2.1, f.2.2.2.2.2.2.2.2], By x.1 ∧ By x.2
/-- Sheets by numbers are good ones. -/
theorem made_ex {n : Nat × Nat} (hn : 1000 ≤ n.1) {f : Fm} (hf : FmOk f) {most : Int} (hm : 1 ≤ most ∧ most ≤ 7) : ∃ l, D43 n f most = some l ∧ Good l ∧ l.length ≤ most := by
  obtain ⟨h1, h2, h3⟩ := hf
  unfold By at h1 h2
  unfold D43
  have e1 : 0 ≤ f.1 % most := Int.emod_nonneg _ (by omega)
  have e2 : f.1 % most < most := Int.emod_lt_of_pos _ (by omega)
  rw [show (50 == 0) = false from rfl, cond_false, show (most == 0) = false by simp; omega, cond_false, wr_ok (x := f.1) (by omega) (by omega), wr_ok (x := f.2.1) (by omega) (by omega), tmod_ok h1.1 (by omega), tmod_ok h2.1 (by omega), wr_ok (x := 1 + f.1 % most) (by omega) (by omega), wr_ok (x := f.2.1 % 50 + 1) (by omega) (by omega)]
  rw [show bounds none (some (1 + f.1 % most)) none 7 = true by simp [bounds]; omega, cond_true]
  revert h3
  generalize hq : [f.2.2.1, f.2.2.2.1, f.2.2.2.2.1, f.2.2.2.2.2.1, f.2.2.2.2.2.2.1, f.2.2.2.2.2.2.2.1, f.2.2.2.2.2.2.2.2] = q
  have hq7 : q.length = 7 := by rw [← hq]; rfl
  intro h3
  have hlen : (q.take (1 + f.1 % most).toNat).length = (1 + f.1 % most).toNat := by rw [List.length_take]; omega
  have := made_loop n (f.2.1 % 50 + 1) (by omega) (q.take (1 + f.1 % most).toNat) (fun x hx => h3 x (List.mem_of_mem_take hx)) (by omega) n.1 0 (by omega) (by omega)
  refine ⟨(q.take (1 + f.1 % most).toNat).map (gm (f.2.1 % 50 + 1)), this, ⟨by rw [List.length_map]; omega, by rw [List.length_map]; omega, fun s hs => ?_⟩, by rw [List.length_map]; omega⟩
  obtain ⟨x, _, e⟩ := List.mem_map.1 hs
  rw [← e]
  unfold Ok gm
  have a1 := Int.emod_nonneg x.1 (b := f.2.1 % 50 + 1 + 1) (by omega)
  have a2 := Int.emod_lt_of_pos x.1 (b := f.2.1 % 50 + 1 + 1) (by omega)
  have a3 := Int.emod_nonneg x.2 (b := f.2.1 % 50 + 1 + 1) (by omega)
  have a4 := Int.emod_lt_of_pos x.2 (b := f.2.1 % 50 + 1 + 1) (by omega)
  simp only []
  omega
/-- Greatest sums of places: when sheets are printed. -/
theorem enp_get : ∀ {l : List (Int × Int)} {a b : Int} {k : Nat} (h : k < (enp a b l).length), (enp a b l)[k] = tm a b (l.take (k + 1))
  | [], a, b, k, h => by simp [enp] at h
  | s :: l, a, b, 0, h => by simp [enp, tm]
  | s :: l, a, b, k + 1, h => by
    simp only [enp, List.getElem_cons_succ, List.take_succ_cons, tm]
    exact enp_get _
theorem enp_len' : ∀ (l : List (Int × Int)) (a b : Int), (enp a b l).length = l.length
  | [], _, _ => rfl
  | s :: l, a, b => by simp only [enp, List.length_cons, enp_len' l]
theorem pk_take (l : List (Int × Int)) (o : List Int) (k : Nat) : pk l (o.take k) = (pk l o).take k := by simp [pk, List.map_take]
theorem pk_drop (l : List (Int × Int)) (o : List Int) (k : Nat) : pk l (o.drop k) = (pk l o).drop k := by simp [pk, List.map_drop]
theorem pk_cons (l : List (Int × Int)) (i : Int) (o : List Int) : pk l (i :: o) = sh l i :: pk l o := rfl
theorem add2_loop (n : Nat × Nat) {l : List (Int × Int)} (hg : Good l) (f1 : (List (Int × Int)) → List Int → Int → Int → List Int → Option R49) (f2 : (List (Int × Int)) → List Int → Int → Int → Int → Int → Int → Int → List Int → Option R49) (o : List Int) (p most a b c d : Int) (out : List Int) (q : List Int) (hq : ∀ i ∈ q, 0 ≤ i ∧ i < l.length) (hl : q.length ≤ 7) :
    ∀ (m k : Nat) (v : Int), k ≤ q.length → q.length - k < m → 0 ≤ v → v ≤ 1000 + 50 * k →
    DL49_4 n f1 f2 m l o p most v a b c d q (q.length : Int) (k : Int) out = f2 l o p (max most (v + s2 (pk l (q.drop k)))) a b c (wr .i64 (d + 1)) out
  | 0, k, v, _, h, _, _ => by omega
  | m + 1, k, v, hk, h, v0, v1 => by
    rw [DL49_4_succ]
    unfold DF49_4
    by_cases hlt : k < q.length
    · have hi := hq _ (List.getElem_mem hlt)
      have ho := hg.ok _ (sh_mem hi.1 hi.2)
      unfold Ok at ho
      have ih := add2_loop n hg f1 f2 o p most a b c d out q hq hl m (k + 1) (v + (sh l q[k]).2) (by omega) (by omega) (by omega) (by omega)
      rw [dlt_t hlt, cond_true, idx_nat hlt, Option.bind_some, idx_sh hi.1 hi.2, Option.bind_some, wr_succ (by omega), wr_ok (x := v + (sh l q[k]).2) (by omega) (by omega), ih, drop_cons hlt, pk_cons, s2, Int.add_assoc]
    · rw [dlt_f hlt, cond_false, List.drop_of_length_le (by omega), max_if]
      simp [pk, s2]
theorem add1_loop (n : Nat × Nat) (hn : 1000 ≤ n.1) {l : List (Int × Int)} (hg : Good l) (f1 : (List (Int × Int)) → List Int → Int → Int → List Int → Option R49) (f2 : (List (Int × Int)) → List Int → Int → Int → Int → Int → Int → Int → List Int → Option R49) {o : List Int} (ho : Ord l.length o) {p r : Nat} (hr : r ≤ p) (hp : p < o.length) (most a b c d : Int) (out : List Int) (q : List Int) (hq : ∀ i ∈ q, 0 ≤ i ∧ i < l.length) (hl : q.length ≤ 7) :
    ∀ (m k : Nat) (v : Int), k ≤ q.length → q.length - k < m → 0 ≤ v → v ≤ 50 * k →
    DL49_3 n f1 f2 m l o (p : Int) most (r : Int) v a b c d q (q.length : Int) (k : Int) out = f2 l o (p : Int) (max most (v + s1 (pk l (q.drop k)) + s2 (((pk l o).take (p + 1)).drop r))) a b c (wr .i64 (d + 1)) out
  | 0, k, v, _, h, _, _ => by omega
  | m + 1, k, v, hk, h, v0, v1 => by
    have hl' := ho.len
    have h7 := hg.len
    rw [DL49_3_succ]
    unfold DF49_3
    by_cases hlt : k < q.length
    · have hi := hq _ (List.getElem_mem hlt)
      have hok := hg.ok _ (sh_mem hi.1 hi.2)
      unfold Ok at hok
      have ih := add1_loop n hn hg f1 f2 ho hr hp most a b c d out q hq hl m (k + 1) (v + (sh l q[k]).1) (by omega) (by omega) (by omega) (by omega)
      rw [dlt_t hlt, cond_true, idx_nat hlt, Option.bind_some, idx_sh hi.1 hi.2, Option.bind_some, wr_succ (by omega), wr_ok (x := v + (sh l q[k]).1) (by omega) (by omega), ih, drop_cons hlt, pk_cons, s1, Int.add_assoc v]
    · rw [dlt_f hlt, cond_false, wr_succ (by omega), show bounds (some (r : Int)) (some ((p + 1 : Nat) : Int)) none o.length = true by simp [bounds]; omega, cond_true, Int.toNat_natCast, Int.toNat_natCast]
      have := add2_loop n hg f1 f2 o (p : Int) most a b c d out ((o.take (p + 1)).drop r) (fun i hi => ho.rng i (List.mem_of_mem_take (List.mem_of_mem_drop hi))) (by simp; omega) n.1 0 v (by omega) (by simp; omega) v0 (by omega)
      refine this.trans ?_
      rw [List.drop_zero, pk_drop, pk_take, List.drop_of_length_le (by omega : q.length ≤ k)]
      simp [pk, s1]
theorem most_loop (n : Nat × Nat) (hn : 1000 ≤ n.1) {l : List (Int × Int)} (hg : Good l) (f1 : (List (Int × Int)) → List Int → Int → Int → List Int → Option R49) {o : List Int} (ho : Ord l.length o) {p : Nat} (hp : p < o.length) (out : List Int) (hout : out.length < 1000) :
    ∀ (m k : Nat) (most : Int), k ≤ p + 1 → p + 1 - k < m →
    DL49_2 n f1 m l o (p : Int) most (o.length : Int) (p : Int) ((p + 1 : Nat) : Int) (k : Int) out = f1 l o (o.length : Int) (wr .i64 ((p : Int) + 1)) (out ++ [((sms 0 ((pk l o).take (p + 1))).drop k).foldl max most])
  | 0, k, most, _, h => by omega
  | m + 1, k, most, hk, h => by
    have hl' := ho.len
    have h7 := hg.len
    have hlen : ((pk l o).take (p + 1)).length = p + 1 := by rw [List.length_take, pk_len]; omega
    rw [DL49_2_succ]
    unfold DF49_2
    by_cases hlt : k < p + 1
    · have ih := most_loop n hn hg f1 ho hp out hout m (k + 1) (max most ((sms 0 ((pk l o).take (p + 1)))[k]'(by rw [sms_len]; omega))) (by omega) (by omega)
      rw [dlt_t hlt, cond_true, wr_succ (by omega), show bounds none (some ((k + 1 : Nat) : Int)) none o.length = true by simp [bounds]; omega, cond_true, Int.toNat_natCast]
      have := add1_loop n hn hg f1 (DL49_2 n f1 m) ho (show k ≤ p by omega) hp most (o.length : Int) (p : Int) ((p + 1 : Nat) : Int) (k : Int) out (o.take (k + 1)) (fun i hi => ho.rng i (List.mem_of_mem_take hi)) (by simp; omega) n.1 0 0 (by omega) (by simp; omega) (by omega) (by omega)
      refine this.trans ?_
      rw [wr_succ (by omega), drop_cons (l := sms 0 ((pk l o).take (p + 1))) (k := k) (by rw [sms_len]; omega), List.foldl_cons, ← ih, sms_get (by omega)]
      congr 2
      rw [List.drop_zero, pk_take, List.take_take, show min (k + 1) (p + 1) = k + 1 by omega]
    · rw [dlt_f hlt, cond_false, lim_dec (by omega), cond_true, List.drop_of_length_le (by rw [sms_len]; omega)]
      rfl
theorem tm_foldl {l : List (Int × Int)} (hb : ∀ s ∈ l, Ok s) : (sms 0 l).foldl max 0 = tm 0 0 l := by
  match l with
  | [] => rfl
  | s :: l =>
    have ho := hb s (by simp)
    have h2 := (s2_bnd (l := l) (fun s hs => hb s (by simp [hs]))).1
    unfold Ok at ho
    rw [tm_cons ho.1]
    simp only [sms, List.foldl_cons, Int.zero_add]
    congr 1
    omega
theorem printed_loop (n : Nat × Nat) (hn : 1000 ≤ n.1) {l : List (Int × Int)} (hg : Good l) {o : List Int} (ho : Ord l.length o) : ∀ (m k : Nat), k ≤ o.length → o.length - k < m →
    DL49_1 n m l o (o.length : Int) (k : Int) ((enp 0 0 (pk l o)).take k) = some (enp 0 0 (pk l o))
  | 0, k, _, h => by omega
  | m + 1, k, hk, h => by
    have hl' := ho.len
    have h7 := hg.len
    have hlen := enp_len' (pk l o) 0 0
    rw [pk_len] at hlen
    rw [DL49_1_succ]
    unfold DF49_1
    by_cases hlt : k < o.length
    · have ih := printed_loop n hn hg ho m (k + 1) (by omega) (by omega)
      have := most_loop n hn hg (DL49_1 n m) ho hlt ((enp 0 0 (pk l o)).take k) (by simp; omega) n.1 0 0 (by omega) (by omega)
      rw [dlt_t hlt, cond_true, wr_succ (by omega)]
      refine this.trans ?_
      rw [wr_succ (by omega), ← ih, take_snoc (l := enp 0 0 (pk l o)) (by omega), List.drop_zero, tm_foldl (fun s hs => pk_ok hg ho s (List.mem_of_mem_take hs)), enp_get]
    · rw [dlt_f hlt, cond_false, List.take_of_length_le (by omega)]
theorem printed_eq {n : Nat × Nat} (hn : 1000 ≤ n.1) {l : List (Int × Int)} (hg : Good l) {o : List Int} (ho : Ord l.length o) : D49 n l o = some (enp 0 0 (pk l o)) := by
  have hl' := ho.len
  have h7 := hg.len
  unfold D49
  exact printed_loop n hn hg ho n.1 0 (by omega) (by omega)
theorem ltime_eq {n : Nat × Nat} (hn : 1000 ≤ n.1) {l : List (Int × Int)} (hg : Good l) {o : List Int} (ho : Ord l.length o) : D46 n l o = some (tm 0 0 (pk l o)) := by
  have hl' := ho.len
  have h7 := hg.len
  have hp := hg.pos
  have hlen := enp_len' (pk l o) 0 0
  rw [pk_len] at hlen
  unfold D46
  rw [printed_eq hn hg ho, Option.bind_some, wr_ok (by omega) (by omega), show (o.length : Int) - 1 = ((o.length - 1 : Nat) : Int) by omega, inB_nat (by omega), cond_true, idx_nat (by omega), Option.bind_some, enp_get, show o.length - 1 + 1 = (pk l o).length by rw [pk_len]; omega, List.take_length]
theorem two_hr {m : Int} (hm : m = 0 ∨ m = 1) (s : Int × Int) : idx [s.1, s.2] m = some (hr m s) := by
  rcases hm with e | e <;> subst e <;> rfl
theorem lbound_loop (n : Nat × Nat) (l : List (Int × Int)) (hl : l.length ≤ 7) (hb : ∀ s ∈ l, Ok s) (mc : Int) (hm : mc = 0 ∨ mc = 1) (h : Int) : ∀ (m k : Nat) (v : Int), k ≤ l.length → l.length - k < m → 0 ≤ v → v ≤ 1000 + 50 * k →
    DL47_1 n m mc h v l (l.length : Int) (k : Int) = some (v + cs mc h (l.drop k))
  | 0, k, v, _, h, _, _ => by omega
  | m + 1, k, v, hk, h', v0, v1 => by
    rw [DL47_1_succ]
    unfold DF47_1
    have hm' : 1 - mc = 0 ∨ 1 - mc = 1 := by omega
    have i1 : inB mc 2 = true := by rcases hm with e | e <;> subst e <;> rfl
    have i2 : inB (1 - mc) 2 = true := by rcases hm with e | e <;> subst e <;> rfl
    by_cases hlt : k < l.length
    · have ho := hb _ (List.getElem_mem hlt)
      have hcb := ct_bnd (m := mc) (h := h) ho
      have ih := lbound_loop n l hl hb mc hm h m (k + 1) (v + ct mc h l[k]) (by omega) (by omega) (by omega) (by omega)
      rw [dlt_t hlt, cond_true, idx_nat hlt, drop_cons hlt]
      simp only [D81, Option.bind_some, wr_ok (x := 1 - mc) (by omega) (by omega), i1, i2, cond_true, two_hr hm, two_hr hm', wr_succ (show k < 1000000 by omega), cs]
      have em : min (hr mc l[k]) (hr (1 - mc) l[k]) = min l[k].1 l[k].2 := by
        rcases hm with e | e <;> subst e
        · rfl
        · exact Int.min_comm _ _
      by_cases c : hr mc l[k] < h
      · have e : ct mc h l[k] = min (hr mc l[k]) (hr (1 - mc) l[k]) := by
          unfold ct
          rw [if_pos c, em]
        by_cases d : hr mc l[k] < hr (1 - mc) l[k]
        · rw [Int.min_eq_left (by omega)] at e
          rw [decide_eq_true c, decide_eq_true d]
          simp only [beq_self_eq_true, cond_true, Option.bind_some]
          rw [← e, wr_ok (by omega) (by omega), ih]
          congr 1
          omega
        · rw [Int.min_eq_right (by omega)] at e
          rw [decide_eq_true c, decide_eq_false d]
          simp only [beq_self_eq_true, cond_true, Option.bind_some, cond_false]
          rw [← e, wr_ok (by omega) (by omega), ih]
          congr 1
          omega
      · have e : ct mc h l[k] = hr (1 - mc) l[k] := by
          unfold ct
          rw [if_neg c]
        rw [decide_eq_false c]
        simp only [show (false == true) = false from rfl, cond_false, Option.bind_some]
        rw [← e, wr_ok (by omega) (by omega), ih]
        congr 1
        omega
    · rw [dlt_f hlt, cond_false, List.drop_of_length_le (by omega)]
      simp [cs]
theorem lbound_eq {n : Nat × Nat} (hn : 1000 ≤ n.1) {l : List (Int × Int)} (hg : Good l) {m k : Int} (hm : m = 0 ∨ m = 1) (hk : 0 ≤ k ∧ k < l.length) : D47 n l m k = some (bd l m k) := by
  have hb := hr_bnd (m := m) (hg.ok _ (sh_mem hk.1 hk.2))
  have h7 := hg.len
  unfold D47
  rw [idx_sh hk.1 hk.2]
  simp only [D81, Option.bind_some, two_hr hm]
  have := lbound_loop n l hg.len hg.ok m hm (hr m (sh l k)) n.1 0 (hr m (sh l k)) (by omega) (by omega) (by omega) (by omega)
  simpa [bd, bnd] using this
theorem orderly_loop (n : Nat × Nat) (hn : 1000 ≤ n.1) {L : Nat} (hL : L ≤ 7) {o : List Int} (ho : Ord L o) : ∀ (m k : Nat), k ≤ o.length → o.length - k < m → DL45_1 n m o (L : Int) o (o.length : Int) (k : Int) = some true
  | 0, k, _, h => by omega
  | m + 1, k, hk, h => by
    have hl := ho.len
    rw [DL45_1_succ]
    unfold DF45_1
    by_cases hlt : k < o.length
    · have ih := orderly_loop n hn hL ho m (k + 1) (by omega) (by omega)
      have hr := ho.rng _ (List.getElem_mem hlt)
      have hnd : o[k] ∉ o.take k := fun h => by
        have hn := ho.nodup
        rw [← List.take_append_drop k o, drop_cons hlt, List.nodup_append] at hn
        exact hn.2.2 _ h _ List.mem_cons_self rfl
      rw [dlt_t hlt, cond_true, idx_nat hlt, Option.bind_some, decide_eq_false (show ¬ o[k] < 0 by omega), decide_eq_false (show ¬ o[k] ≥ (L : Int) by omega)]
      simp only [beq_self_eq_true, cond_true, Option.bind_some]
      rw [show bounds none (some (k : Int)) none o.length = true by simp [bounds]; omega, cond_true, Int.toNat_natCast, contains_eq hn (by simp; omega), decide_eq_false hnd]
      simp only [Option.bind_some, cond_false]
      rw [wr_succ (by omega), ih]
    · rw [dlt_f hlt, cond_false]
theorem orderly_eq {n : Nat × Nat} (hn : 1000 ≤ n.1) {L : Nat} (hL : L ≤ 7) {o : List Int} (ho : Ord L o) : D45 n o (L : Int) = some true := by
  have hl := ho.len
  unfold D45
  rw [show ((o.length : Int) != (L : Int)) = false by simp [hl], cond_false]
  exact orderly_loop n hn hL ho n.1 0 (by omega) (by omega)
/-- All orders of n that begin with some numbers. -/
def ao (n : Nat) : Nat → List Int → List (List Int)
  | 0, p => [p]
  | d + 1, p => (ix n).flatMap fun i => if i ∈ p then [] else ao n d (p ++ [i])
/-- Of these the ones that take no more than some hours. -/
def bo (l : List (Int × Int)) (g : Int) : Nat → List Int → Int → Int → List (List Int)
  | 0, p, _, _ => [p]
  | d + 1, p, a, b => (ix l.length).flatMap fun i => if i ∈ p then [] else if max (a + (sh l i).1) b + (sh l i).2 ≤ g then bo l g d (p ++ [i]) (a + (sh l i).1) (max (a + (sh l i).1) b + (sh l i).2) else []
theorem ao_pre {n : Nat} : ∀ {d : Nat} {p o : List Int}, o ∈ ao n d p → ∃ r, o = p ++ r ∧ r.length = d
  | 0, p, o, h => by
    unfold ao at h
    rw [List.mem_singleton] at h
    exact ⟨[], by simp [h], rfl⟩
  | d + 1, p, o, h => by
    unfold ao at h
    obtain ⟨i, hi, h⟩ := List.mem_flatMap.1 h
    by_cases c : i ∈ p
    · rw [if_pos c] at h; simp at h
    · rw [if_neg c] at h
      obtain ⟨r, e, hr⟩ := ao_pre h
      exact ⟨i :: r, by rw [e]; simp, by simp [hr]⟩
theorem ao_ord {n : Nat} : ∀ {d : Nat} {p o : List Int}, p.length + d = n → (∀ i ∈ p, 0 ≤ i ∧ i < n) → p.Nodup → o ∈ ao n d p → Ord n o
  | 0, p, o, hl, hr, hn, h => by
    unfold ao at h
    rw [List.mem_singleton] at h
    subst h
    exact ⟨by omega, hr, hn⟩
  | d + 1, p, o, hl, hr, hn, h => by
    unfold ao at h
    obtain ⟨i, hi, h⟩ := List.mem_flatMap.1 h
    by_cases c : i ∈ p
    · rw [if_pos c] at h; simp at h
    · rw [if_neg c] at h
      refine ao_ord (by simp; omega) (fun j hj => ?_) ?_ h
      · rcases List.mem_append.1 hj with hj | hj
        · exact hr j hj
        · rw [List.mem_singleton] at hj; subst hj; exact ix_mem.1 hi
      · rw [List.nodup_append]
        refine ⟨hn, by simp, fun a ha b hb e => ?_⟩
        rw [List.mem_singleton] at hb
        subst hb e
        exact c ha
theorem ao_mem {n : Nat} : ∀ {d : Nat} {p r : List Int}, r.length = d → Ord n (p ++ r) → p ++ r ∈ ao n d p
  | 0, p, r, hl, ho => by
    rw [List.length_eq_zero_iff.1 hl]
    unfold ao
    simp
  | d + 1, p, [], hl, ho => by simp at hl
  | d + 1, p, i :: r, hl, ho => by
    unfold ao
    refine List.mem_flatMap.2 ⟨i, ix_mem.2 (ho.rng i (by simp)), ?_⟩
    have hn := ho.nodup
    rw [List.nodup_append] at hn
    rw [if_neg (fun h => hn.2.2 i h i (by simp) rfl)]
    have e : p ++ i :: r = (p ++ [i]) ++ r := by simp
    rw [e] at ho ⊢
    exact ao_mem (by simpa using hl) ho
theorem ao_iff {n : Nat} {o : List Int} : o ∈ ao n n [] ↔ Ord n o :=
  ⟨fun h => ao_ord (by simp) (fun i hi => by simp at hi) (by simp) h, fun h => by
    have := ao_mem (p := []) (r := o) h.len (by simpa using h)
    simpa using this⟩
theorem flat_len {α β : Type} {f : α → List β} {B : Nat} : ∀ {l : List α}, (∀ x ∈ l, (f x).length ≤ B) → (l.flatMap f).length ≤ l.length * B
  | [], _ => by simp
  | x :: l, h => by
    rw [List.flatMap_cons, List.length_append, List.length_cons, Nat.add_mul, Nat.one_mul]
    have := flat_len (l := l) (fun x hx => h x (by simp [hx]))
    have := h x (by simp)
    omega
theorem ao_len {n : Nat} (hn : n ≤ 7) : ∀ (d : Nat) (p : List Int), (ao n d p).length ≤ 7 ^ d
  | 0, p => by simp [ao]
  | d + 1, p => by
    unfold ao
    refine Nat.le_trans (flat_len (B := 7 ^ d) (fun i hi => ?_)) ?_
    · split
      · simp
      · exact ao_len hn d _
    · rw [ix_len, Nat.pow_succ, Nat.mul_comm]
      exact Nat.mul_le_mul_left _ hn
theorem filter_flatMap' {α β : Type} (q : β → Bool) (f : α → List β) : ∀ l : List α, (l.flatMap f).filter q = l.flatMap fun x => (f x).filter q
  | [] => rfl
  | x :: l => by rw [List.flatMap_cons, List.flatMap_cons, List.filter_append, filter_flatMap' q f l]
theorem flatMap_congr' {α β : Type} {f g : α → List β} : ∀ {l : List α}, (∀ x ∈ l, f x = g x) → l.flatMap f = l.flatMap g
  | [], _ => rfl
  | x :: l, h => by rw [List.flatMap_cons, List.flatMap_cons, h x (by simp), flatMap_congr' (fun x hx => h x (by simp [hx]))]
theorem s2_nn {l : List (Int × Int)} (hg : Good l) : ∀ {r : List Int}, (∀ i ∈ r, 0 ≤ i ∧ i < l.length) → 0 ≤ s2 (pk l r)
  | [], _ => by simp [pk, s2]
  | i :: r, h => by
    have := s2_nn hg (r := r) (fun i hi => h i (by simp [hi]))
    have hi := h i (by simp)
    have ho := hg.ok _ (sh_mem hi.1 hi.2)
    unfold Ok at ho
    rw [pk_cons', s2]
    omega
where pk_cons' {l : List (Int × Int)} {i : Int} {o : List Int} : pk l (i :: o) = sh l i :: pk l o := rfl
theorem bo_ao {l : List (Int × Int)} (hg : Good l) {g : Int} : ∀ {d : Nat} {p : List Int} {a b : Int}, p.length + d = l.length → (∀ i ∈ p, 0 ≤ i ∧ i < l.length) → p.Nodup → b ≤ g →
    bo l g d p a b = (ao l.length d p).filter fun o => decide (tm a b (pk l (o.drop p.length)) ≤ g)
  | 0, p, a, b, hl, hr, hn, hb => by
    unfold bo ao
    have : decide (tm a b (pk l (p.drop p.length)) ≤ g) = true := by
      rw [List.drop_length]
      exact decide_eq_true hb
    rw [List.filter_cons, this]
    rfl
  | d + 1, p, a, b, hl, hr, hn, hb => by
    unfold bo ao
    rw [filter_flatMap']
    apply flatMap_congr'
    intro i hi
    rw [ix_mem] at hi
    by_cases c : i ∈ p
    · rw [if_pos c, if_pos c]; rfl
    · rw [if_neg c, if_neg c]
      have hl' : (p ++ [i]).length + d = l.length := by simp; omega
      have hr' : ∀ j ∈ p ++ [i], 0 ≤ j ∧ j < l.length := fun j hj => by
        rcases List.mem_append.1 hj with hj | hj
        · exact hr j hj
        · rw [List.mem_singleton] at hj; subst hj; exact hi
      have hn' : (p ++ [i]).Nodup := by
        rw [List.nodup_append]
        refine ⟨hn, by simp, fun a ha b hb e => ?_⟩
        rw [List.mem_singleton] at hb
        subst hb e
        exact c ha
      have key : ∀ o ∈ ao l.length d (p ++ [i]), tm a b (pk l (o.drop p.length)) = tm (a + (sh l i).1) (max (a + (sh l i).1) b + (sh l i).2) (pk l (o.drop (p ++ [i]).length)) := by
        intro o ho
        obtain ⟨r, e, _⟩ := ao_pre ho
        subst e
        have e1 : (p ++ [i] ++ r).drop p.length = i :: r := by simp
        have e2 : (p ++ [i] ++ r).drop (p ++ [i]).length = r := List.drop_left
        rw [e1, e2]
        rfl
      by_cases e : max (a + (sh l i).1) b + (sh l i).2 ≤ g
      · rw [if_pos e, bo_ao hg hl' hr' hn' e]
        apply List.filter_congr
        intro o ho
        rw [key o ho]
      · rw [if_neg e, eq_comm, List.filter_eq_nil_iff]
        intro o ho h
        rw [decide_eq_true_iff, key o ho] at h
        have h1 := tm_low (a + (sh l i).1) (max (a + (sh l i).1) b + (sh l i).2) (pk l (o.drop (p ++ [i]).length))
        have ho' := ao_ord hl' hr' hn' ho
        have h2 := s2_nn hg (r := o.drop (p ++ [i]).length) (fun j hj => ho'.rng j (List.mem_of_mem_drop hj))
        omega
/-- The best orders. -/
def bests (l : List (Int × Int)) : List (List Int) := (ao l.length l.length []).filter fun o => decide (tm 0 0 (pk l o) ≤ best l)
theorem best_nn {l : List (Int × Int)} (hg : Good l) : 0 ≤ best l ∧ best l ≤ 1000 := by
  have := tm_bnd (pk_ok hg (rl_ord l))
  have h7 := hg.len
  rw [pk_len, (rl_ord l).len] at this
  unfold best
  omega
theorem bo_bests {l : List (Int × Int)} (hg : Good l) : bo l (best l) l.length [] 0 0 = bests l := by
  rw [bo_ao hg (by simp) (fun i hi => by simp at hi) (by simp) (best_nn hg).1]
  rfl
theorem bests_eq {l : List (Int × Int)} (hg : Good l) : bests l = (ao l.length l.length []).filter fun o => decide (tm 0 0 (pk l o) = best l) := by
  unfold bests
  apply List.filter_congr
  intro o ho
  have := rl_best hg (ao_iff.1 ho)
  exact decide_eq_decide.2 ⟨fun h => Int.le_antisymm h this, fun h => Int.le_of_eq h⟩
theorem bests_ne {l : List (Int × Int)} (hg : Good l) : rl l ∈ bests l := by
  unfold bests
  rw [List.mem_filter]
  exact ⟨ao_iff.2 (rl_ord l), decide_eq_true (Int.le_refl _)⟩
theorem bests_len {l : List (Int × Int)} (hg : Good l) : (bests l).length ≤ 823543 := by
  unfold bests
  refine Nat.le_trans (List.length_filter_le _ _) (Nat.le_trans (ao_len hg.len _ _) ?_)
  exact Nat.le_trans (Nat.pow_le_pow_right (by omega) hg.len) (by decide)
theorem ix_drop {n k : Nat} (h : k < n) : (ix n).drop k = (k : Int) :: (ix n).drop (k + 1) := by
  rw [drop_cons (by rw [ix_len]; exact h)]
  congr 1
  simp [ix]
theorem snoc_ok {n : Nat} {p : List Int} {i : Int} (hr : ∀ j ∈ p, 0 ≤ j ∧ j < n) (hi : 0 ≤ i ∧ i < n) : ∀ j ∈ p ++ [i], 0 ≤ j ∧ j < n := fun j hj => by
  rcases List.mem_append.1 hj with hj | hj
  · exact hr j hj
  · rw [List.mem_singleton] at hj; subst hj; exact hi
/-- The program's search: how many. -/
theorem count_loop (n : Nat × Nat) (hn : 1000 ≤ n.1) {l : List (Int × Int)} (hg : Good l) (g : Int) (SS : List Int → Int → Int → List (Int × Int) → Int → Int → Option R89f74io0001110) (d : Nat) (p : List Int) (hp : p.length + (d + 1) = l.length) (a b : Int) (a0 : 0 ≤ a) (a1 : a ≤ 50 * p.length) (b0 : 0 ≤ b) (b1 : b ≤ 100 * p.length)
    (hS : ∀ i c e cp : Int, 0 ≤ i ∧ i < l.length → 0 ≤ c → c ≤ 50 * (p.length + 1 : Nat) → 0 ≤ e → e ≤ 100 * (p.length + 1 : Nat) → 0 ≤ cp → cp + (bo l g d (p ++ [i]) c e).length ≤ 1000000 → SS (p ++ [i]) c e l cp g = some (true, l, cp + (bo l g d (p ++ [i]) c e).length, g, ())) :
    ∀ (m k : Nat) (cp : Int), k ≤ l.length → l.length - k < m → 0 ≤ cp → cp + (((ix l.length).drop k).flatMap fun i => if i ∈ p then [] else if max (a + (sh l i).1) b + (sh l i).2 ≤ g then bo l g d (p ++ [i]) (a + (sh l i).1) (max (a + (sh l i).1) b + (sh l i).2) else []).length ≤ 1000000 →
    DL89f74io0001110_1 n SS m p a b l (l.length : Int) (k : Int) g l cp = some (true, l, cp + (((ix l.length).drop k).flatMap fun i => if i ∈ p then [] else if max (a + (sh l i).1) b + (sh l i).2 ≤ g then bo l g d (p ++ [i]) (a + (sh l i).1) (max (a + (sh l i).1) b + (sh l i).2) else []).length, g, ())
  | 0, k, cp, _, h, _, _ => by omega
  | m + 1, k, cp, hk, h, c0, c1 => by
    have h7 := hg.len
    rw [DL89f74io0001110_1_succ]
    unfold DF89f74io0001110_1
    by_cases hlt : k < l.length
    · have hi : 0 ≤ (k : Int) ∧ (k : Int) < l.length := ⟨by omega, by omega⟩
      have ho := hg.ok _ (sh_mem hi.1 hi.2)
      have hj2 : ∀ cp : Int, DL89f74io0001110_2 n SS (DL89f74io0001110_1 n SS m) p a b l (l.length : Int) (k : Int) g l cp = DL89f74io0001110_1 n SS m p a b l (l.length : Int) (wr .i64 ((k : Int) + 1)) g l cp := fun cp => rfl
      have ih := count_loop n hn hg g SS d p hp a b a0 a1 b0 b1 hS m (k + 1)
      rw [ix_drop hlt, List.flatMap_cons, List.length_append] at c1 ⊢
      rw [dlt_t hlt, cond_true, idx_sh hi.1 hi.2, Option.bind_some, contains_eq hn (by omega), Option.bind_some, hj2]
      generalize sh l (k : Int) = s at *
      unfold Ok at ho
      rw [max_if, wr_ok (x := a + s.1) (by omega) (by omega), wr_ok (x := max (a + s.1) b + s.2) (by omega) (by omega), wr_succ (by omega)]
      by_cases c : (k : Int) ∈ p
      · rw [decide_eq_true c, cond_true]
        rw [if_pos c] at c1 ⊢
        rw [ih cp (by omega) (by omega) c0 (by simpa using c1)]
        simp
      · rw [decide_eq_false c, cond_false]
        rw [if_neg c] at c1 ⊢
        by_cases e : max (a + s.1) b + s.2 ≤ g
        · rw [if_pos e] at c1 ⊢
          rw [decide_eq_true e]
          simp only [beq_self_eq_true, cond_true]
          rw [show (true && bounds none (some (p.length : Int)) (some (p.length : Int)) p.length) = true by simp [bounds], cond_true, Int.toNat_natCast, List.take_length, lim_dec (by omega)]
          rw [show (true && (p.isEmpty || ![(k : Int)].isEmpty)) = true by simp, cond_true, hS (k : Int) _ _ cp hi (by omega) (by omega) (by omega) (by omega) c0 (by omega)]
          simp only [Option.bind_some, Bool.not_true, cond_false]
          have := ih (cp + (bo l g d (p ++ [(k : Int)]) (a + s.1) (max (a + s.1) b + s.2)).length) (by omega) (by omega) (by omega) (by omega)
          rw [hj2, wr_succ (by omega), this]
          simp only [Int.natCast_add, Int.add_assoc]
        · rw [if_neg e] at c1 ⊢
          rw [decide_eq_false e]
          simp only [show (false == true) = false from rfl, cond_false]
          refine (show _ = _ from rfl).trans ((ih cp (by omega) (by omega) c0 (by simpa using c1)).trans ?_)
          simp
    · have : k = l.length := by omega
      subst this
      rw [dlt_f (by omega), cond_false, List.drop_of_length_le (by rw [ix_len]; omega)]
      simp
theorem count_rec (n : Nat × Nat) (hn : 1000 ≤ n.1) {l : List (Int × Int)} (hg : Good l) (g : Int) : ∀ (d t : Nat) (p : List Int) (a b cp : Int), d < t → p.length + d = l.length → (∀ j ∈ p, 0 ≤ j ∧ j < l.length) → 0 ≤ a → a ≤ 50 * p.length → 0 ≤ b → b ≤ 100 * p.length → 0 ≤ cp → cp + (bo l g d p a b).length ≤ 1000000 →
    DT89f74io0001110 n t p a b l cp g = some (true, l, cp + (bo l g d p a b).length, g, ())
  | _, 0, _, _, _, _, h, _, _, _, _, _, _, _, _ => by omega
  | 0, t + 1, p, a, b, cp, h, hp, hr, a0, a1, b0, b1, c0, c1 => by
    rw [DT89f74io0001110_succ]
    unfold DB89f74io0001110
    rw [show ((p.length : Int) == (l.length : Int)) = true by simp; omega, cond_true]
    unfold D74io01
    simp only [bo, List.length_singleton] at c1 ⊢
    rw [Option.bind_some, wr_ok (by omega) (by omega)]
    rfl
  | d + 1, t + 1, p, a, b, cp, h, hp, hr, a0, a1, b0, b1, c0, c1 => by
    rw [DT89f74io0001110_succ]
    unfold DB89f74io0001110
    rw [show ((p.length : Int) == (l.length : Int)) = false from beq_false_of_ne (by omega), cond_false]
    have h7 := hg.len
    have := count_loop n hn hg g (DT89f74io0001110 n t) d p hp a b a0 a1 b0 b1 (fun i c e cp hi c0 c1 e0 e1 p0 p1 => by
      exact count_rec n hn hg g d t (p ++ [i]) c e cp (by omega) (by simp; omega) (snoc_ok hr hi) c0 (by simpa using c1) e0 (by simpa using e1) p0 p1) n.1 0 cp (by omega) (by omega) c0 (by simpa [bo] using c1)
    simpa [bo] using this
/-- The program's search: the first one. -/
def fo (l : List (Int × Int)) (g : Int) (cp : List Int) : List (List Int) → R89f72io0001110
  | [] => (true, l, cp, g, ())
  | o :: _ => (false, l, o, g, ())
theorem fo_append (l : List (Int × Int)) (g : Int) (cp : List Int) (A B : List (List Int)) : fo l g cp (A ++ B) = if A = [] then fo l g cp B else fo l g cp A := by
  cases A with
  | nil => simp
  | cons o A => simp [fo]
theorem first_loop (n : Nat × Nat) (hn : 1000 ≤ n.1) {l : List (Int × Int)} (hg : Good l) (g : Int) (SS : List Int → Int → Int → List (Int × Int) → List Int → Int → Option R89f72io0001110) (d : Nat) (p : List Int) (hp : p.length + (d + 1) = l.length) (a b : Int) (a0 : 0 ≤ a) (a1 : a ≤ 50 * p.length) (b0 : 0 ≤ b) (b1 : b ≤ 100 * p.length) (cp : List Int)
    (hS : ∀ i c e : Int, 0 ≤ i ∧ i < l.length → 0 ≤ c → c ≤ 50 * (p.length + 1 : Nat) → 0 ≤ e → e ≤ 100 * (p.length + 1 : Nat) → SS (p ++ [i]) c e l cp g = some (fo l g cp (bo l g d (p ++ [i]) c e))) :
    ∀ (m k : Nat), k ≤ l.length → l.length - k < m →
    DL89f72io0001110_1 n SS m p a b l (l.length : Int) (k : Int) g l cp = some (fo l g cp (((ix l.length).drop k).flatMap fun i => if i ∈ p then [] else if max (a + (sh l i).1) b + (sh l i).2 ≤ g then bo l g d (p ++ [i]) (a + (sh l i).1) (max (a + (sh l i).1) b + (sh l i).2) else []))
  | 0, k, _, h => by omega
  | m + 1, k, hk, h => by
    have h7 := hg.len
    rw [DL89f72io0001110_1_succ]
    unfold DF89f72io0001110_1
    by_cases hlt : k < l.length
    · have hi : 0 ≤ (k : Int) ∧ (k : Int) < l.length := ⟨by omega, by omega⟩
      have ho := hg.ok _ (sh_mem hi.1 hi.2)
      have hj2 : ∀ cp : List Int, DL89f72io0001110_2 n SS (DL89f72io0001110_1 n SS m) p a b l (l.length : Int) (k : Int) g l cp = DL89f72io0001110_1 n SS m p a b l (l.length : Int) (wr .i64 ((k : Int) + 1)) g l cp := fun cp => rfl
      have ih := first_loop n hn hg g SS d p hp a b a0 a1 b0 b1 cp hS m (k + 1) (by omega) (by omega)
      rw [ix_drop hlt, List.flatMap_cons, fo_append]
      rw [dlt_t hlt, cond_true, idx_sh hi.1 hi.2, Option.bind_some, contains_eq hn (by omega), Option.bind_some, hj2]
      generalize sh l (k : Int) = s at *
      unfold Ok at ho
      rw [max_if, wr_ok (x := a + s.1) (by omega) (by omega), wr_ok (x := max (a + s.1) b + s.2) (by omega) (by omega), wr_succ (by omega)]
      by_cases c : (k : Int) ∈ p
      · rw [decide_eq_true c, cond_true, if_pos c, if_pos rfl, ih]
      · rw [decide_eq_false c, cond_false, if_neg c]
        by_cases e : max (a + s.1) b + s.2 ≤ g
        · rw [if_pos e, decide_eq_true e]
          simp only [beq_self_eq_true, cond_true]
          rw [show (true && bounds none (some (p.length : Int)) (some (p.length : Int)) p.length) = true by simp [bounds], cond_true, Int.toNat_natCast, List.take_length, lim_dec (by omega)]
          rw [show (true && (p.isEmpty || ![(k : Int)].isEmpty)) = true by simp, cond_true, hS (k : Int) _ _ hi (by omega) (by omega) (by omega) (by omega)]
          cases bo l g d (p ++ [(k : Int)]) (a + s.1) (max (a + s.1) b + s.2) with
          | nil =>
            rw [if_pos rfl, ← ih, ← wr_succ (by omega), ← hj2]
            rfl
          | cons o A =>
            rw [if_neg (by simp)]
            simp only [fo, Option.bind_some, Bool.not_false, cond_true]
        · rw [if_neg e, if_pos rfl, decide_eq_false e]
          simp only [show (false == true) = false from rfl, cond_false]
          exact ih
    · have : k = l.length := by omega
      subst this
      rw [dlt_f (by omega), cond_false, List.drop_of_length_le (by rw [ix_len]; omega)]
      rfl
theorem first_rec (n : Nat × Nat) (hn : 1000 ≤ n.1) {l : List (Int × Int)} (hg : Good l) (g : Int) (cp : List Int) : ∀ (d t : Nat) (p : List Int) (a b : Int), d < t → p.length + d = l.length → (∀ j ∈ p, 0 ≤ j ∧ j < l.length) → 0 ≤ a → a ≤ 50 * p.length → 0 ≤ b → b ≤ 100 * p.length →
    DT89f72io0001110 n t p a b l cp g = some (fo l g cp (bo l g d p a b))
  | _, 0, _, _, _, h, _, _, _, _, _, _ => by omega
  | 0, t + 1, p, a, b, h, hp, hr, a0, a1, b0, b1 => by
    rw [DT89f72io0001110_succ]
    unfold DB89f72io0001110
    rw [show ((p.length : Int) == (l.length : Int)) = true by simp; omega, cond_true]
    unfold D72io01
    rfl
  | d + 1, t + 1, p, a, b, h, hp, hr, a0, a1, b0, b1 => by
    rw [DT89f72io0001110_succ]
    unfold DB89f72io0001110
    rw [show ((p.length : Int) == (l.length : Int)) = false from beq_false_of_ne (by omega), cond_false]
    have h7 := hg.len
    have := first_loop n hn hg g (DT89f72io0001110 n t) d p hp a b a0 a1 b0 b1 cp (fun i c e hi c0 c1 e0 e1 => by
      exact first_rec n hn hg g cp d t (p ++ [i]) c e (by omega) (by simp; omega) (snoc_ok hr hi) c0 (by simpa using c1) e0 (by simpa using e1)) n.1 0 (by omega) (by omega)
    simpa [bo] using this
theorem least_eq {n : Nat × Nat} (hn : 1000 ≤ n.1) {l : List (Int × Int)} (hg : Good l) : D88 n l = some (best l) := by
  have ho := rl_ord l
  unfold D88
  rw [rule_eq hn hg, Option.bind_some, put_eq hn (by rw [ho.len]; have := hg.len; omega), put_ord hg ho, Option.bind_some, time_eq hn (ord_pk hg ho).1 (ord_pk hg ho).2 (pk_ok hg ho)]
  rfl
def countS (l : List (Int × Int)) : Int × Int := if chk l ≠ 0 then (0, chk l) else ((bests l).length, 0)
def firstS (l : List (Int × Int)) : List Int × Int := if chk l ≠ 0 then ([], chk l) else ((bests l).headD [], 0)
theorem Count_eq {n : Nat × Nat} (hn : 1000 ≤ n.1) (l : List (Int × Int)) : D31 n l = some (countS l) := by
  unfold D31 countS
  rw [chk_eq hn, Option.bind_some]
  by_cases h : chk l = 0
  · have hg := chk_good.1 h
    have h7 := hg.len
    have hb := bests_len hg
    rw [show (chk l != 0) = false by simp [h], cond_false, if_neg (by simpa using h)]
    unfold D71c74io01 D89f74io0001110
    rw [least_eq hn hg, Option.bind_some]
    have := count_rec n hn hg (best l) l.length n.1 [] 0 0 0 (by omega) (by simp) (fun j hj => by simp at hj) (by omega) (by simp) (by omega) (by simp) (by omega) (by rw [bo_bests hg]; omega)
    rw [bo_bests hg] at this
    rw [this]
    simp
  · rw [show (chk l != 0) = true by simpa using h, cond_true, if_pos h]
theorem First_eq {n : Nat × Nat} (hn : 1000 ≤ n.1) (l : List (Int × Int)) : D29 n l = some (firstS l) := by
  unfold D29 firstS
  rw [chk_eq hn, Option.bind_some]
  by_cases h : chk l = 0
  · have hg := chk_good.1 h
    have h7 := hg.len
    rw [show (chk l != 0) = false by simp [h], cond_false, if_neg (by simpa using h)]
    unfold D71c72io01 D89f72io0001110
    rw [least_eq hn hg, Option.bind_some]
    have := first_rec n hn hg (best l) [] l.length n.1 [] 0 0 (by omega) (by simp) (fun j hj => by simp at hj) (by omega) (by simp) (by omega) (by simp)
    rw [bo_bests hg] at this
    rw [this]
    cases bests l <;> rfl
  · rw [show (chk l != 0) = true by simpa using h, cond_true, if_pos h]
def TT (l : List (Int × Int)) (o : List Int) : Int := tm 0 0 (pk l o)
/-- The law's search takes an order. -/
def stp (l : List (Int × Int)) (st : Int × Int × List Int) (o : List Int) : Int × Int × List Int :=
  if st.1 = 0 ∨ TT l o < st.2.1 then (1, TT l o, o) else if TT l o = st.2.1 then (st.1 + 1, st.2.1, st.2.2) else st
theorem stp_bd (l : List (Int × Int)) (st : Int × Int × List Int) (o : List Int) (h : 0 ≤ st.1) : 0 ≤ (stp l st o).1 ∧ (stp l st o).1 ≤ st.1 + 1 := by
  unfold stp
  split
  · simp only []; omega
  · split
    · simp only []; omega
    · omega
theorem fold_bd (l : List (Int × Int)) : ∀ (P : List (List Int)) (st : Int × Int × List Int), 0 ≤ st.1 → 0 ≤ (P.foldl (stp l) st).1 ∧ (P.foldl (stp l) st).1 ≤ st.1 + P.length
  | [], st, h => by simp [h]
  | o :: P, st, h => by
    have h1 := stp_bd l st o h
    have h2 := fold_bd l P (stp l st o) h1.1
    rw [List.foldl_cons, List.length_cons]
    omega
theorem visit_eq {n : Nat × Nat} (hn : 1000 ≤ n.1) {l : List (Int × Int)} (hg : Good l) {o : List Int} (ho : Ord l.length o) (st : Int × Int × List Int) (h0 : 0 ≤ st.1) (h1 : st.1 ≤ 1000000) :
    D79io01111 n o l st.1 st.2.1 st.2.2 = some ((), l, (stp l st o).1, (stp l st o).2.1, (stp l st o).2.2, ()) := by
  unfold D79io01111 stp
  rw [ltime_eq hn hg ho, Option.bind_some]
  show _ = some ((), l, (if st.1 = 0 ∨ tm 0 0 (pk l o) < st.2.1 then (1, tm 0 0 (pk l o), o) else if tm 0 0 (pk l o) = st.2.1 then (st.1 + 1, st.2.1, st.2.2) else st).1, _, _, ())
  unfold TT
  generalize tm 0 0 (pk l o) = t
  by_cases c : st.1 = 0
  · rw [show (st.1 == 0) = true by simpa using c, if_pos (.inl c)]
    rfl
  · rw [show (st.1 == 0) = false from beq_false_of_ne c]
    simp only [beq_self_eq_true, cond_true, Option.bind_some]
    by_cases d : t < st.2.1
    · rw [decide_eq_true d, cond_true, if_pos (.inr d)]
    · rw [decide_eq_false d, cond_false, if_neg (show ¬ (st.1 = 0 ∨ t < st.2.1) from fun h => h.elim c d)]
      by_cases e : t = st.2.1
      · rw [show (t == st.2.1) = true by simpa using e, cond_true, if_pos e, wr_ok (by omega) (by omega)]
      · rw [show (t == st.2.1) = false from beq_false_of_ne e, cond_false, if_neg e]
theorem all_loop2 (n : Nat × Nat) (hn : 1000 ≤ n.1) {l : List (Int × Int)} (hg : Good l) (SS : List Int → Int → List (Int × Int) → Int → Int → List Int → Option R93f79io0110) (d : Nat) (p : List Int) (hp : p.length + (d + 1) = l.length)
    (hS : ∀ (i : Int) (st : Int × Int × List Int), 0 ≤ i ∧ i < l.length → i ∉ p → 0 ≤ st.1 → st.1 + (ao l.length d (p ++ [i])).length ≤ 1000000 → SS (p ++ [i]) (l.length : Int) l st.1 st.2.1 st.2.2 = some ((), (l.length : Int), l, ((ao l.length d (p ++ [i])).foldl (stp l) st).1, ((ao l.length d (p ++ [i])).foldl (stp l) st).2.1, ((ao l.length d (p ++ [i])).foldl (stp l) st).2.2, ())) :
    ∀ (m k : Nat) (st : Int × Int × List Int), k ≤ l.length → l.length - k < m → 0 ≤ st.1 → st.1 + (((ix l.length).drop k).flatMap fun i => if i ∈ p then [] else ao l.length d (p ++ [i])).length ≤ 1000000 →
    DL93f79io0110_1 n SS m p (l.length : Int) (k : Int) (l.length : Int) l st.1 st.2.1 st.2.2 = some ((), (l.length : Int), l, ((((ix l.length).drop k).flatMap fun i => if i ∈ p then [] else ao l.length d (p ++ [i])).foldl (stp l) st).1, ((((ix l.length).drop k).flatMap fun i => if i ∈ p then [] else ao l.length d (p ++ [i])).foldl (stp l) st).2.1, ((((ix l.length).drop k).flatMap fun i => if i ∈ p then [] else ao l.length d (p ++ [i])).foldl (stp l) st).2.2, ())
  | 0, k, st, _, h, _, _ => by omega
  | m + 1, k, st, hk, h, c0, c1 => by
    have h7 := hg.len
    rw [DL93f79io0110_1_succ]
    unfold DF93f79io0110_1
    by_cases hlt : k < l.length
    · have hi : 0 ≤ (k : Int) ∧ (k : Int) < l.length := ⟨by omega, by omega⟩
      have hj2 : ∀ (a : Int) (b : List (Int × Int)) (c e : Int) (f : List Int), DL93f79io0110_2 n SS (DL93f79io0110_1 n SS m) p (l.length : Int) (k : Int) a b c e f = DL93f79io0110_1 n SS m p (l.length : Int) ((k + 1 : Nat) : Int) a b c e f := fun a b c e f => by
        rw [← wr_succ (by omega)]
        rfl
      have ih := all_loop2 n hn hg SS d p hp hS m (k + 1)
      rw [ix_drop hlt, List.flatMap_cons, List.length_append] at c1
      rw [ix_drop hlt, List.flatMap_cons, List.foldl_append, dlt_t hlt, cond_true, contains_eq hn (by omega), Option.bind_some]
      by_cases c : (k : Int) ∈ p
      · rw [if_pos c] at c1 ⊢
        rw [decide_eq_true c, Bool.not_true, cond_false, hj2]
        exact ih st (by omega) (by omega) c0 (by simpa using c1)
      · rw [if_neg c] at c1 ⊢
        have hb := fold_bd l (ao l.length d (p ++ [(k : Int)])) st c0
        rw [decide_eq_false c, Bool.not_false, cond_true, beq_self_eq_true, show (true && bounds none (some (p.length : Int)) (some (p.length : Int)) p.length) = true by simp [bounds], cond_true, Int.toNat_natCast, List.take_length, lim_dec (by omega), show (true && (p.isEmpty || ![(k : Int)].isEmpty)) = true by simp, cond_true, hS (k : Int) st hi c c0 (by omega), Option.bind_some]
        simp only []
        rw [hj2]
        exact ih _ (by omega) (by omega) hb.1 (by omega)
    · have : k = l.length := by omega
      subst this
      rw [dlt_f (by omega), cond_false, List.drop_of_length_le (by rw [ix_len]; omega)]
      rfl
theorem all_rec (n : Nat × Nat) (hn : 1000 ≤ n.1) {l : List (Int × Int)} (hg : Good l) : ∀ (d t : Nat) (p : List Int) (st : Int × Int × List Int), d < t → p.length + d = l.length → (∀ j ∈ p, 0 ≤ j ∧ j < l.length) → p.Nodup → 0 ≤ st.1 → st.1 + (ao l.length d p).length ≤ 1000000 →
    DT93f79io0110 n t p (l.length : Int) l st.1 st.2.1 st.2.2 = some ((), (l.length : Int), l, ((ao l.length d p).foldl (stp l) st).1, ((ao l.length d p).foldl (stp l) st).2.1, ((ao l.length d p).foldl (stp l) st).2.2, ())
  | _, 0, _, _, h, _, _, _, _, _ => by omega
  | 0, t + 1, p, st, h, hp, hr, hn', c0, c1 => by
    rw [DT93f79io0110_succ]
    unfold DB93f79io0110
    simp only [ao, List.length_singleton] at c1
    rw [show ((p.length : Int) == (l.length : Int)) = true by simp; omega, cond_true, visit_eq hn hg ⟨by omega, hr, hn'⟩ st c0 (by omega)]
    rfl
  | d + 1, t + 1, p, st, h, hp, hr, hn', c0, c1 => by
    rw [DT93f79io0110_succ]
    unfold DB93f79io0110
    rw [show ((p.length : Int) == (l.length : Int)) = false from beq_false_of_ne (by omega), cond_false]
    have h7 := hg.len
    have := all_loop2 n hn hg (DT93f79io0110 n t) d p hp (fun i st hi hni p0 p1 => by
      refine all_rec n hn hg d t (p ++ [i]) st (by omega) (by simp; omega) (snoc_ok hr hi) ?_ p0 p1
      rw [List.nodup_append]
      refine ⟨hn', by simp, fun a ha b hb e => ?_⟩
      rw [List.mem_singleton] at hb
      subst hb e
      exact hni ha) n.1 0 st (by omega) (by omega) c0 (by simpa [ao] using c1)
    simpa [ao] using this
/-- What the search has found in some orders. -/
def Bj (l : List (Int × Int)) (P : List (List Int)) (st : Int × Int × List Int) : Prop :=
  (P = [] ∧ st = (0, 0, [])) ∨ (P ≠ [] ∧ (∀ o ∈ P, st.2.1 ≤ TT l o) ∧ (∃ o ∈ P, TT l o = st.2.1) ∧ st.1 = (P.filter fun o => decide (TT l o = st.2.1)).length ∧ st.2.2 = (P.filter fun o => decide (TT l o = st.2.1)).headD [])
theorem Bj.step {l : List (Int × Int)} {P : List (List Int)} {st : Int × Int × List Int} (h : Bj l P st) (x : List Int) : Bj l (P ++ [x]) (stp l st x) := by
  unfold stp
  by_cases new : st.1 = 0 ∨ TT l x < st.2.1
  · rw [if_pos new]
    have hP : ∀ o ∈ P, TT l x < TT l o := by
      intro o ho
      rcases h with ⟨e, _⟩ | ⟨_, h1, ⟨y, hy, e⟩, h3, _⟩
      · rw [e] at ho; simp at ho
      · rcases new with z | z
        · have : y ∈ P.filter fun o => decide (TT l o = st.2.1) := List.mem_filter.2 ⟨hy, decide_eq_true e⟩
          have := List.length_pos_of_mem this
          omega
        · have := h1 o ho; omega
    have e0 : P.filter (fun o => decide (TT l o = TT l x)) = [] := by
      rw [List.filter_eq_nil_iff]
      intro o ho h
      rw [decide_eq_true_iff] at h
      have := hP o ho
      omega
    refine .inr ⟨by simp, fun o ho => ?_, ⟨x, by simp, rfl⟩, ?_, ?_⟩
    · rcases List.mem_append.1 ho with ho | ho
      · have := hP o ho; simp only []; omega
      · rw [List.mem_singleton] at ho; subst ho; exact Int.le_refl _
    · rw [List.filter_append, e0]; simp
    · rw [List.filter_append, e0]; simp
  · rw [if_neg new]
    rcases h with ⟨_, e⟩ | ⟨h0, h1, ⟨y, hy, e⟩, h3, h4⟩
    · exact absurd (.inl (by rw [e])) new
    have hne : P.filter (fun o => decide (TT l o = st.2.1)) ≠ [] := fun e' => by
      have : y ∈ P.filter fun o => decide (TT l o = st.2.1) := List.mem_filter.2 ⟨hy, decide_eq_true e⟩
      rw [e'] at this
      simp at this
    by_cases c : TT l x = st.2.1
    · rw [if_pos c]
      refine .inr ⟨by simp, fun o ho => ?_, ⟨y, by simp [hy], e⟩, ?_, ?_⟩
      · rcases List.mem_append.1 ho with ho | ho
        · exact h1 o ho
        · rw [List.mem_singleton] at ho; subst ho; simp only []; omega
      · simp only []
        rw [List.filter_append, List.length_append, h3]
        simp [c]
      · simp only []
        rw [List.filter_append, h4]
        cases hq : P.filter (fun o => decide (TT l o = st.2.1)) with
        | nil => exact absurd hq hne
        | cons a A => rfl
    · rw [if_neg c]
      refine .inr ⟨by simp, fun o ho => ?_, ⟨y, by simp [hy], e⟩, ?_, ?_⟩
      · rcases List.mem_append.1 ho with ho | ho
        · exact h1 o ho
        · rw [List.mem_singleton] at ho; subst ho
          have : ¬ TT l o < st.2.1 := fun z => new (.inr z)
          omega
      · rw [List.filter_append, List.length_append, h3]
        simp [c]
      · rw [List.filter_append, h4]
        simp [c]
theorem Bj.fold {l : List (Int × Int)} : ∀ {Q P : List (List Int)} {st : Int × Int × List Int}, Bj l P st → Bj l (P ++ Q) (Q.foldl (stp l) st)
  | [], P, st, h => by simpa using h
  | x :: Q, P, st, h => by
    have := Bj.fold (Q := Q) (h.step x)
    simpa using this
theorem lbest_eq {n : Nat × Nat} (hn : 1000 ≤ n.1) {l : List (Int × Int)} (hg : Good l) : D44 n l = some ((bests l).headD [], best l, ((bests l).length : Int)) := by
  have h7 := hg.len
  have hlen : (ao l.length l.length []).length ≤ 823543 := Nat.le_trans (ao_len h7 _ _) (Nat.le_trans (Nat.pow_le_pow_right (by omega) h7) (by decide))
  have hr := all_rec n hn hg l.length n.1 [] (0, 0, []) (by omega) (by simp) (fun j hj => by simp at hj) (by simp) (by simp) (by simp only []; omega)
  have hb : Bj l (ao l.length l.length []) ((ao l.length l.length []).foldl (stp l) (0, 0, [])) := by
    have := Bj.fold (l := l) (Q := ao l.length l.length []) (P := []) (st := (0, 0, [])) (.inl ⟨rfl, rfl⟩)
    simpa using this
  have hm : rl l ∈ ao l.length l.length [] := ao_iff.2 (rl_ord l)
  unfold D44 D78c79io01 D93f79io0110
  rw [hr, Option.bind_some, Option.bind_some]
  generalize (ao l.length l.length []).foldl (stp l) (0, 0, []) = st at hb
  rcases hb with ⟨e, _⟩ | ⟨_, h1, ⟨y, hy, e⟩, h3, h4⟩
  · rw [e] at hm; simp at hm
  · have b1 : best l ≤ st.2.1 := by rw [← e]; exact rl_best hg (ao_iff.1 hy)
    have b2 : st.2.1 ≤ best l := h1 _ hm
    have eb := Int.le_antisymm b2 b1
    rw [eb] at h3 h4
    have hbe := bests_eq hg
    simp only []
    rw [h3, h4, eb, hbe]
    rfl
theorem bnds_loop (n : Nat × Nat) (hn : 1000 ≤ n.1) {l : List (Int × Int)} (hg : Good l) {mc : Int} (hm : mc = 0 ∨ mc = 1) (r : List Int) (f : (List (Int × Int)) → Int → List Int → Int → Int → Int → Option R6) (P0 : List (Int × Int)) (hP : P0 ++ pr1 mc l.length = prs l ∨ ∃ Q, P0 ++ pr1 mc l.length ++ Q = prs l) (hP0 : ∀ p ∈ P0, p.1 = 0 ∨ p.1 = 1) : ∀ (m k : Nat), k ≤ l.length → l.length - k < m →
    DL6_3 n f m l (best l) r ((fst l (best l) (P0 ++ pr1 mc k)).getD (-1, -1)).1 ((fst l (best l) (P0 ++ pr1 mc k)).getD (-1, -1)).2 mc mc (l.length : Int) (k : Int) = f l (best l) r ((fst l (best l) (P0 ++ pr1 mc l.length)).getD (-1, -1)).1 ((fst l (best l) (P0 ++ pr1 mc l.length)).getD (-1, -1)).2 (wr .i64 (mc + 1))
  | 0, k, _, h => by omega
  | m + 1, k, hk, h => by
    have h7 := hg.len
    rw [DL6_3_succ]
    unfold DF6_3
    by_cases hlt : k < l.length
    · have hki : 0 ≤ (k : Int) ∧ (k : Int) < l.length := ⟨by omega, by omega⟩
      have ih := bnds_loop n hn hg hm r f P0 hP hP0 m (k + 1) (by omega) (by omega)
      have hj4 : ∀ a b : Int, DL6_4 n f (DL6_3 n f m) l (best l) r a b mc mc (l.length : Int) (k : Int) = DL6_3 n f m l (best l) r a b mc mc (l.length : Int) ((k + 1 : Nat) : Int) := fun a b => by
        rw [← wr_succ (by omega)]
        rfl
      have hq : boundS l mc (k : Int) = (bd l mc (k : Int), 0) := by
        unfold boundS
        rw [if_neg (by simpa using chk_good.2 hg), if_pos ⟨hm, hki⟩]
      have hle := bd_le hg (prs_mem.2 ⟨hm, hki⟩ : (mc, (k : Int)) ∈ prs l)
      simp only [] at hle
      rw [dlt_t hlt, cond_true, Bound_eq hn, hq, Option.bind_some, lbound_eq hn hg hm hki]
      simp only [bne_self_eq_false, beq_self_eq_true, cond_true, Option.bind_some]
      rw [decide_eq_false (show ¬ bd l mc (k : Int) > best l by omega)]
      simp only [cond_false]
      rw [pr1_succ, ← List.append_assoc, fst_append, fst_one] at ih
      by_cases e : bd l mc (k : Int) = best l
      · rw [if_pos e] at ih
        rw [show (bd l mc (k : Int) == best l) = true by simpa using e]
        simp only [beq_self_eq_true, cond_true, Option.bind_some]
        cases hf : fst l (best l) (P0 ++ pr1 mc k) with
        | none =>
          rw [hf] at ih
          simp only [Option.getD_none]
          rw [show decide ((-1 : Int) < 0) = true from rfl, cond_true, hj4]
          exact ih
        | some p =>
          rw [hf] at ih
          have hp := (fst_some hf).2
          have hp1 : p.1 = 0 ∨ p.1 = 1 := by
            rcases List.mem_append.1 hp with h | h
            · exact hP0 p h
            · obtain ⟨i, _, e⟩ := List.mem_map.1 h
              rw [← e]
              exact hm
          simp only [Option.getD_some]
          rw [decide_eq_false (show ¬ p.1 < 0 by omega), cond_false, hj4]
          exact ih
      · rw [if_neg e, Option.or_none] at ih
        rw [show (bd l mc (k : Int) == best l) = false from beq_false_of_ne e]
        simp only [show (false == true) = false from rfl, cond_false, Option.bind_some]
        rw [hj4]
        exact ih
    · have : k = l.length := by omega
      subst this
      rw [dlt_f hlt, cond_false]
theorem johnson_end {n : Nat × Nat} (hn : 1000 ≤ n.1) {l : List (Int × Int)} (hg : Good l) (hw : D14 n = some true) : DL6_2 n n.1 l (best l) (rl l) (-1) (-1) 0 = some true := by
  obtain ⟨k, hk⟩ : ∃ k, n.1 = k + 3 := ⟨n.1 - 3, by omega⟩
  have h7 := hg.len
  have e1 := bnds_loop n hn hg (.inl rfl) (rl l) (DL6_2 n (k + 2)) [] (.inr ⟨pr1 1 l.length, rfl⟩) (fun p hp => by simp at hp) n.1 0 (by omega) (by omega)
  have e2 := bnds_loop n hn hg (.inr rfl) (rl l) (DL6_2 n (k + 1)) (pr1 0 l.length) (.inl rfl) (fun p hp => by
    obtain ⟨i, _, e⟩ := List.mem_map.1 hp
    rw [← e]
    exact .inl rfl) n.1 0 (by omega) (by omega)
  have f1 : ∀ a b, DL6_2 n n.1 l (best l) (rl l) a b 0 = DL6_3 n (DL6_2 n (k + 2)) n.1 l (best l) (rl l) a b 0 0 (l.length : Int) 0 := fun a b => by
    rw [hk, DL6_2_succ]; rw [← hk]; rfl
  have f2 : ∀ a b, DL6_2 n (k + 2) l (best l) (rl l) a b 1 = DL6_3 n (DL6_2 n (k + 1)) n.1 l (best l) (rl l) a b 1 1 (l.length : Int) 0 := fun a b => by
    rw [DL6_2_succ]; rfl
  rw [show wr .i64 ((0 : Int) + 1) = 1 by rw [wr_ok (by omega) (by omega)]; omega] at e1
  rw [show wr .i64 ((1 : Int) + 1) = 2 by rw [wr_ok (by omega) (by omega)]; omega] at e2
  rw [show pr1 1 0 = [] from rfl, List.append_nil] at e2
  obtain ⟨p, hp⟩ := fst_best hg
  have hp2 := hp
  unfold prs at hp2
  rw [List.nil_append] at e1
  refine (f1 (-1) (-1)).trans (e1.trans ((f2 _ _).trans (e2.trans ?_)))
  rw [hp2, DL6_2_succ]
  unfold DF6_2
  have hps := fst_some hp
  obtain ⟨hm, hk0, hk1⟩ := prs_mem.1 hps.2
  have hpr : proveS l = (p.1, p.2, 0) := by
    unfold proveS
    rw [if_neg (by simpa using chk_good.2 hg), hp]
  have hrl := (rl_ord l).len
  have hq : boundS l p.1 p.2 = (bd l p.1 p.2, 0) := by
    unfold boundS
    rw [if_neg (by simpa using chk_good.2 hg), if_pos ⟨hm, hk0, hk1⟩]
  have hpv : provesS l (rl l) p.1 p.2 = 0 := by
    unfold provesS
    rw [put_zero.2 ⟨hg, rl_ord l⟩, hq]
    simp only [ne_eq, not_true, if_false]
    exact if_pos hps.1
  rw [show decide ((2 : Int) < 2) = false from rfl, cond_false, Prove_eq hn, hpr, Option.bind_some]
  simp only [Option.getD_some, Proves_eq hn (show (rl l).length < 800 by omega), hpv, Option.bind_some, beq_self_eq_true, cond_true, hw]
  rw [decide_eq_true (show p.1 ≥ 0 by omega)]
  rfl
theorem adj_loop (n : Nat × Nat) (hn : 1000 ≤ n.1) {l : List (Int × Int)} (hg : Good l) (hw : D14 n = some true) : ∀ (m k : Nat), 1 ≤ k → k ≤ (rl l).length → (rl l).length - k < m →
    DL6_1 n m l ((bests l).headD []) (best l) ((bests l).length : Int) (rl l) (k : Int) = some true
  | 0, k, _, _, h => by omega
  | m + 1, k, h1, hk, h => by
    have h7 := hg.len
    have hrl := (rl_ord l).len
    rw [DL6_1_succ]
    unfold DF6_1
    by_cases hlt : k < (rl l).length
    · have ih := adj_loop n hn hg hw m (k + 1) (by omega) (by omega) (by omega)
      have hlt' : k - 1 < (rl l).length := by omega
      have hb : Bef l (rl l)[k - 1] (rl l)[k] := List.pairwise_iff_getElem.1 (rl_sort l) (k - 1) k hlt' hlt (by omega)
      have r1 := (rl_ord l).rng _ (List.getElem_mem hlt')
      have r2 := (rl_ord l).rng _ (List.getElem_mem hlt)
      have w : wr .i64 ((k : Int) - 1) = ((k - 1 : Nat) : Int) := by rw [wr_ok (by omega) (by omega)]; omega
      rw [dlt_t hlt, cond_true, w, idx_nat hlt', idx_nat hlt, wr_succ (by omega), ih]
      generalize (rl l)[k - 1] = i at *
      generalize (rl l)[k] = j at *
      simp only [Option.bind_some]
      rw [idx_sh r1.1 r1.2, idx_sh r2.1 r2.2]
      simp only [Option.bind_some]
      unfold Bef at hb
      generalize sh l i = s at *
      generalize sh l j = t at *
      by_cases f : s.1 < s.2 <;> by_cases g : t.1 < t.2
      · rw [decide_eq_true f, decide_eq_true g]
        have hle : s.1 ≤ t.1 := by omega
        rw [decide_eq_false (show ¬ s.1 > t.1 by omega)]
        by_cases e : s.1 = t.1
        · rw [show (s.1 == t.1) = true by simpa using e, decide_eq_false (show ¬ i > j by omega)]; rfl
        · rw [show (s.1 == t.1) = false from beq_false_of_ne e]; rfl
      · rw [decide_eq_true f, decide_eq_false g]; rfl
      · omega
      · rw [decide_eq_false f, decide_eq_false g]
        rw [decide_eq_false (show ¬ s.2 < t.2 by omega)]
        by_cases e : s.2 = t.2
        · rw [show (s.2 == t.2) = true by simpa using e, decide_eq_false (show ¬ i > j by omega)]; rfl
        · rw [show (s.2 == t.2) = false from beq_false_of_ne e]; rfl
    · have hF : firstS l = ((bests l).headD [], 0) := by unfold firstS; rw [if_neg (by simpa using chk_good.2 hg)]
      have hC : countS l = (((bests l).length : Int), 0) := by unfold countS; rw [if_neg (by simpa using chk_good.2 hg)]
      have hl : ((bests l).headD []).length < 900 := by
        have hm := bests_ne hg
        cases e : bests l with
        | nil => rw [e] at hm; simp at hm
        | cons o A =>
          have ho : o ∈ bests l := by rw [e]; simp
          have := (ao_iff.1 (List.mem_filter.1 ho).1).len
          simp only [List.headD_cons]
          omega
      rw [dlt_f hlt, cond_false, First_eq hn, Count_eq hn, hF, hC]
      simp only [Option.bind_some, bne_self_eq_false, beq_self_eq_true, cond_true, same_eq hn hl, decide_true, Bool.not_true, cond_false]
      exact johnson_end hn hg hw
theorem johnson_ok {f : Fm} (hf : FmOk f) : S6 N f = some true := by
  rw [S6_D N rfl]
  unfold D6
  obtain ⟨l, e1, hg, h6⟩ := made_ex hN1 hf (most := 6) ⟨by omega, by omega⟩
  have h7 := hg.len
  have hp := hg.pos
  have hrl := (rl_ord l).len
  have hR : ruleS l = (rl l, 0) := by unfold ruleS; rw [if_neg (by simpa using chk_good.2 hg)]
  rw [e1, Option.bind_some, lbest_eq hN1 hg, Option.bind_some, Rule_eq hN1, hR, Option.bind_some]
  simp only [bne_self_eq_false, beq_self_eq_true, cond_true, Option.bind_some, orderly_eq hN1 h7 (rl_ord l), Bool.not_true, ltime_eq hN1 hg (rl_ord l)]
  rw [show (tm 0 0 (pk l (rl l)) != best l) = false from bne_self_eq_false _, cond_false]
  exact adj_loop N hN1 hg works_eq N.1 1 (by omega) (by omega) (by have : N.1 = 10000 := rfl; omega)
abbrev Sh2 : Sh := .pair (.int .u8) (.int .u8)
abbrev ShF : Sh := .pair (.int .u8) (.pair (.int .u8) (.pair Sh2 (.pair Sh2 (.pair Sh2 (.pair Sh2 (.pair Sh2 (.pair Sh2 Sh2)))))))
theorem u8_rng {x : Int} (h : (Lit.int .u8 x).wf = true) : 0 ≤ x ∧ x ≤ 255 := by
  simpa [Lit.wf, IntKind.min, IntKind.max, IntKind.signed, IntKind.bits] using h
theorem by_wf {x : Int} (h : Wf (.int .u8) x) : By x := u8_rng h
theorem fm_ok {f : Fm} (h : Wf ShF f) : FmOk f := by
  obtain ⟨ha, hb, h1, h2, h3, h4, h5, h6, h7⟩ := h
  refine ⟨by_wf ha, by_wf hb, fun x hx => ?_⟩
  simp only [List.mem_cons, List.not_mem_nil, or_false] at hx
  rcases hx with e | e | e | e | e | e | e <;> subst e
  · exact ⟨by_wf h1.1, by_wf h1.2⟩
  · exact ⟨by_wf h2.1, by_wf h2.2⟩
  · exact ⟨by_wf h3.1, by_wf h3.2⟩
  · exact ⟨by_wf h4.1, by_wf h4.2⟩
  · exact ⟨by_wf h5.1, by_wf h5.2⟩
  · exact ⟨by_wf h6.1, by_wf h6.2⟩
  · exact ⟨by_wf h7.1, by_wf h7.2⟩
end Go.Proofs.Ytnlbhjmbaedadaa
