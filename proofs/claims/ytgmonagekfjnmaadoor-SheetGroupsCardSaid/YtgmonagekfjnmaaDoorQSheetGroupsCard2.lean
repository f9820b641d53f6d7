/- Texts of this claim, joined: Sv to Tg. -/
import Derived.KernelRfl
import Derived.Test.YtgmonagekfjnmaaDoorProg
import Derived.WalkKit
import Derived.Test.YtgmonagekfjnmaaDoorQSheetGroupsCard1
set_option linter.unusedVariables false
set_option linter.unusedSimpArgs false
namespace Go.Proofs.YtgmonagekfjnmaaDoor
open Go.Vi
/-- The first sheet with room, or the next one. -/
def ffp (p : Int) : List Int → Nat
  | [] => 0
  | x :: L => if p ≤ x then 0 else ffp p L + 1
theorem ffp_le (p : Int) : ∀ L, ffp p L ≤ L.length
  | [] => Nat.le_refl _
  | x :: L => by
    have := ffp_le p L
    unfold ffp
    split
    · omega
    · simp; omega
theorem ffp_room {p : Int} : ∀ {L : List Int} (h : ffp p L < L.length), p ≤ L[ffp p L]
  | [], h => by simp at h
  | x :: L, h => by
    by_cases e : p ≤ x
    · have : ffp p (x :: L) = 0 := by unfold ffp; rw [if_pos e]
      simp only [this]
      exact e
    · have he : ffp p (x :: L) = ffp p L + 1 := by simp only [ffp]; rw [if_neg e]
      simp only [he, List.getElem_cons_succ]
      rw [he, List.length_cons] at h
      exact ffp_room (by omega)
theorem ffp_below {p : Int} : ∀ {L : List Int} {s : Nat} (hs : s < L.length), s < ffp p L → L[s] < p
  | [], s, hs, _ => by simp at hs
  | x :: L, s, hs, h => by
    by_cases e : p ≤ x
    · have : ffp p (x :: L) = 0 := by unfold ffp; rw [if_pos e]
      omega
    · have he : ffp p (x :: L) = ffp p L + 1 := by simp only [ffp]; rw [if_neg e]
      rw [he] at h
      cases s with
      | zero => simp only [List.getElem_cons_zero]; omega
      | succ s =>
        simp only [List.getElem_cons_succ]
        exact ffp_below _ (by omega)
theorem ffp_rm {p sz : Int} {L : List Int} (h : p ≤ sz) : p ≤ rm sz L (ffp p L) := by
  have := ffp_le p L
  by_cases e : ffp p L < L.length
  · rw [rm_get e]; exact ffp_room e
  · have : ffp p L = L.length := by omega
    rw [this]
    unfold rm
    rw [List.getD_eq_getElem?_getD, List.getElem?_eq_none (by omega), Option.getD_none]
    exact h
/-- One piece more. -/
def fst1 (sz : Int) (ps : List Int) (t : List Int × List Int) (i : Int) : List Int × List Int :=
  (t.1.set i.toNat (ffp (pc ps i) t.2), up sz t.2 (ffp (pc ps i) t.2) (pc ps i))
def ffo (sz : Int) (ps o : List Int) (t : List Int × List Int) : List Int × List Int := o.foldl (fst1 sz ps) t
/-! The law's filling. -/
theorem fill_in (n : Nat × Nat) (f1 : Int → List Int → List Int → Int → Int → List Int → List Int → Option R51) {sz : Int} {ps : List Int} (hj : Job sz ps) {i : Int} (hi : 0 ≤ i ∧ i < ps.length) (v22 : List Int) (v23 v24 : Int) {A L : List Int} (hA : A.length = ps.length) (hL : L.length ≤ 8) (hr : ∀ x ∈ L, 0 ≤ x ∧ x < sz) :
    ∀ (m s : Nat), s ≤ ffp (pc ps i) L → ffp (pc ps i) L - s < m → DL51_2 n f1 m sz ps i (s : Int) v22 v23 v24 A L = f1 sz ps v22 v23 (wr .i64 (v24 + 1)) (A.set i.toNat (ffp (pc ps i) L)) (up sz L (ffp (pc ps i) L) (pc ps i))
  | 0, s, _, h => by omega
  | m + 1, s, hs, h => by
    have hlo := hj.lo
    have hhi := hj.hi
    have h8 := hj.len
    have hp := hj.ok _ (pc_mem hi.1 hi.2)
    have hfl := ffp_le (pc ps i) L
    have hfr := ffp_rm (L := L) hp.2
    have hrr := rm_rng hr (by omega : 0 ≤ sz) (ffp (pc ps i) L)
    have hix := idx_pc hi.1 hi.2
    rw [DL51_2_succ]
    unfold DF51_2
    by_cases e : s < ffp (pc ps i) L
    · have hsl : s < L.length := by omega
      have hb := ffp_below hsl e
      have ih := fill_in n f1 hj hi v22 v23 v24 hA hL hr m (s + 1) (by omega) (by omega)
      rw [dlt_t hsl]
      simp only [beq_self_eq_true, cond_true]
      rw [inB_nat hsl, cond_true, idx_nat hsl, Option.bind_some, hix, Option.bind_some, decide_eq_true hb]
      simp only [Option.bind_some, cond_true]
      rw [wr_succ (by omega), ih]
    · have hs2 : s = ffp (pc ps i) L := by omega
      subst hs2
      have hup : ∀ q : List Int, q = (if ffp (pc ps i) L = L.length then L ++ [sz] else L) → q.set (ffp (pc ps i) L) (rm sz L (ffp (pc ps i) L) - pc ps i) = up sz L (ffp (pc ps i) L) (pc ps i) := fun q hq => by rw [hq]; rfl
      have hin : inB i A.length = true := by rw [show i = (i.toNat : Int) by omega]; exact inB_nat (by omega)
      have hgA : ∃ y, idx A i = some y := ⟨_, idx_int (k := i.toNat) (by omega) (by omega)⟩
      obtain ⟨y, hy⟩ := hgA
      generalize hs : ffp (pc ps i) L = s at *
      by_cases e2 : s < L.length
      · have hroom : rm sz L s = L[s] := rm_get e2
        rw [dlt_t e2]
        simp only [beq_self_eq_true, cond_true]
        rw [inB_nat e2, cond_true, idx_nat e2, Option.bind_some, hix, Option.bind_some, decide_eq_false (by omega)]
        simp only [Option.bind_some, cond_false, cond_true]
        rw [beq_false_of_ne (show (s : Int) ≠ (L.length : Int) by omega), cond_false, hin, cond_true, hy, Option.bind_some, wr_ok (x := L[s] - pc ps i) (by omega) (by omega), Int.toNat_natCast, ← hroom, hup L (by rw [if_neg (by omega)])]
      · have e3 : s = L.length := by omega
        have hroom : rm sz L s = sz := by unfold rm; rw [List.getD_eq_getElem?_getD, List.getElem?_eq_none (by omega), Option.getD_none]
        have hsl : s < (L ++ [sz]).length := by simp; omega
        have hg : (L ++ [sz])[s] = sz := by simp [e3]
        rw [dlt_f e2]
        simp only [show (false == true) = false from rfl, cond_false, Option.bind_some]
        rw [show ((s : Int) == (L.length : Int)) = true by simp [e3], cond_true, lim_dec (by omega), cond_true, inB_nat hsl, cond_true, idx_nat hsl, Option.bind_some, hix, Option.bind_some, cond_true, Option.bind_some, hin, cond_true, hy, Option.bind_some, hg, wr_ok (x := sz - pc ps i) (by omega) (by omega), Int.toNat_natCast]
        have := hup (L ++ [sz]) (by rw [if_pos e3])
        rw [hroom] at this
        rw [this]
/-- Names by their order. -/
def nmz : Nat → List Int → List (Int × Int)
  | _, [] => []
  | k, x :: r => (x, (k : Int)) :: nmz (k + 1) r
theorem nmz_len : ∀ (l : List Int) (k : Nat), (nmz k l).length = l.length
  | [], _ => rfl
  | x :: l, k => by simp [nmz, nmz_len l]
theorem nmz_look (y : Int) : ∀ (l : List Int) (k : Nat), alook (nmz k l) y = if y ∈ l then some (fnd (fun x => y == x) k l) else none
  | [], k => by simp [nmz, alook]
  | x :: l, k => by
    have ih := nmz_look y l (k + 1)
    unfold alook at ih ⊢
    simp only [nmz, List.find?_cons]
    by_cases e : x = y
    · subst e
      simp [fnd]
    · have e2 : ¬ y = x := fun h => e h.symm
      rw [show ((x == y) = false) by simpa using e]
      simp only [ih, List.mem_cons, e2, false_or, fnd, show ((y == x) = false) by simpa using e2, Bool.false_eq_true, if_false]
theorem nmz_set (y v : Int) : ∀ (l : List Int) (k : Nat), y ∉ l → aset (nmz k l) y v = nmz k l ++ [(y, v)]
  | [], _, _ => rfl
  | x :: l, k, h => by
    rw [List.mem_cons] at h
    simp only [nmz, aset, List.cons_append]
    rw [show ((x == y) = false) by simpa using (fun e : x = y => h (.inl e.symm)), cond_false, nmz_set y v l (k + 1) (fun hh => h (.inr hh))]
theorem nmz_snoc (y : Int) : ∀ (l : List Int) (k : Nat), nmz k (l ++ [y]) = nmz k l ++ [(y, ((k + l.length : Nat) : Int))]
  | [], k => by simp [nmz]
  | x :: l, k => by
    simp only [List.cons_append, nmz]
    rw [nmz_snoc y l (k + 1), show k + 1 + l.length = k + (x :: l).length by simp; omega]
theorem name_loop (n : Nat × Nat) (left A : List Int) (hA : A.length ≤ 100) : ∀ (m k : Nat) (met plan : List Int), k ≤ A.length → A.length - k < m → met.length ≤ k → plan.length = k →
    DL51_3 n m (A.length : Int) (k : Int) left (nmz 0 met) plan A = some (plan ++ tid met (A.drop k), left)
  | 0, k, _, _, _, h, _, _ => by omega
  | m + 1, k, met, plan, hk, h, hm, hp => by
    rw [DL51_3_succ]
    unfold DF51_3
    by_cases hlt : k < A.length
    · rw [dlt_t hlt, cond_true, inB_nat hlt, cond_true, idx_nat hlt, Option.bind_some, drop_cons hlt, nmz_look]
      unfold tid
      by_cases e : A[k] ∈ met
      · rw [if_pos e, if_pos e]
        simp only [Option.isSome_some, Bool.not_true, cond_false, Option.getD_some]
        rw [lim_dec (by omega), cond_true, wr_succ (by omega), name_loop n left A hA m (k + 1) met _ (by omega) (by omega) (by omega) (by simp [hp]), List.append_assoc, List.singleton_append]
      · have hs : aset (nmz 0 met) A[k] ((nmz 0 met).length : Int) = nmz 0 (met ++ [A[k]]) := by
          rw [nmz_set _ _ _ _ e, nmz_snoc, nmz_len, Nat.zero_add]
        rw [if_neg e, if_neg e, hs, nmz_look, if_pos (by simp)]
        simp only [Option.isSome_none, Bool.not_false, cond_true, Option.getD_some]
        rw [lim_dec (by omega), cond_true, wr_succ (by omega), name_loop n left A hA m (k + 1) _ _ (by omega) (by omega) (by simp; omega) (by simp [hp]), List.append_assoc, List.singleton_append]
        have := fnd_new (x := A[k]) (a := met) [] 0 e
        rw [this]
        simp
    · rw [dlt_f hlt, cond_false, List.drop_of_length_le (by omega)]
      simp [tid]
theorem up_rng2 {sz : Int} {ps : List Int} (hj : Job sz ps) {i : Int} (hi : 0 ≤ i ∧ i < ps.length) {L : List Int} (hr : ∀ x ∈ L, 0 ≤ x ∧ x < sz) : ∀ x ∈ up sz L (ffp (pc ps i) L) (pc ps i), 0 ≤ x ∧ x < sz := by
  have hp := hj.ok _ (pc_mem hi.1 hi.2)
  exact up_rng hr (by have := hj.lo; omega) (ffp_le _ _) hp.1 (ffp_rm hp.2)
theorem fill_loop2 (n : Nat × Nat) (hn : 1000 ≤ n.1) {sz : Int} {ps o : List Int} (hj : Job sz ps) (ho : ∀ i ∈ o, 0 ≤ i ∧ i < ps.length) (hol : o.length ≤ 8) : ∀ (m k : Nat) (A L : List Int), k ≤ o.length → o.length - k < m → A.length = ps.length → L.length ≤ k → (∀ x ∈ L, 0 ≤ x ∧ x < sz) →
    DL51_1 n m sz ps o (o.length : Int) (k : Int) A L = some (tid [] (ffo sz ps (o.drop k) (A, L)).1, (ffo sz ps (o.drop k) (A, L)).2)
  | 0, k, A, L, _, h, _, _, _ => by omega
  | m + 1, k, A, L, hk, h, hA, hL, hr => by
    have h8 := hj.len
    rw [DL51_1_succ]
    unfold DF51_1
    by_cases hlt : k < o.length
    · have hi := ho _ (List.getElem_mem hlt)
      have hul := up_len (sz := sz) (pc ps o[k]) (ffp_le (pc ps o[k]) L)
      have hfl := ffp_le (pc ps o[k]) L
      rw [dlt_t hlt, cond_true, idx_nat hlt, Option.bind_some]
      have := fill_in n (DL51_1 n m) hj hi o (o.length : Int) (k : Int) hA (by omega) hr n.1 0 (by omega) (by omega)
      refine Eq.trans this ?_
      rw [wr_succ (by omega), fill_loop2 n hn hj ho hol m (k + 1) _ _ (by omega) (by omega) (by simp [hA]) (by omega) (up_rng2 hj hi hr), drop_cons hlt]
      rfl
    · rw [dlt_f hlt, cond_false, List.drop_of_length_le (by omega)]
      have := name_loop n L A (by omega) n.1 0 [] [] (by omega) (by omega) (by simp) rfl
      exact this
def zer (k : Nat) : List Int := List.replicate k 0
theorem filled_eq {n : Nat × Nat} (hn : 1000 ≤ n.1) {sz : Int} {ps o : List Int} (hj : Job sz ps) (ho : ∀ i ∈ o, 0 ≤ i ∧ i < ps.length) (hol : o.length ≤ 8) : D51 n sz ps o = some (tid [] (ffo sz ps o (zer ps.length, [])).1, (ffo sz ps o (zer ps.length, [])).2) := by
  have h8 := hj.len
  unfold D51
  rw [decide_eq_true (show (0 : Int) ≤ (ps.length : Int) by omega), decide_eq_true (show (ps.length : Int) ≤ (ps.length : Int) by omega), decide_eq_true (show (ps.length : Int) ≤ lim by unfold lim; omega), Int.toNat_natCast]
  exact fill_loop2 n hn hj ho hol n.1 0 _ _ (by omega) (by omega) (by simp) (by simp) (by simp)
/-! The program's. -/
/-- A whole order. -/
def Ord (ps o : List Int) : Prop := o.Perm ((List.range ps.length).map fun i : Nat => (i : Int))
theorem Ord.nd {ps o : List Int} (h : Ord ps o) : o.Nodup := by
  refine h.nodup_iff.2 ?_
  rw [List.Nodup, List.pairwise_map]
  exact (List.pairwise_lt_range).imp (fun h => by omega)
theorem Ord.rng {ps o : List Int} (h : Ord ps o) : ∀ i ∈ o, 0 ≤ i ∧ i < ps.length := fun i hi => by
  obtain ⟨k, hk, rfl⟩ := List.mem_map.1 (h.mem_iff.1 hi)
  have := List.mem_range.1 hk
  omega
theorem Ord.len {ps o : List Int} (h : Ord ps o) : o.length = ps.length := by
  rw [h.length_eq]; simp
theorem Ord.mem {ps o : List Int} (h : Ord ps o) : ∀ j : Nat, j < ps.length → (j : Int) ∈ o := fun j hj =>
  h.mem_iff.2 (List.mem_map.2 ⟨j, List.mem_range.2 hj, rfl⟩)
def ffA (sz : Int) (ps o : List Int) : List Int × List Int := ffo sz ps o (zer ps.length, [])
theorem Filled_eq {sz : Int} {ps o : List Int} (hj : Job sz ps) (h : Ord ps o) : D51 N sz ps o = some (tid [] (ffA sz ps o).1, (ffA sz ps o).2) :=
  filled_eq hN1 hj h.rng (by have := h.len; have := hj.len; omega)
end Go.Proofs.YtgmonagekfjnmaaDoor
set_option linter.unusedVariables false
set_option linter.unusedSimpArgs false
set_option maxRecDepth 100000
namespace Go.Proofs.YtgmonagekfjnmaaDoor
open Go.Vi
/-D 55 -/
/-D 10 -/
end Go.Proofs.YtgmonagekfjnmaaDoor
set_option linter.unusedVariables false
set_option linter.unusedSimpArgs false
namespace Go.Proofs.YtgmonagekfjnmaaDoor
open Go.Vi
/-! Sums over sheets. -/
def sumr (f : Nat → Int) : Nat → Int
  | 0 => 0
  | m + 1 => sumr f m + f m
theorem sumr_add (f g : Nat → Int) : ∀ m, sumr (fun s => f s + g s) m = sumr f m + sumr g m
  | 0 => rfl
  | m + 1 => by simp only [sumr]; rw [sumr_add f g m]; omega
theorem sumr_zero : ∀ m, sumr (fun _ => 0) m = 0
  | 0 => rfl
  | m + 1 => by simp only [sumr]; rw [sumr_zero m]; rfl
theorem sumr_one (x c : Int) : ∀ m : Nat, 0 ≤ x → sumr (fun s => if x = (s : Int) then c else 0) m = if x < m then c else 0
  | 0, h => by rw [if_neg (by omega)]; rfl
  | m + 1, h => by
    simp only [sumr]
    rw [sumr_one x c m h]
    by_cases h1 : x < m
    · rw [if_pos h1, if_neg (by omega), if_pos (by omega)]; omega
    · rw [if_neg h1]
      by_cases h2 : x = m
      · rw [if_pos h2, if_pos (by omega)]; omega
      · rw [if_neg h2, if_neg (by omega)]; omega
theorem sumr_congr {f g : Nat → Int} : ∀ m, (∀ s < m, f s = g s) → sumr f m = sumr g m
  | 0, _ => rfl
  | m + 1, h => by simp only [sumr]; rw [sumr_congr m (fun s hs => h s (by omega)), h m (by omega)]
/-- The pieces of a sheet. -/
def sel : List Int → List Int → Int → List Int
  | p :: ps, x :: l, s => if x = s then p :: sel ps l s else sel ps l s
  | _, _, _ => []
def tot : List Int → Int
  | [] => 0
  | p :: r => p + tot r
/-- What is added up of pieces. -/
structure Add (f : List Int → Int) : Prop where
  nil : f [] = 0
  cons : ∀ p r, f (p :: r) = f [p] + f r
theorem tot_add : Add tot := ⟨rfl, fun p r => by simp [tot]⟩
theorem sum_sel {f : List Int → Int} (hf : Add f) (m : Nat) : ∀ (ps l : List Int), ps.length = l.length → (∀ x ∈ l, 0 ≤ x ∧ x < m) → sumr (fun s => f (sel ps l (s : Int))) m = f ps
  | [], [], _, _ => by
    simp only [sel, hf.nil]
    exact sumr_zero m
  | p :: ps, x :: l, h, hx => by
    have h0 := hx x (by simp)
    have ih := sum_sel hf m ps l (by simpa using h) (fun y hy => hx y (by simp [hy]))
    have e : ∀ s : Nat, f (sel (p :: ps) (x :: l) (s : Int)) = (if x = (s : Int) then f [p] else 0) + f (sel ps l (s : Int)) := fun s => by
      simp only [sel]
      split
      · rw [hf.cons]
      · omega
    rw [sumr_congr m (fun s _ => e s), sumr_add, ih, sumr_one _ _ _ h0.1, if_pos h0.2, hf.cons p ps]
  | [], _ :: _, h, _ => by simp at h
  | _ :: _, [], h, _ => by simp at h
theorem tot_sel (s : Int) : ∀ (ps l : List Int), tot (sel ps l s) = usd ps l s
  | p :: ps, x :: l => by
    simp only [sel, usd]
    split
    · simp only [tot]; rw [tot_sel s ps l]
    · rw [tot_sel s ps l]; omega
  | [], [] => rfl
  | [], _ :: _ => rfl
  | _ :: _, [] => rfl
/-! One sheet. -/
/-! The law's bound. -/
theorem total_loop (n : Nat × Nat) {l : List Int} (hb : ∀ p ∈ l, 0 ≤ p ∧ p ≤ 24) (hl : l.length ≤ 100) : ∀ (m k : Nat) (v : Int), k ≤ l.length → l.length - k < m → 0 ≤ v → v ≤ 24 * k → DL49_1 n m v l (l.length : Int) (k : Int) = some (v + tot (l.drop k))
  | 0, k, v, _, h, _, _ => by omega
  | m + 1, k, v, hk, h, h0, h1 => by
    rw [DL49_1_succ]
    unfold DF49_1
    by_cases hlt : k < l.length
    · have hp := hb _ (List.getElem_mem hlt)
      rw [dlt_t hlt, cond_true, idx_nat hlt, Option.bind_some, wr_ok (x := v + l[k]) (by omega) (by omega), wr_succ (by omega), total_loop n hb hl m (k + 1) _ (by omega) (by omega) (by omega) (by omega), drop_cons hlt]
      simp only [tot]
      congr 1
      omega
    · rw [dlt_f hlt, cond_false, List.drop_of_length_le (by omega)]
      simp [tot]
theorem total_eq {n : Nat × Nat} (hn : 1000 ≤ n.1) {l : List Int} (hb : ∀ p ∈ l, 0 ≤ p ∧ p ≤ 24) (hl : l.length ≤ 100) : D49 n l = some (tot l) := by
  unfold D49
  have := total_loop n hb hl n.1 0 0 (by omega) (by omega) (by omega) (by omega)
  rw [show ((0 : Nat) : Int) = 0 from rfl] at this
  rw [this]
  simp
theorem tot_snoc (p : Int) : ∀ l : List Int, tot (l ++ [p]) = tot l + p
  | [] => by simp [tot]
  | q :: l => by
    simp only [List.cons_append, tot]
    rw [tot_snoc p l]
    omega
theorem tot_rng : ∀ {l : List Int}, (∀ p ∈ l, 0 ≤ p ∧ p ≤ 24) → 0 ≤ tot l ∧ tot l ≤ 24 * l.length
  | [], _ => by simp [tot]
  | p :: l, h => by
    have h1 := h p (by simp)
    have h2 := tot_rng (l := l) (fun q hq => h q (by simp [hq]))
    simp only [tot, List.length_cons]
    omega
theorem tot_perm {l l' : List Int} (h : l.Perm l') : tot l = tot l' := by
  induction h with
  | nil => rfl
  | cons x _ ih => simp only [tot]; rw [ih]
  | swap x y l => simp only [tot]; omega
  | trans _ _ ih1 ih2 => exact ih1.trans ih2
theorem tot_app : ∀ a b : List Int, tot (a ++ b) = tot a + tot b
  | [], b => by simp [tot]
  | x :: a, b => by
    simp only [List.cons_append, tot]
    rw [tot_app a b]
    omega
def gA (A : List Int) (i : Int) : Int := A.getD i.toNat 0
/-- What is used of a sheet by some pieces. -/
def udn (ps o A : List Int) (s : Int) : Int := tot (o.map fun i => if gA A i = s then pc ps i else 0)
theorem usd_udn (s : Int) : ∀ (ps A : List Int), A.length = ps.length → usd ps A s = tot ((List.range ps.length).map fun i : Nat => if A.getD i 0 = s then ps.getD i 0 else 0)
  | [], [], _ => rfl
  | p :: ps, x :: A, h => by
    rw [List.length_cons, List.range_succ_eq_map, List.map_cons, List.map_map]
    simp only [usd, tot]
    rw [usd_udn s ps A (by simpa using h)]
    rfl
  | [], _ :: _, h => by simp at h
  | _ :: _, [], h => by simp at h
theorem usd_ord {ps o A : List Int} (h : Ord ps o) (hA : A.length = ps.length) (s : Int) : usd ps A s = udn ps o A s := by
  unfold udn
  rw [tot_perm (List.Perm.map _ h), usd_udn s ps A hA, List.map_map]
  rfl
theorem rm_end {sz : Int} (L : List Int) : rm sz L L.length = sz := by
  unfold rm
  rw [List.getD_eq_getElem?_getD, List.getElem?_eq_none (by omega), Option.getD_none]
structure FI (sz : Int) (ps dn A L : List Int) : Prop where
  len : A.length = ps.length
  rng : ∀ i ∈ dn, 0 ≤ gA A i ∧ gA A i < L.length
  all : ∀ s : Nat, s < L.length → ∃ i ∈ dn, gA A i = s
  left : ∀ (s : Nat) (h : s < L.length), L[s] = sz - udn ps dn A s
  lr : ∀ x ∈ L, 0 ≤ x ∧ x < sz
  two : ∀ (s t : Nat) (hs : s < L.length) (ht : t < L.length), s ≠ t → L[s] + L[t] < sz
theorem FI.none {sz : Int} {ps dn A L : List Int} (h : FI sz ps dn A L) {s : Nat} (hs : L.length ≤ s) : udn ps dn A s = 0 := by
  unfold udn
  have : ∀ i ∈ dn, (if gA A i = (s : Int) then pc ps i else 0) = 0 := fun i hi => by
    have := h.rng i hi
    rw [if_neg (by omega)]
  rw [List.map_congr_left this]
  clear this h
  induction dn with
  | nil => rfl
  | cons x r ih => simp only [List.map_cons, tot]; rw [ih]; rfl
theorem FI.rm {sz : Int} {ps dn A L : List Int} (h : FI sz ps dn A L) {s : Nat} (hs : s ≤ L.length) : rm sz L s = sz - udn ps dn A s := by
  by_cases e : s < L.length
  · rw [rm_get e]; exact h.left s e
  · have : s = L.length := by omega
    rw [h.none (by omega), this, rm_end]
    omega
theorem FI.step {sz : Int} {ps dn A L : List Int} (hj : Job sz ps) (h : FI sz ps dn A L) {i : Int} (hi : 0 ≤ i ∧ i < ps.length) (hdr : ∀ j ∈ dn, 0 ≤ j ∧ j < ps.length) (hn : i ∉ dn) :
    FI sz ps (dn ++ [i]) (fst1 sz ps (A, L) i).1 (fst1 sz ps (A, L) i).2 := by
  have hp := hj.ok _ (pc_mem hi.1 hi.2)
  have hfl := ffp_le (pc ps i) L
  have hul := up_len (sz := sz) (pc ps i) hfl
  have hlen := h.len
  have hrm := h.rm hfl
  have hroom := ffp_rm (L := L) hp.2
  have hbel : ∀ (s : Nat) (hs : s < L.length), s < ffp (pc ps i) L → L[s] < pc ps i := fun s hs hh => ffp_below hs hh
  simp only [fst1]
  generalize hS : ffp (pc ps i) L = S at *
  have g1 : ∀ j ∈ dn, gA (A.set i.toNat (S : Int)) j = gA A j := fun j hj2 => by
    have h1 := hdr j hj2
    have : i.toNat ≠ j.toNat := fun e => by
      have : j = i := by omega
      rw [this] at hj2; exact hn hj2
    unfold gA
    rw [List.getD_eq_getElem?_getD, List.getElem?_set, if_neg this, ← List.getD_eq_getElem?_getD]
  have g2 : gA (A.set i.toNat (S : Int)) i = S := by
    unfold gA
    rw [List.getD_eq_getElem?_getD, List.getElem?_set, if_pos rfl, if_pos (by omega), Option.getD_some]
  have hud : ∀ s : Int, udn ps (dn ++ [i]) (A.set i.toNat (S : Int)) s = udn ps dn A s + if (S : Int) = s then pc ps i else 0 := fun s => by
    unfold udn
    rw [List.map_append, tot_app, List.map_cons, List.map_nil, g2]
    simp only [tot]
    rw [List.map_congr_left (fun j hj2 => by rw [g1 j hj2])]
    omega
  have hget : ∀ (s : Nat) (hs : s < (up sz L S (pc ps i)).length), (up sz L S (pc ps i))[s] = if S = s then Proofs.YtgmonagekfjnmaaDoor.rm sz L S - pc ps i else Proofs.YtgmonagekfjnmaaDoor.rm sz L s := fun s hs => up_get _ hs
  refine ⟨by simp [hlen], fun j hj2 => ?_, fun s hs => ?_, fun s hs => ?_, ?_, fun s t hs ht hne => ?_⟩
  · rcases List.mem_append.1 hj2 with h1 | h1
    · rw [g1 j h1]
      have := h.rng j h1
      omega
    · rw [List.mem_singleton.1 h1, g2]
      omega
  · by_cases e : s = S
    · exact ⟨i, by simp, by rw [g2, e]⟩
    · obtain ⟨j, hj2, e2⟩ := h.all s (by omega)
      exact ⟨j, by simp [hj2], by rw [g1 j hj2]; exact e2⟩
  · rw [hget s hs, hud]
    by_cases e : S = s
    · rw [if_pos e, if_pos (by omega), hrm, ← e]
      omega
    · rw [if_neg e, if_neg (by omega), h.rm (by omega)]
      omega
  · refine up_rng h.lr (by have := hj.lo; omega) (by omega) hp.1 hroom
  · rw [hget s hs, hget t ht]
    have key : ∀ (u : Nat), u ≠ S → u < (up sz L S (pc ps i)).length → Proofs.YtgmonagekfjnmaaDoor.rm sz L S - pc ps i + Proofs.YtgmonagekfjnmaaDoor.rm sz L u < sz := fun u hu hul2 => by
      have hul3 : u < L.length := by omega
      rw [rm_get hul3]
      by_cases e : S < L.length
      · rw [rm_get e]
        have := h.two S u e hul3 (fun e => hu e.symm)
        omega
      · have e2 : S = L.length := by omega
        have := hbel u hul3 (by omega)
        rw [e2, rm_end]
        omega
    by_cases e1 : S = s
    · rw [if_pos e1]
      rw [if_neg (by omega)]
      exact key t (by omega) ht
    · rw [if_neg e1]
      by_cases e2 : S = t
      · rw [if_pos e2]
        have := key s (by omega) hs
        omega
      · rw [if_neg e2]
        have h1 : s < L.length := by omega
        have h2 : t < L.length := by omega
        rw [rm_get h1, rm_get h2]
        exact h.two s t h1 h2 hne
theorem FI.fold {sz : Int} {ps : List Int} (hj : Job sz ps) : ∀ (o dn : List Int) (t : List Int × List Int), FI sz ps dn t.1 t.2 → (dn ++ o).Nodup → (∀ j ∈ dn ++ o, 0 ≤ j ∧ j < ps.length) → FI sz ps (dn ++ o) (ffo sz ps o t).1 (ffo sz ps o t).2
  | [], dn, t, h, _, _ => by rw [List.append_nil]; exact h
  | i :: o, dn, t, h, hn, hr => by
    have h1 := FI.step hj h (hr i (by simp)) (fun j hj2 => hr j (by simp [hj2])) (fun hm => by
      have := (List.nodup_append.1 hn).2.2 i hm i (by simp)
      exact this rfl)
    have := FI.fold hj o (dn ++ [i]) (fst1 sz ps t i) h1 (by simpa using hn) (by simpa using hr)
    rw [List.append_assoc, List.singleton_append] at this
    exact this
theorem ffA_FI {sz : Int} {ps o : List Int} (hj : Job sz ps) (h : Ord ps o) : FI sz ps o (ffA sz ps o).1 (ffA sz ps o).2 := by
  have := FI.fold hj o [] (zer ps.length, []) ⟨by simp [zer], by simp, by simp, by simp, by simp, by simp⟩ (by simpa using h.nd) (by simpa using h.rng)
  unfold ffA
  simpa using this
/-! The plan that is read off. -/
theorem usd_map {f : Int → Int} {x : Int} : ∀ {ps l : List Int}, (∀ y ∈ l, f y = f x → y = x) → usd ps (l.map f) (f x) = usd ps l x
  | [], [], _ => rfl
  | [], _ :: _, _ => rfl
  | _ :: _, [], _ => rfl
  | p :: ps, y :: l, h => by
    simp only [List.map_cons, usd]
    rw [usd_map (fun z hz => h z (by simp [hz]))]
    by_cases e : y = x
    · rw [if_pos e, if_pos (by rw [e])]
    · rw [if_neg e, if_neg (fun hh => e (h y (by simp) hh))]
theorem ps0_inj : ∀ {l : List Int} {x y : Int}, x ∈ l → y ∈ l → ps0 x l = ps0 y l → x = y := by
  intro l x y hx hy h
  have key : ∀ (l : List Int) (k : Nat) (x : Int), x ∈ l → ∃ i : Nat, fnd (fun y => x == y) k l = ((k + i : Nat) : Int) ∧ l[i]? = some x := by
    intro l
    induction l with
    | nil => intro k x hx; cases hx
    | cons z r ih =>
      intro k x hx
      unfold fnd
      by_cases e : x = z
      · exact ⟨0, by simp [e], by simp [e]⟩
      · obtain ⟨i, h1, h2⟩ := ih (k + 1) x ((List.mem_cons.1 hx).resolve_left e)
        refine ⟨i + 1, ?_, by simpa using h2⟩
        rw [if_neg (by simpa using e), h1]
        omega
  obtain ⟨i, h1, h2⟩ := key l 0 x hx
  obtain ⟨j, h3, h4⟩ := key l 0 y hy
  unfold ps0 at h
  rw [h1, h3] at h
  have : i = j := by omega
  subst this
  rw [h2] at h4
  exact Option.some.inj h4
theorem tid_usd {ps l : List Int} {x : Int} (hx : x ∈ l) : usd ps (tid [] l) (ps0 x (dd [] l)) = usd ps l x := by
  rw [tid_map]
  have hm : ∀ y ∈ l, y ∈ dd [] l := fun y hy => (dd_mem y l []).2 (.inr hy)
  exact usd_map (f := fun x => ps0 x (dd [] l)) (fun y hy e => ps0_inj (hm y hy) (hm x hx) e)
theorem tid_oer : ∀ (l met : List Int), oer met.length (tid met l) = 0
  | [], met => rfl
  | x :: l, met => by
    unfold tid
    split
    · rename_i h
      have hl := fnd_lt h
      unfold ps0 at hl
      unfold oer
      rw [if_neg (by omega), if_neg (by omega), Int.max_eq_left (by omega)]
      exact tid_oer l met
    · have ih := tid_oer l (met ++ [x])
      unfold oer
      rw [if_neg (by omega), if_neg (by omega), Int.max_eq_right (by omega)]
      rw [List.length_append, List.length_singleton] at ih
      exact ih
theorem dd_nodup : ∀ (l met : List Int), met.Nodup → (dd met l).Nodup
  | [], met, h => h
  | x :: l, met, h => by
    unfold dd
    split
    · exact dd_nodup l met h
    · rename_i hx
      refine dd_nodup l _ ?_
      rw [List.nodup_append]
      refine ⟨h, by simp, fun a ha b hb e => ?_⟩
      rw [List.mem_singleton.1 hb] at e
      rw [e] at ha
      exact hx ha
theorem tid_full (l : List Int) : mny (tid [] l) = (dd [] l).length := by
  have := tid_mny l l.length (Nat.le_refl _)
  rw [List.take_length, ← tid_len l [], List.take_length] at this
  exact this
theorem dd_range {l : List Int} {m : Nat} (h1 : ∀ x ∈ l, 0 ≤ x ∧ x < m) (h2 : ∀ s : Nat, s < m → (s : Int) ∈ l) : (dd [] l).length = m := by
  have hp : (dd [] l).Perm ((List.range m).map fun i : Nat => (i : Int)) := by
    refine (List.perm_ext_iff_of_nodup (dd_nodup l [] (by simp)) ?_).2 (fun x => ?_)
    · rw [List.Nodup, List.pairwise_map]
      exact (List.pairwise_lt_range).imp (fun h => by omega)
    · rw [dd_mem]
      constructor
      · rintro (h | h)
        · cases h
        · have := h1 x h
          exact List.mem_map.2 ⟨x.toNat, List.mem_range.2 (by omega), by omega⟩
      · intro h
        obtain ⟨k, hk, rfl⟩ := List.mem_map.1 h
        exact .inr (h2 k (List.mem_range.1 hk))
  rw [hp.length_eq]
  simp
theorem FI.mem {sz : Int} {ps o A L : List Int} (h : FI sz ps o A L) (ho : Ord ps o) : (∀ x ∈ A, 0 ≤ x ∧ x < L.length) ∧ ∀ s : Nat, s < L.length → (s : Int) ∈ A := by
  have hl := h.len
  constructor
  · intro x hx
    obtain ⟨i, hi, e⟩ := List.getElem_of_mem hx
    have := h.rng i (ho.mem i (by omega))
    unfold gA at this
    rw [Int.toNat_natCast, List.getD_eq_getElem?_getD, List.getElem?_eq_getElem hi, Option.getD_some, e] at this
    exact this
  · intro s hs
    obtain ⟨i, hi, e⟩ := h.all s hs
    have hr := ho.rng i hi
    unfold gA at e
    rw [List.getD_eq_getElem?_getD, List.getElem?_eq_getElem (by omega), Option.getD_some] at e
    rw [← e]
    exact List.getElem_mem _
/-- First fit makes a plan with as many sheets. -/
theorem ffA_pln {sz : Int} {ps o : List Int} (hj : Job sz ps) (ho : Ord ps o) : Pln sz ps (tid [] (ffA sz ps o).1) ∧ mny (tid [] (ffA sz ps o).1) = ((ffA sz ps o).2.length : Int) := by
  have h := ffA_FI hj ho
  obtain ⟨m1, m2⟩ := h.mem ho
  have hl := h.len
  refine ⟨⟨hj, by rw [tid_len]; exact hl, tid_oer _ [], fun x hx => ?_⟩, by rw [tid_full, dd_range m1 m2]⟩
  rw [tid_map] at hx
  obtain ⟨y, hy, rfl⟩ := List.mem_map.1 hx
  rw [tid_usd hy, usd_ord ho hl]
  have hr := m1 y hy
  have := h.left y.toNat (by omega)
  have h2 := h.lr _ (List.getElem_mem (show y.toNat < (ffA sz ps o).2.length by omega))
  rw [show ((y.toNat : Nat) : Int) = y by omega] at this
  omega
/-- What first fit keeps: a piece did not fit before its sheet; sheets before a great piece have great ones. -/
structure FJ (sz : Int) (ps dn A L : List Int) : Prop where
  fi : FI sz ps dn A L
  no : ∀ i ∈ dn, ∀ (s : Nat) (h : s < L.length), (s : Int) < gA A i → L[s] < pc ps i
  big : ∀ i ∈ dn, sz < 2 * pc ps i → ∀ s : Nat, (s : Int) ≤ gA A i → ∃ j ∈ dn, gA A j = s ∧ sz < 2 * pc ps j
theorem FJ.step {sz : Int} {ps dn A L : List Int} (hj : Job sz ps) (h : FJ sz ps dn A L) {i : Int} (hi : 0 ≤ i ∧ i < ps.length) (hdr : ∀ j ∈ dn, 0 ≤ j ∧ j < ps.length) (hn : i ∉ dn) (hf : ∀ j ∈ dn, pc ps i ≤ pc ps j) :
    FJ sz ps (dn ++ [i]) (fst1 sz ps (A, L) i).1 (fst1 sz ps (A, L) i).2 := by
  have hfi := h.fi.step hj hi hdr hn
  have hp := hj.ok _ (pc_mem hi.1 hi.2)
  have hfl := ffp_le (pc ps i) L
  have hul := up_len (sz := sz) (pc ps i) hfl
  have hlen := h.fi.len
  have hbel : ∀ (s : Nat) (hs : s < L.length), s < ffp (pc ps i) L → L[s] < pc ps i := fun s hs hh => ffp_below hs hh
  obtain ⟨S, hS⟩ : ∃ S, ffp (pc ps i) L = S := ⟨_, rfl⟩
  have key : fst1 sz ps (A, L) i = (A.set i.toNat (S : Int), up sz L S (pc ps i)) := by rw [← hS]; rfl
  rw [key] at hfi ⊢
  rw [hS] at hfl hul hbel
  refine ⟨hfi, ?_, ?_⟩
  · intro j hj2 s hs hlt
    have g1 : ∀ j ∈ dn, gA (A.set i.toNat (S : Int)) j = gA A j := fun j hj2 => by
      have h1 := hdr j hj2
      have : i.toNat ≠ j.toNat := fun e => by
        have : j = i := by omega
        rw [this] at hj2; exact hn hj2
      unfold gA
      rw [List.getD_eq_getElem?_getD, List.getElem?_set, if_neg this, ← List.getD_eq_getElem?_getD]
    have g2 : gA (A.set i.toNat (S : Int)) i = S := by
      unfold gA
      rw [List.getD_eq_getElem?_getD, List.getElem?_set, if_pos rfl, if_pos (by omega), Option.getD_some]
    have hs : s < (up sz L S (pc ps i)).length := hs
    show (up sz L S (pc ps i))[s] < pc ps j
    rw [up_get _ hs]
    rcases List.mem_append.1 hj2 with h1 | h1
    · rw [g1 j h1] at hlt
      have hr := h.fi.rng j h1
      have hsl : s < L.length := by omega
      have := h.no j h1 s hsl hlt
      by_cases e : S = s
      · rw [if_pos e, e, rm_get hsl]; omega
      · rw [if_neg e, rm_get hsl]; exact this
    · rw [List.mem_singleton.1 h1] at hlt ⊢
      rw [g2] at hlt
      rw [if_neg (by omega), rm_get (by omega)]
      exact hbel s (by omega) (by omega)
  · intro j hj2 hb s hle
    have g1 : ∀ j ∈ dn, gA (A.set i.toNat (S : Int)) j = gA A j := fun j hj2 => by
      have h1 := hdr j hj2
      have : i.toNat ≠ j.toNat := fun e => by
        have : j = i := by omega
        rw [this] at hj2; exact hn hj2
      unfold gA
      rw [List.getD_eq_getElem?_getD, List.getElem?_set, if_neg this, ← List.getD_eq_getElem?_getD]
    have g2 : gA (A.set i.toNat (S : Int)) i = S := by
      unfold gA
      rw [List.getD_eq_getElem?_getD, List.getElem?_set, if_pos rfl, if_pos (by omega), Option.getD_some]
    rcases List.mem_append.1 hj2 with h1 | h1
    · rw [g1 j h1] at hle
      obtain ⟨k, hk, h2, h3⟩ := h.big j h1 hb s hle
      exact ⟨k, by simp [hk], by rw [g1 k hk]; exact h2, h3⟩
    · rw [List.mem_singleton.1 h1] at hle hb
      rw [g2] at hle
      by_cases e : s = S
      · exact ⟨i, by simp, by rw [g2, e], hb⟩
      · obtain ⟨k, hk, h2⟩ := h.fi.all s (by omega)
        have := hf k hk
        exact ⟨k, by simp [hk], by rw [g1 k hk]; exact h2, by omega⟩
theorem FJ.fold {sz : Int} {ps : List Int} (hj : Job sz ps) : ∀ (o dn : List Int) (t : List Int × List Int), FJ sz ps dn t.1 t.2 → (dn ++ o).Nodup → (∀ j ∈ dn ++ o, 0 ≤ j ∧ j < ps.length) → (dn ++ o).Pairwise (fun i j => pc ps j ≤ pc ps i) → FJ sz ps (dn ++ o) (ffo sz ps o t).1 (ffo sz ps o t).2
  | [], dn, t, h, _, _, _ => by rw [List.append_nil]; exact h
  | i :: o, dn, t, h, hn, hr, hp => by
    have h1 := FJ.step hj h (hr i (by simp)) (fun j hj2 => hr j (by simp [hj2])) (fun hm => by
      have := (List.nodup_append.1 hn).2.2 i hm i (by simp)
      exact this rfl) (fun j hj2 => (List.pairwise_append.1 hp).2.2 j hj2 i (by simp))
    have := FJ.fold hj o (dn ++ [i]) (fst1 sz ps t i) h1 (by simpa using hn) (by simpa using hr) (by simpa using hp)
    rw [List.append_assoc, List.singleton_append] at this
    exact this
/-! The pieces of the sheets from some one on. -/
/-- Two places exchanged. -/
def swp (l : List Int) (i k : Nat) : List Int := (l.set i (l.getD k 0)).set k (l.getD i 0)
theorem swp_len (l : List Int) (i k : Nat) : (swp l i k).length = l.length := by simp [swp]
theorem getD_at {l : List Int} {i : Nat} (h : i < l.length) : l.getD i 0 = l[i] := by rw [List.getD_eq_getElem?_getD, List.getElem?_eq_getElem h, Option.getD_some]
theorem swp_get {l : List Int} {i k j : Nat} (hi : i < l.length) (hk : k < l.length) : (swp l i k).getD j 0 = if j = k then l.getD i 0 else if j = i then l.getD k 0 else l.getD j 0 := by
  unfold swp
  rw [List.getD_eq_getElem?_getD, List.getElem?_set, List.getElem?_set]
  by_cases e : j = k
  · rw [if_pos e.symm, if_pos (by simp; exact e ▸ hk), if_pos e]; rfl
  · rw [if_neg (fun h => e h.symm), if_neg e]
    by_cases e2 : j = i
    · rw [if_pos e2.symm, if_pos (e2 ▸ hi), if_pos e2]; rfl
    · rw [if_neg (fun h => e2 h.symm), if_neg e2, ← List.getD_eq_getElem?_getD]
theorem ext_getD {a b : List Int} (hl : a.length = b.length) (h : ∀ j, j < a.length → a.getD j 0 = b.getD j 0) : a = b := by
  apply List.ext_getElem hl
  intro j h1 h2
  have := h j h1
  rwa [getD_at h1, getD_at h2] at this
theorem swp_swp {l : List Int} {i k : Nat} (hi : i < l.length) (hk : k < l.length) : swp (swp l i k) i k = l := by
  refine ext_getD (by rw [swp_len, swp_len]) (fun j hj => ?_)
  rw [swp_get (by rw [swp_len]; exact hi) (by rw [swp_len]; exact hk), swp_get hi hk, swp_get hi hk, swp_get hi hk]
  by_cases e1 : j = k
  · rw [if_pos e1]
    by_cases e2 : i = k
    · rw [if_pos e2, e1, e2]
    · rw [if_neg e2, if_pos rfl, e1]
  · rw [if_neg e1]
    by_cases e2 : j = i
    · rw [if_pos e2, if_pos rfl, e2]
    · rw [if_neg e2, if_neg e1, if_neg e2]
theorem getD_map {f : Int → Int} {l : List Int} {j : Nat} (h : j < l.length) : (l.map f).getD j 0 = f (l.getD j 0) := by
  rw [getD_at (by simpa using h), getD_at h, List.getElem_map]
theorem swp_map (f : Int → Int) {l : List Int} {i k : Nat} (hi : i < l.length) (hk : k < l.length) : swp (l.map f) i k = (swp l i k).map f := by
  refine ext_getD (by simp [swp_len]) (fun j hj => ?_)
  rw [swp_len, List.length_map] at hj
  rw [swp_get (l := l.map f) (by simpa using hi) (by simpa using hk), getD_map (l := swp l i k) (by rw [swp_len]; exact hj), swp_get (l := l) hi hk, getD_map hi, getD_map hk, getD_map hj]
  split
  · rfl
  · split <;> rfl
theorem swp_perm {l : List Int} {i k : Nat} (hi : i < l.length) (hk : k < l.length) : (swp l i k).Perm l := by
  rw [List.perm_iff_count]
  intro b
  unfold swp
  rw [getD_at hi, getD_at hk, List.count_set (by simpa using hk), List.count_set hi]
  have hc : ∀ j (hj : j < l.length), l[j] == b → 1 ≤ l.count b := fun j hj e => by
    have : l[j] = b := by simpa using e
    exact List.count_pos_iff.2 (this ▸ List.getElem_mem hj)
  by_cases e : i = k
  · subst e
    have h1 := hc i hi
    simp only [List.getElem_set_self]
    by_cases e1 : l[i] == b
    · have := h1 e1
      simp only [e1, if_true]
      omega
    · simp only [e1]
      simp
  · have h1 := hc i hi
    have hg : (l.set i l[k])[k]'(by simpa using hk) = l[k] := by rw [List.getElem_set]; rw [if_neg e]
    rw [hg]
    by_cases e1 : l[i] == b <;> by_cases e2 : l[k] == b <;> simp only [e1, e2, if_true, Bool.false_eq_true, if_false]
    · have := h1 e1; omega
    · have := h1 e1; omega
    · omega
    · omega
/-- What is used stays. -/
theorem usd_swp {ps q : List Int} (hl : q.length = ps.length) {i k : Nat} (hi : i < ps.length) (hk : k < ps.length) (s : Int) : usd (swp ps i k) (swp q i k) s = usd ps q s := by
  rw [usd_udn s _ _ (by rw [swp_len, swp_len]; exact hl), usd_udn s _ _ hl, swp_len]
  have e : (List.range ps.length).map (fun j : Nat => if (swp q i k).getD j 0 = s then (swp ps i k).getD j 0 else 0) = swp ((List.range ps.length).map fun j : Nat => if q.getD j 0 = s then ps.getD j 0 else 0) i k := by
    refine ext_getD (by simp [swp_len]) (fun j hj => ?_)
    rw [List.length_map, List.length_range] at hj
    have hg : ∀ (F : Nat → Int) (m : Nat), m < ps.length → ((List.range ps.length).map F).getD m 0 = F m := fun F m hm => by
      rw [getD_at (by simpa using hm)]; simp
    rw [hg _ j hj, swp_get (l := (List.range ps.length).map fun j : Nat => if q.getD j 0 = s then ps.getD j 0 else 0) (by simpa using hi) (by simpa using hk), hg _ i hi, hg _ k hk, hg _ j hj, swp_get (l := q) (by omega) (by omega), swp_get (l := ps) hi hk]
    by_cases e1 : j = k
    · rw [if_pos e1, if_pos e1, if_pos e1]
    · rw [if_neg e1, if_neg e1, if_neg e1]
      by_cases e2 : j = i
      · rw [if_pos e2, if_pos e2, if_pos e2]
      · rw [if_neg e2, if_neg e2, if_neg e2]
  rw [e]
  exact tot_perm (swp_perm (by simpa using hi) (by simpa using hk))
/-! Numbers anew. -/
theorem oer_onto : ∀ (l : List Int) (m : Int), oer m l = 0 → ∀ s, m ≤ s → s < l.foldl (fun a s => max a (s + 1)) m → s ∈ l
  | [], m, _, s, h1, h2 => by simp at h2; omega
  | x :: l, m, h, s, h1, h2 => by
    unfold oer at h
    split at h
    · omega
    · split at h
      · omega
      · rw [List.foldl_cons] at h2
        by_cases e : s = x
        · simp [e]
        · exact List.mem_cons_of_mem _ (oer_onto l _ h s (by omega) h2)
theorem pln_vals {sz : Int} {ps q : List Int} (h : Pln sz ps q) : (∀ x ∈ q, 0 ≤ x ∧ x < ((mny q).toNat : Nat)) ∧ ∀ s : Nat, s < (mny q).toNat → (s : Int) ∈ q := by
  have h0 := mny_nn q
  constructor
  · intro x hx
    have h1 := h.rng x hx
    have h2 := mny_lt hx
    omega
  · intro s hs
    exact oer_onto q 0 h.ord s (by omega) (by unfold mny at *; omega)
theorem fnd_map {f : Int → Int} {x : Int} : ∀ {l : List Int} (k : Nat), (∀ y ∈ l, f y = f x → y = x) → fnd (fun y => f x == y) k (l.map f) = fnd (fun y => x == y) k l
  | [], k, _ => rfl
  | y :: l, k, h => by
    simp only [List.map_cons, fnd]
    rw [fnd_map (k + 1) (fun z hz => h z (by simp [hz]))]
    by_cases e : x = y
    · rw [if_pos (by simp [e]), if_pos (by simp [e])]
    · rw [if_neg (by simpa using fun hh => e (h y (by simp) hh.symm).symm), if_neg (by simpa using e)]
theorem tid_map_inj {f : Int → Int} : ∀ (l met : List Int), (∀ x ∈ met ++ l, ∀ y ∈ met ++ l, f x = f y → x = y) → tid (met.map f) (l.map f) = tid met l
  | [], met, _ => rfl
  | x :: l, met, h => by
    rw [List.map_cons]
    unfold tid
    have hmem : f x ∈ met.map f ↔ x ∈ met := by
      constructor
      · intro hm
        obtain ⟨y, hy, e⟩ := List.mem_map.1 hm
        rw [← h y (by simp [hy]) x (by simp) e]
        exact hy
      · exact fun hm => List.mem_map.2 ⟨x, hm, rfl⟩
    by_cases e : x ∈ met
    · rw [if_pos e, if_pos (hmem.2 e), fnd_map 0 (fun y hy he => h y (by simp [hy]) x (by simp) he), tid_map_inj l met (fun a ha b hb => h a (by
        rcases List.mem_append.1 ha with ha | ha
        · simp [ha]
        · simp [ha]) b (by
        rcases List.mem_append.1 hb with hb | hb
        · simp [hb]
        · simp [hb]))]
    · rw [if_neg e, if_neg (fun hh => e (hmem.1 hh)), List.length_map]
      have := tid_map_inj l (met ++ [x]) (fun a ha b hb => h a (by simpa using ha) b (by simpa using hb))
      rw [List.map_append, List.map_singleton] at this
      rw [this]
theorem tid_self : ∀ (l : List Int) (m : Nat), oer m l = 0 → tid ((List.range m).map fun i : Nat => (i : Int)) l = l
  | [], m, _ => rfl
  | x :: l, m, h => by
    unfold oer at h
    split at h
    · omega
    · split at h
      · omega
      · rename_i h0 h1
        have hmem : x ∈ (List.range m).map (fun i : Nat => (i : Int)) ↔ x < m := by
          rw [List.mem_map]
          constructor
          · rintro ⟨i, hi, rfl⟩
            have := List.mem_range.1 hi
            omega
          · intro hh
            exact ⟨x.toNat, List.mem_range.2 (by omega), by omega⟩
        unfold tid
        by_cases e : x < m
        · rw [if_pos (hmem.2 e)]
          have hf : fnd (fun y => x == y) 0 ((List.range m).map fun i : Nat => (i : Int)) = x := by
            have hsp : (List.range m).map (fun i : Nat => (i : Int)) = ((List.range x.toNat).map fun i : Nat => (i : Int)) ++ x :: ((List.range' (x.toNat + 1) (m - x.toNat - 1)).map fun i : Nat => (i : Int)) := by
              have : List.range m = List.range x.toNat ++ x.toNat :: List.range' (x.toNat + 1) (m - x.toNat - 1) := by
                have h1 : List.range m = List.range' 0 (x.toNat + (m - x.toNat)) := by rw [List.range_eq_range', show x.toNat + (m - x.toNat) = m by omega]
                rw [h1, ← List.range'_append_1, ← List.range_eq_range', Nat.zero_add, show m - x.toNat = (m - x.toNat - 1) + 1 by omega, List.range'_succ]
                rfl
              rw [this, List.map_append, List.map_cons, show ((x.toNat : Nat) : Int) = x by omega]
            rw [hsp, fnd_new (x := x) (a := (List.range x.toNat).map fun i : Nat => (i : Int)) _ 0 (fun hm => by
              obtain ⟨i, hi, e⟩ := List.mem_map.1 hm
              have := List.mem_range.1 hi
              omega)]
            simp
            omega
          rw [hf, tid_self l m (by rwa [Int.max_eq_left (by omega)] at h)]
        · have e2 : x = m := by omega
          rw [if_neg (fun hh => e (hmem.1 hh))]
          have hr : (List.range m).map (fun i : Nat => (i : Int)) ++ [x] = (List.range (m + 1)).map fun i : Nat => (i : Int) := by
            rw [List.range_succ, List.map_append, e2]; rfl
          rw [hr, tid_self l (m + 1) (by rw [Int.max_eq_right (by omega), e2] at h; exact h), e2]
          simp
theorem tid_pln {sz : Int} {ps q : List Int} (h : Pln sz ps q) : tid [] q = q := tid_self q 0 h.ord
/-! Plans of the pieces whose places are exchanged. -/
def mvp (i k : Nat) (q : List Int) : List Int := tid [] (swp q i k)
theorem mvp_pln {sz : Int} {ps q : List Int} {i k : Nat} (hi : i < ps.length) (hk : k < ps.length) (hj : Job sz (swp ps i k)) (h : Pln sz ps q) : Pln sz (swp ps i k) (mvp i k q) ∧ mny (mvp i k q) = mny q := by
  have hl := h.len
  have hpm := swp_perm (l := q) (i := i) (k := k) (by omega) (by omega)
  obtain ⟨v1, v2⟩ := pln_vals h
  have h0 := mny_nn q
  unfold mvp
  refine ⟨⟨hj, by rw [tid_len, swp_len, swp_len]; exact hl, tid_oer _ [], fun x hx => ?_⟩, ?_⟩
  · rw [tid_map] at hx
    obtain ⟨y, hy, rfl⟩ := List.mem_map.1 hx
    rw [tid_usd hy, usd_swp hl hi hk]
    exact h.fit y (hpm.mem_iff.1 hy)
  · rw [tid_full, dd_range (m := (mny q).toNat) (fun x hx => v1 x (hpm.mem_iff.1 hx)) (fun s hs => hpm.mem_iff.2 (v2 s hs))]
    omega
theorem mvp_mvp {sz : Int} {ps q : List Int} {i k : Nat} (hi : i < ps.length) (hk : k < ps.length) (h : Pln sz ps q) : mvp i k (mvp i k q) = q := by
  have hl := h.len
  have hpm := swp_perm (l := q) (i := i) (k := k) (by omega) (by omega)
  unfold mvp
  rw [tid_map (swp q i k) [], swp_map _ (by rw [swp_len]; omega) (by rw [swp_len]; omega), swp_swp (by omega) (by omega)]
  have := tid_map_inj (f := fun x => ps0 x (dd [] (swp q i k))) q [] (fun x hx y hy e => by
    have hm : ∀ y ∈ q, y ∈ dd [] (swp q i k) := fun y hy => (dd_mem y _ []).2 (.inr (hpm.mem_iff.2 hy))
    exact ps0_inj (hm x (by simpa using hx)) (hm y (by simpa using hy)) e)
  rw [List.map_nil] at this
  rw [this, tid_pln h]
theorem pl_nodup {sz : Int} {mo : Nat} : ∀ (r b L : List Int), (pl sz mo r b L).Nodup
  | [], b, L => by simp [pl]
  | p :: r, b, L => by
    unfold pl
    have : ∀ (l : List Nat), l.Nodup → (l.flatMap fun s => if p ≤ rm sz L s then pl sz mo r (b ++ [(s : Int)]) (up sz L s p) else []).Nodup := by
      intro l
      induction l with
      | nil => intro _; simp
      | cons s l ih =>
        intro hn
        rw [List.nodup_cons] at hn
        rw [List.flatMap_cons, List.nodup_append]
        refine ⟨?_, ih hn.2, fun x hx y hy e => ?_⟩
        · split
          · exact pl_nodup r _ _
          · simp
        · subst e
          obtain ⟨s2, hs2, hy2⟩ := List.mem_flatMap.1 hy
          split at hx
          · split at hy2
            · obtain ⟨t1, _, e1⟩ := pl_pre r _ _ x hx
              obtain ⟨t2, _, e2⟩ := pl_pre r _ _ x hy2
              rw [e1, List.append_assoc, List.append_assoc] at e2
              have := List.append_cancel_left e2
              simp only [List.singleton_append] at this
              have h3 := (List.cons.inj this).1
              have : s = s2 := by omega
              rw [this] at hn
              exact hn.1 hs2
            · cases hy2
          · cases hx
    exact this _ (List.nodup_range')
theorem nodup_sub : ∀ {a b : List (List Int)}, a.Nodup → (∀ x ∈ a, x ∈ b) → a.length ≤ b.length
  | [], _, _, _ => by simp
  | x :: a, b, hn, h => by
    rw [List.nodup_cons] at hn
    have hx := h x (by simp)
    have := nodup_sub (a := a) (b := b.erase x) hn.2 (fun y hy => by
      have hne : y ≠ x := fun e => by rw [e] at hy; exact hn.1 hy
      exact (List.mem_erase_of_ne hne).2 (h y (by simp [hy])))
    rw [List.length_erase_of_mem hx] at this
    have := List.length_pos_of_mem hx
    rw [List.length_cons]
    omega
theorem swp_job {sz : Int} {ps : List Int} {i k : Nat} (hi : i < ps.length) (hk : k < ps.length) (hj : Job sz ps) : Job sz (swp ps i k) :=
  ⟨hj.lo, hj.hi, by rw [swp_len]; exact hj.len, fun p hp => hj.ok p ((swp_perm hi hk).mem_iff.1 hp)⟩
theorem swp_le {sz : Int} {ps : List Int} {i k : Nat} (hi : i < ps.length) (hk : k < ps.length) (hj : Job sz ps) (mo : Nat) : (apl sz ps mo).length ≤ (apl sz (swp ps i k) mo).length := by
  have hj2 := swp_job hi hk hj
  rw [← List.length_map (f := mvp i k)]
  refine nodup_sub ?_ (fun x hx => ?_)
  · rw [List.Nodup, List.pairwise_map]
    have hn : (apl sz ps mo).Nodup := pl_nodup ps [] []
    rw [List.Nodup, List.pairwise_iff_forall_sublist] at hn
    rw [List.pairwise_iff_forall_sublist]
    intro a b hab e
    have ha := ((apl_iff hj).1 (hab.subset (show a ∈ [a, b] by simp))).1
    have hb := ((apl_iff hj).1 (hab.subset (show b ∈ [a, b] by simp))).1
    refine hn hab ?_
    rw [← mvp_mvp hi hk ha, ← mvp_mvp hi hk hb, e]
  · obtain ⟨q, hq, rfl⟩ := List.mem_map.1 hx
    obtain ⟨h1, h2⟩ := (apl_iff hj).1 hq
    obtain ⟨h3, h4⟩ := mvp_pln hi hk hj2 h1
    exact (apl_iff hj2).2 ⟨h3, by omega⟩
theorem swp_count {sz : Int} {ps : List Int} {i k : Nat} (hi : i < ps.length) (hk : k < ps.length) (hj : Job sz ps) (mo : Nat) : (apl sz (swp ps i k) mo).length = (apl sz ps mo).length := by
  have h1 := swp_le hi hk hj mo
  have h2 := swp_le (ps := swp ps i k) (i := i) (k := k) (by rw [swp_len]; exact hi) (by rw [swp_len]; exact hk) (swp_job hi hk hj) mo
  rw [swp_swp hi hk] at h2
  omega
end Go.Proofs.YtgmonagekfjnmaaDoor
set_option linter.unusedVariables false
set_option linter.unusedSimpArgs false
set_option maxRecDepth 100000
namespace Go.Proofs.YtgmonagekfjnmaaDoor
open Go.Vi
/-D 53 -/
/-D 8 -/
end Go.Proofs.YtgmonagekfjnmaaDoor
set_option linter.unusedVariables false
set_option linter.unusedSimpArgs false
namespace Go.Proofs.YtgmonagekfjnmaaDoor
open Go.Vi
def goodC (s : Int) : Option (List Int) → Bool
  | some l => decide (l.length ≤ 20) && !l.isEmpty && l.all fun p => decide (1 ≤ p) && decide (s % p = 0) && l.all fun q => decide (p % q = 0) || decide (q % p = 0)
  | none => false
theorem chain_all : ∀ s : Fin 25, ∀ b : Fin 128, 1 ≤ s.val → goodC s.val (D89 N s.val b.val) = true := by decide +kernel
abbrev Stp := Int × Int × Int × Int × Int × Int × Int × Int × Int × Int × Int
abbrev ShS : Sh := .pair (.int .u8) (.pair (.int .u8) (.pair (.int .u8) (.pair (.int .u8) (.pair (.int .u8) (.pair (.int .u8) (.pair (.int .u8) (.pair (.int .u8) (.pair (.int .u8) (.pair (.int .u8) (.int .u8))))))))))
def By (x : Int) : Prop := 0 ≤ x ∧ x ≤ 255
structure StpOk (s : Stp) : Prop where
  size : By s.1
  many : By s.2.1
  chain : By s.2.2.1
  cuts : ∀ x ∈ [s.2.2.2.1, s.2.2.2.2.1, s.2.2.2.2.2.1, s.2.2.2.2.2.2.1, s.2.2.2.2.2.2.2.1, s.2.2.2.2.2.2.2.2.1, s.2.2.2.2.2.2.2.2.2.1, s.2.2.2.2.2.2.2.2.2.2], By x
theorem u8_rng {x : Int} (h : (Lit.int .u8 x).wf = true) : 0 ≤ x ∧ x ≤ 255 := by
  simpa [Lit.wf, IntKind.min, IntKind.max, IntKind.signed, IntKind.bits] using h
theorem by_wf {x : Int} (h : Wf (.int .u8) x) : By x := u8_rng h
theorem stp_ok {s : Stp} (h : Wf ShS s) : StpOk s := by
  obtain ⟨ha, hb, hc, h1, h2, h3, h4, h5, h6, h7, h8⟩ := h
  refine ⟨by_wf ha, by_wf hb, by_wf hc, fun x hx => ?_⟩
  simp only [List.mem_cons, List.not_mem_nil, or_false] at hx
  rcases hx with e | e | e | e | e | e | e | e <;> subst e
  · exact by_wf h1
  · exact by_wf h2
  · exact by_wf h3
  · exact by_wf h4
  · exact by_wf h5
  · exact by_wf h6
  · exact by_wf h7
  · exact by_wf h8
theorem pick_loop (n : Nat × Nat) (sz : Int) {cs lens : List Int} (hc : ∀ x ∈ cs, By x) (hl : lens ≠ []) (hll : lens.length ≤ 100) (h8 : cs.length ≤ 8) : ∀ (m k : Nat) (out : List Int), k ≤ cs.length → cs.length - k < m → out.length = k → (∀ x ∈ out, x ∈ lens) →
    ∃ ps, DL48_1 n m sz cs (cs.length : Int) (k : Int) lens out = some (sz, ps) ∧ ps.length = cs.length ∧ ∀ x ∈ ps, x ∈ lens
  | 0, k, out, _, h, _, _ => by omega
  | m + 1, k, out, hk, h, ho, hm => by
    rw [DL48_1_succ]
    unfold DF48_1
    have hpos : 0 < lens.length := List.length_pos_iff.2 hl
    by_cases hlt : k < cs.length
    · have hx := hc _ (List.getElem_mem hlt)
      unfold By at hx
      have hmod := Int.emod_nonneg cs[k] (show (lens.length : Int) ≠ 0 by omega)
      have hmod2 := Int.emod_lt_of_pos cs[k] (show (0 : Int) < lens.length by omega)
      have hi : (cs[k] % (lens.length : Int)).toNat < lens.length := by omega
      have hi2 : cs[k] % (lens.length : Int) = (((cs[k] % (lens.length : Int)).toNat : Nat) : Int) := by omega
      rw [dlt_t hlt, cond_true, idx_nat hlt, Option.bind_some, beq_false_of_ne (show (lens.length : Int) ≠ 0 by omega), cond_false, wr_ok (by omega) (by omega), tmod_mod hx.1, hi2, inB_nat hi, cond_true, idx_nat hi, Option.bind_some, lim_dec (by omega), cond_true, wr_succ (by omega)]
      exact pick_loop n sz hc hl hll h8 m (k + 1) _ (by omega) (by omega) (by simp [ho]) (fun x hx => by
        rcases List.mem_append.1 hx with hx | hx
        · exact hm x hx
        · rw [List.mem_singleton.1 hx]; exact List.getElem_mem _)
    · rw [dlt_f hlt, cond_false]
      exact ⟨out, rfl, by omega, hm⟩
theorem cuts_take {s : Stp} (h : StpOk s) {k : Nat} : ∀ x ∈ [s.2.2.2.1, s.2.2.2.2.1, s.2.2.2.2.2.1, s.2.2.2.2.2.2.1, s.2.2.2.2.2.2.2.1, s.2.2.2.2.2.2.2.2.1, s.2.2.2.2.2.2.2.2.2.1, s.2.2.2.2.2.2.2.2.2.2].take k, By x := fun x hx => h.cuts x (List.mem_of_mem_take hx)
theorem many_ok {s : Stp} (h : StpOk s) {most : Nat} (hm : most ≤ 8) : wr .i64 ((most : Int) + 1) = ((most + 1 : Nat) : Int) ∧ (((most + 1 : Nat) : Int) == 0) = false ∧ Int.tmod (wr .i64 s.2.1) ((most + 1 : Nat) : Int) = (((s.2.1 % ((most + 1 : Nat) : Int)).toNat : Nat) : Int) ∧ (s.2.1 % ((most + 1 : Nat) : Int)).toNat ≤ most := by
  have h1 := h.many
  unfold By at h1
  have hmod := Int.emod_nonneg s.2.1 (show ((most + 1 : Nat) : Int) ≠ 0 by omega)
  have hmod2 := Int.emod_lt_of_pos s.2.1 (show (0 : Int) < ((most + 1 : Nat) : Int) by omega)
  refine ⟨wr_succ (by omega), beq_false_of_ne (by omega), ?_, by omega⟩
  rw [wr_ok (by omega) (by omega), tmod_mod h1.1]
  omega
theorem fill_loop (n : Nat × Nat) (hn : 1000 ≤ n.1) {s : Stp} (h : StpOk s) {most : Nat} (hm : most ≤ 8) {sz : Int} (hs : 1 ≤ sz ∧ sz ≤ 24) : ∀ (m k : Nat) (lens : List Int), (k : Int) ≤ sz → sz - k < m → lens.length = k → (∀ x ∈ lens, 1 ≤ x ∧ x ≤ sz) →
    ∃ ps, DL48_2 n m most sz sz (k : Int) s.1 s.2.1 s.2.2.1 s.2.2.2.1 s.2.2.2.2.1 s.2.2.2.2.2.1 s.2.2.2.2.2.2.1 s.2.2.2.2.2.2.2.1 s.2.2.2.2.2.2.2.2.1 s.2.2.2.2.2.2.2.2.2.1 s.2.2.2.2.2.2.2.2.2.2 lens = some (sz, ps) ∧ ps.length ≤ most ∧ ∀ x ∈ ps, 1 ≤ x ∧ x ≤ sz
  | 0, k, lens, _, hh, _, _ => by omega
  | m + 1, k, lens, hk, hh, hl, hb => by
    rw [DL48_2_succ]
    unfold DF48_2
    by_cases hlt : (k : Int) < sz
    · rw [decide_eq_true hlt, cond_true, lim_dec (by omega), cond_true, wr_succ (by omega)]
      exact fill_loop n hn h hm hs m (k + 1) _ (by omega) (by omega) (by simp [hl]) (fun x hx => by
        rcases List.mem_append.1 hx with hx | hx
        · exact hb x hx
        · rw [List.mem_singleton.1 hx]; omega)
    · obtain ⟨e1, e2, e3, e4⟩ := many_ok h hm
      rw [decide_eq_false hlt, cond_false, e1, e2, cond_false, e3, bounds_hi (by omega), cond_true, Int.toNat_natCast]
      obtain ⟨ps, hp, hpl, hpm⟩ := pick_loop n sz (cs := [s.2.2.2.1, s.2.2.2.2.1, s.2.2.2.2.2.1, s.2.2.2.2.2.2.1, s.2.2.2.2.2.2.2.1, s.2.2.2.2.2.2.2.2.1, s.2.2.2.2.2.2.2.2.2.1, s.2.2.2.2.2.2.2.2.2.2].take (s.2.1 % ((most + 1 : Nat) : Int)).toNat) (lens := lens) (cuts_take h) (by intro e; rw [e] at hl; simp at hl; omega) (by omega) (by rw [List.length_take]; exact Nat.min_le_right _ _) n.1 0 [] (by omega) (by simp; omega) rfl (by simp)
      exact ⟨ps, hp, by rw [hpl, List.length_take]; omega, fun x hx => hb x (hpm x hx)⟩
/-- What a job by numbers is. -/
theorem made_ok {s : Stp} (h : StpOk s) {most : Nat} (hm : most ≤ 8) : ∃ sz ps, D48 N s most = some (sz, ps) ∧ Job sz ps ∧ ps.length ≤ most ∧ (s.2.2.1 % 2 = 1 → IsC sz ps) := by
  have h1 := h.size
  have h3 := h.chain
  unfold By at h1 h3
  obtain ⟨e1, e2, e3, e4⟩ := many_ok h hm
  have hsz : wr .i64 (1 + Int.tmod (wr .i64 s.1) 24) = 1 + s.1 % 24 := by
    rw [wr_ok (x := s.1) (by omega) (by omega), tmod_mod h1.1, wr_ok (by omega) (by omega)]
  have hb : wr .i64 (Int.tdiv (wr .i64 s.2.2.1) 2) = s.2.2.1 / 2 := by
    rw [wr_ok (x := s.2.2.1) (by omega) (by omega), Int.tdiv_eq_ediv_of_nonneg h3.1, wr_ok (by omega) (by omega)]
  unfold D48
  rw [show ((24 : Nat) == 0) = false from rfl, show ((2 : Nat) == 0) = false from rfl, cond_false, cond_false, hsz, tmod_mod h3.1]
  by_cases e : s.2.2.1 % 2 = 1
  · rw [show (s.2.2.1 % 2 == 1) = true by simpa using e, cond_true, cond_false, hb]
    have hg := chain_all ⟨(1 + s.1 % 24).toNat, by omega⟩ ⟨(s.2.2.1 / 2).toNat, by omega⟩ (by simp only []; omega)
    simp only [] at hg
    rw [show (((1 + s.1 % 24).toNat : Nat) : Int) = 1 + s.1 % 24 by omega, show (((s.2.2.1 / 2).toNat : Nat) : Int) = s.2.2.1 / 2 by omega] at hg
    cases hD : D89 N (1 + s.1 % 24) (s.2.2.1 / 2) with
    | none => rw [hD] at hg; cases hg
    | some lens =>
      rw [hD] at hg
      simp only [goodC, Bool.and_eq_true, decide_eq_true_eq, List.all_eq_true, Bool.or_eq_true, Bool.not_eq_true', List.isEmpty_eq_false_iff] at hg
      obtain ⟨⟨hg1, hg2⟩, hg3⟩ := hg
      rw [Option.bind_some, e1, e2, cond_false, e3, bounds_hi (by omega), cond_true, Int.toNat_natCast]
      obtain ⟨ps, hp, hpl, hpm⟩ := pick_loop N (1 + s.1 % 24) (cs := [s.2.2.2.1, s.2.2.2.2.1, s.2.2.2.2.2.1, s.2.2.2.2.2.2.1, s.2.2.2.2.2.2.2.1, s.2.2.2.2.2.2.2.2.1, s.2.2.2.2.2.2.2.2.2.1, s.2.2.2.2.2.2.2.2.2.2].take (s.2.1 % ((most + 1 : Nat) : Int)).toNat) (lens := lens) (cuts_take h) hg2 (by omega) (by rw [List.length_take]; exact Nat.min_le_right _ _) N.1 0 [] (by omega) (by have : N.1 = 1000000 := rfl; simp; omega) rfl (by simp)
      have hdiv : ∀ p ∈ lens, 1 ≤ p ∧ p ≤ 1 + s.1 % 24 ∧ (1 + s.1 % 24) % p = 0 := fun p hp => by
        have := (hg3 p hp).1
        exact ⟨this.1, Int.le_of_dvd (by omega) (Int.dvd_of_emod_eq_zero this.2), this.2⟩
      have hlen : ps.length ≤ most := by rw [hpl, List.length_take]; omega
      refine ⟨1 + s.1 % 24, ps, hp, ⟨by omega, by omega, by omega, fun p hp => ?_⟩, hlen, fun _ => ⟨fun p hp => (hdiv p (hpm p hp)).2.2, ?_⟩⟩
      · have := hdiv p (hpm p hp)
        exact ⟨this.1, this.2.1⟩
      · rw [List.pairwise_iff_forall_sublist]
        intro a b hab
        have ha := hpm a (hab.subset (by simp))
        have hb := hpm b (hab.subset (by simp))
        exact (hg3 a ha).2 b hb
  · rw [show (s.2.2.1 % 2 == 1) = false from beq_false_of_ne e, cond_false]
    obtain ⟨ps, hp, hpl, hpm⟩ := fill_loop N hN1 h hm (sz := 1 + s.1 % 24) ⟨by omega, by omega⟩ N.1 0 [] (by omega) (by have : N.1 = 1000000 := rfl; omega) rfl (by simp)
    exact ⟨1 + s.1 % 24, ps, hp, ⟨by omega, by omega, by omega, hpm⟩, hpl, fun h => absurd h e⟩
end Go.Proofs.YtgmonagekfjnmaaDoor
set_option linter.unusedVariables false
set_option linter.unusedSimpArgs false
set_option maxRecDepth 100000
namespace Go.Proofs.YtgmonagekfjnmaaDoor
open Go.Vi
/-D 11 -/
end Go.Proofs.YtgmonagekfjnmaaDoor
set_option linter.unusedVariables false
set_option linter.unusedSimpArgs false
namespace Go.Proofs.YtgmonagekfjnmaaDoor
open Go.Vi
abbrev B8 := Int × Int × Int × Int × Int × Int × Int × Int
abbrev ShB : Sh := .pair (.int .u8) (.pair (.int .u8) (.pair (.int .u8) (.pair (.int .u8) (.pair (.int .u8) (.pair (.int .u8) (.pair (.int .u8) (.int .u8)))))))
def bl (v : B8) : List Int := [v.1, v.2.1, v.2.2.1, v.2.2.2.1, v.2.2.2.2.1, v.2.2.2.2.2.1, v.2.2.2.2.2.2.1, v.2.2.2.2.2.2.2]
theorem b8_ok {v : B8} (h : Wf ShB v) : ∀ x ∈ bl v, By x := by
  obtain ⟨h1, h2, h3, h4, h5, h6, h7, h8⟩ := h
  intro x hx
  unfold bl at hx
  simp only [List.mem_cons, List.not_mem_nil, or_false] at hx
  rcases hx with e | e | e | e | e | e | e | e <;> subst e
  · exact by_wf h1
  · exact by_wf h2
  · exact by_wf h3
  · exact by_wf h4
  · exact by_wf h5
  · exact by_wf h6
  · exact by_wf h7
  · exact by_wf h8
theorem bl_len (v : B8) : (bl v).length = 8 := rfl
/-- The place that a number names. -/
def pick (v : B8) (i : Nat) : Nat := ((bl v).getD i 0 % ((i + 1 : Nat) : Int)).toNat
theorem pick_ok {v : B8} (h : ∀ x ∈ bl v, By x) {i : Nat} (hi : i < 8) : idx (bl v) (i : Int) = some ((bl v).getD i 0) ∧ Int.tmod (wr .i64 ((bl v).getD i 0)) ((i + 1 : Nat) : Int) = (pick v i : Int) ∧ pick v i ≤ i := by
  have hl := bl_len v
  have hb := h _ (List.getElem_mem (show i < (bl v).length by omega))
  rw [← getD_at (by omega)] at hb
  unfold By at hb
  have hmod := Int.emod_nonneg ((bl v).getD i 0) (show ((i + 1 : Nat) : Int) ≠ 0 by omega)
  have hmod2 := Int.emod_lt_of_pos ((bl v).getD i 0) (show (0 : Int) < ((i + 1 : Nat) : Int) by omega)
  refine ⟨by rw [idx_nat (by omega), getD_at (by omega)], ?_, by unfold pick; omega⟩
  rw [wr_ok (by omega) (by omega), tmod_mod hb.1]
  unfold pick
  omega
/-- Pieces with other numbers. -/
structure Mvd (sz : Int) (ps mv : List Int) : Prop where
  job : Job sz mv
  perm : mv.Perm ps
  cnt : ∀ mo, (apl sz mv mo).length = (apl sz ps mo).length
theorem Mvd.swap {sz : Int} {ps mv : List Int} (h : Mvd sz ps mv) {i k : Nat} (hi : i < mv.length) (hk : k < mv.length) : Mvd sz ps (swp mv i k) :=
  ⟨swp_job hi hk h.job, (swp_perm hi hk).trans h.perm, fun mo => (swp_count hi hk h.job mo).trans (h.cnt mo)⟩
/-! The falling order, by lengths. -/
theorem plc_mem (s : Int) : ∀ (l : List Int) (k : Nat) (x : Int), x ∈ plc s k l ↔ ∃ i : Nat, l[i]? = some s ∧ x = ((k + i : Nat) : Int)
  | [], k, x => by simp [plc]
  | y :: l, k, x => by
    have ih := plc_mem s l (k + 1) x
    have hsplit : (∃ i : Nat, (y :: l)[i]? = some s ∧ x = ((k + i : Nat) : Int)) ↔ (y = s ∧ x = (k : Int)) ∨ ∃ i : Nat, l[i]? = some s ∧ x = ((k + 1 + i : Nat) : Int) := by
      constructor
      · rintro ⟨i, h1, h2⟩
        cases i with
        | zero => exact .inl ⟨by simpa using h1, by simpa using h2⟩
        | succ i => exact .inr ⟨i, by simpa using h1, by rw [h2]; omega⟩
      · rintro (⟨h1, h2⟩ | ⟨i, h1, h2⟩)
        · exact ⟨0, by simp [h1], by simp [h2]⟩
        · exact ⟨i + 1, by simpa using h1, by rw [h2]; omega⟩
    have hp : plc s k (y :: l) = if y = s then (k : Int) :: plc s (k + 1) l else plc s (k + 1) l := rfl
    rw [hsplit, ← ih, hp]
    by_cases e : y = s
    · rw [if_pos e, List.mem_cons]
      simp [e]
    · rw [if_neg e]
      simp [e]
theorem plc_pair (s : Int) : ∀ (l : List Int) (k : Nat), (plc s k l).Pairwise (· < ·)
  | [], k => by simp [plc]
  | y :: l, k => by
    unfold plc
    split
    · refine List.pairwise_cons.2 ⟨fun x hx => ?_, plc_pair s l (k + 1)⟩
      obtain ⟨i, _, rfl⟩ := (plc_mem s l (k + 1) x).1 hx
      omega
    · exact plc_pair s l (k + 1)
theorem pc_nat {ps : List Int} {i : Nat} {p : Int} (h : ps[i]? = some p) : pc ps (i : Int) = p := by
  unfold pc
  rw [Int.toNat_natCast, List.getD_eq_getElem?_getD, h, Option.getD_some]
/-! Chains fill sheets. -/
end Go.Proofs.YtgmonagekfjnmaaDoor
set_option linter.unusedVariables false
set_option linter.unusedSimpArgs false
set_option maxRecDepth 100000
namespace Go.Proofs.YtgmonagekfjnmaaDoor
open Go.Vi
/-D 54 -/
/-D 9 -/
end Go.Proofs.YtgmonagekfjnmaaDoor
set_option linter.unusedVariables false
set_option linter.unusedSimpArgs false
namespace Go.Proofs.YtgmonagekfjnmaaDoor
open Go.Vi
/-! In the order of a plan's sheets. -/
theorem plc_tot (ps : List Int) (s : Int) : ∀ (l ps' : List Int) (k : Nat), l.length = ps'.length → (∀ j : Nat, ps'[j]? = ps[k + j]?) → tot ((plc s k l).map (pc ps)) = usd ps' l s
  | [], [], _, _, _ => rfl
  | x :: l, p :: ps', k, h, hp => by
    have h0 := hp 0
    simp only [List.getElem?_cons_zero, Nat.add_zero] at h0
    have ih := plc_tot ps s l ps' (k + 1) (by simpa using h) (fun j => by
      have := hp (j + 1)
      rw [List.getElem?_cons_succ] at this
      rw [this]
      congr 1
      omega)
    have hpk : pc ps (k : Int) = p := pc_nat h0.symm
    simp only [plc, usd]
    by_cases e : x = s
    · rw [if_pos e, if_pos e, List.map_cons]
      simp only [tot]
      rw [ih, hpk]
    · rw [if_neg e, if_neg e, ih]; omega
  | [], _ :: _, _, h, _ => by simp at h
  | _ :: _, [], _, h, _ => by simp at h
/-! Sheets not more than half full. -/
theorem swp_app (a z : List Int) {i k : Nat} (hi : i < a.length) (hk : k < a.length) : swp (a ++ z) i k = swp a i k ++ z := by
  unfold swp
  have e : ∀ j, j < a.length → (a ++ z).getD j 0 = a.getD j 0 := fun j hj => by
    rw [List.getD_eq_getElem?_getD, List.getElem?_append_left hj, ← List.getD_eq_getElem?_getD]
  rw [e i hi, e k hk, List.set_append, if_pos hi, List.set_append, if_pos (by simpa using hk)]
/-! Groups, put where their pieces are. -/
theorem pin_ok (g : Int) : ∀ (l out : List Int), l.Nodup → (∀ x ∈ l, 0 ≤ x ∧ x < out.length ∧ out.getD x.toNat 0 < 0) →
    (pin g l out).1 = 0 ∧ ∀ j : Nat, j < out.length → (pin g l out).2.getD j 0 = if (j : Int) ∈ l then g else out.getD j 0
  | [], out, _, _ => ⟨rfl, fun j _ => by simp [pin]⟩
  | x :: l, out, hn, h => by
    obtain ⟨h0, h1, h2⟩ := h x List.mem_cons_self
    have hx := (List.nodup_cons.1 hn).1
    have hset : ∀ j : Nat, (out.set x.toNat g).getD j 0 = if j = x.toNat ∧ j < out.length then g else out.getD j 0 := fun j => by
      rw [List.getD_eq_getElem?_getD, List.getD_eq_getElem?_getD, List.getElem?_set]
      by_cases e : x.toNat = j
      · subst e
        by_cases hl : x.toNat < out.length
        · rw [if_pos rfl, if_pos hl, if_pos ⟨rfl, hl⟩, Option.getD_some]
        · omega
      · rw [if_neg e, if_neg (fun h => e h.1.symm)]
    obtain ⟨i1, i2⟩ := pin_ok g l (out.set x.toNat g) (List.nodup_cons.1 hn).2 (fun y hy => by
      obtain ⟨a, b, c⟩ := h y (List.mem_cons_of_mem _ hy)
      refine ⟨a, by rw [List.length_set]; exact b, ?_⟩
      rw [hset, if_neg]
      · exact c
      · rintro ⟨e, _⟩
        have : y = x := by omega
        rw [this] at hy
        exact hx hy)
    unfold pin
    rw [if_neg (by omega), if_neg (by omega)]
    refine ⟨i1, fun j hj => ?_⟩
    rw [i2 j (by rw [List.length_set]; exact hj), hset]
    by_cases e : (j : Int) ∈ l
    · rw [if_pos e, if_pos (List.mem_cons_of_mem _ e)]
    · rw [if_neg e]
      by_cases e2 : j = x.toNat
      · rw [if_pos ⟨e2, hj⟩, if_pos (by rw [show (j : Int) = x by omega]; exact List.mem_cons_self)]
      · rw [if_neg (fun h => e2 h.1), if_neg]
        intro h
        rcases List.mem_cons.1 h with h | h
        · omega
        · exact e h
/-- A group, its pieces from the last one on. -/
def sg (q : List Int) (s : Int) : List Int := (plc s 0 q).reverse
theorem sg_mem {q : List Int} {s : Int} {x : Int} : x ∈ sg q s ↔ ∃ i : Nat, q[i]? = some s ∧ x = (i : Int) := by
  unfold sg
  rw [List.mem_reverse, plc_mem]
  simp only [Nat.zero_add]
theorem sg_nd (q : List Int) (s : Int) : (sg q s).Nodup := by
  unfold sg
  refine List.pairwise_reverse.2 ((plc_pair s q 0).imp (fun h e => by omega))
theorem pot_ok {q : List Int} : ∀ (ss : List Int) (g : Nat) (out : List Int), ss.Nodup → (∀ s ∈ ss, s ∈ q) → out.length = q.length → (∀ j : Nat, ∀ s, q[j]? = some s → s ∈ ss → out.getD j 0 < 0) →
    (pot (g : Int) (ss.map (sg q)) out).1 = 0 ∧ ∀ j : Nat, ∀ s, q[j]? = some s → (pot (g : Int) (ss.map (sg q)) out).2.getD j 0 = if s ∈ ss then fnd (fun y => s == y) g ss else out.getD j 0
  | [], g, out, _, _, _, _ => ⟨rfl, fun j s _ => by simp [pot]⟩
  | s0 :: ss, g, out, hn, hq, hl, ho => by
    obtain ⟨hn0, hn1⟩ := List.nodup_cons.1 hn
    have hne : sg q s0 ≠ [] := by
      intro e
      obtain ⟨i, hi⟩ := List.getElem?_of_mem (hq s0 List.mem_cons_self)
      have : (i : Int) ∈ sg q s0 := sg_mem.2 ⟨i, hi, rfl⟩
      rw [e] at this
      cases this
    obtain ⟨p1, p2⟩ := pin_ok (g : Int) (sg q s0) out (sg_nd q s0) (fun x hx => by
      obtain ⟨i, hi, rfl⟩ := sg_mem.1 hx
      have := (List.getElem?_eq_some_iff.1 hi).1
      refine ⟨by omega, by omega, ?_⟩
      rw [Int.toNat_natCast]
      exact ho i s0 hi List.mem_cons_self)
    have p3 : ∀ (j : Nat) (s : Int), q[j]? = some s → (pin (g : Int) (sg q s0) out).2.getD j 0 = if s = s0 then (g : Int) else out.getD j 0 := fun j s hj => by
      have hjl := (List.getElem?_eq_some_iff.1 hj).1
      rw [p2 j (by omega)]
      by_cases e : s = s0
      · rw [if_pos e, if_pos (sg_mem.2 ⟨j, by rw [← e]; exact hj, rfl⟩)]
      · rw [if_neg e, if_neg]
        intro h
        obtain ⟨i, hi, h⟩ := sg_mem.1 h
        have : i = j := by omega
        subst this
        rw [hj] at hi
        exact e (Option.some.inj hi)
    obtain ⟨i1, i2⟩ := pot_ok ss (g + 1) (pin (g : Int) (sg q s0) out).2 hn1 (fun s hs => hq s (List.mem_cons_of_mem _ hs)) (by rw [pin_len]; exact hl) (fun j s hj hs => by
      rw [p3 j s hj, if_neg (fun e => hn0 (by rw [← e]; exact hs))]
      exact ho j s hj (List.mem_cons_of_mem _ hs))
    rw [List.map_cons]
    unfold pot
    rw [if_neg hne, if_neg (by simpa using p1), show (g : Int) + 1 = ((g + 1 : Nat) : Int) by omega]
    refine ⟨i1, fun j s hj => ?_⟩
    have hf : fnd (fun y => s == y) g (s0 :: ss) = if s = s0 then (g : Int) else fnd (fun y => s == y) (g + 1) ss := by
      by_cases e : s = s0
      · rw [if_pos e]; unfold fnd; rw [if_pos (by simpa using e)]
      · rw [if_neg e]; conv => lhs; unfold fnd
        rw [if_neg (by simpa using e)]
    rw [i2 j s hj, p3 j s hj, hf]
    by_cases e : s = s0
    · rw [if_pos e, if_pos e, if_neg (by rw [e]; exact hn0), if_pos (by rw [e]; exact List.mem_cons_self)]
    · rw [if_neg e, if_neg e]
      by_cases e2 : s ∈ ss
      · rw [if_pos e2, if_pos (List.mem_cons_of_mem _ e2)]
      · rw [if_neg e2, if_neg (fun h => (List.mem_cons.1 h).elim e e2)]
/-- Groups lead back to their plan, in any order. -/
theorem groups_back {sz : Int} {ps q ss : List Int} (h : Pln sz ps q) (hn : ss.Nodup) (hs : ∀ s, s ∈ ss ↔ s ∈ q) : plnS sz ps (ss.map (sg q)) = (q, 0) := by
  have hl := h.len
  obtain ⟨p1, p2⟩ := pot_ok ss 0 (List.replicate ps.length (-1)) hn (fun s hs' => (hs s).1 hs') (by simp [hl]) (fun j s hj _ => by
    have := (List.getElem?_eq_some_iff.1 hj).1
    rw [List.getD_eq_getElem?_getD, List.getElem?_replicate, if_pos (by omega)]
    decide)
  have hA : (pot 0 (ss.map (sg q)) (List.replicate ps.length (-1))).2 = q.map fun s => ps0 s ss := by
    refine ext_getD (by rw [pot_len]; simp [hl]) (fun j hj => ?_)
    rw [pot_len, List.length_replicate] at hj
    have hjq : j < q.length := by omega
    have p2' : (pot 0 (ss.map (sg q)) (List.replicate ps.length (-1))).2.getD j 0 = _ := p2 j q[j] (List.getElem?_eq_getElem hjq)
    rw [p2', if_pos ((hs _).2 (List.getElem_mem hjq)), getD_at (by simpa using hjq), List.getElem_map]
    rfl
  have ht : tid [] (q.map fun s => ps0 s ss) = q := by
    have := tid_map_inj (f := fun s => ps0 s ss) q [] (fun x hx y hy e => ps0_inj ((hs x).2 (by simpa using hx)) ((hs y).2 (by simpa using hy)) e)
    rw [List.map_nil] at this
    rw [this, tid_pln h]
  unfold plnS plnOut
  have p1' : (pot 0 (ss.map (sg q)) (List.replicate ps.length (-1))).1 = 0 := p1
  rw [if_neg (by simpa using chk_job.2 h.job), if_neg (by simpa using p1'), hA, ht, if_neg, if_neg (by simpa using vld_pln.2 h)]
  intro hm
  obtain ⟨s, hs1, hs2⟩ := List.mem_map.1 hm
  have := (fnd_lt ((hs s).2 hs1)).1
  omega
/-! The opposite order. -/
theorem rev_loop (n : Nat × Nat) {l : List Int} (hl : l.length ≤ 1000) : ∀ (m i : Nat) (j : Int) (xs : List Int), i + j = (l.length : Int) - 1 → l.length < m + i → xs.length = l.length → -1 ≤ j → (i : Int) ≤ j + 1 →
    (∀ p : Nat, p < l.length → xs.getD p 0 = if p < i ∨ j < p then l.getD (l.length - 1 - p) 0 else l.getD p 0) → DL63io1_1 n m (i : Int) j xs = some ((), l.reverse, ())
  | 0, i, j, xs, hij, hm, _, _, h5, _ => by omega
  | m + 1, i, j, xs, hij, hm, hx, h4, h5, hg => by
    rw [DL63io1_1_succ]
    unfold DF63io1_1
    by_cases hlt : (i : Int) < j
    · obtain ⟨J, rfl⟩ := Int.eq_ofNat_of_zero_le (show 0 ≤ j by omega)
      have hi : i < xs.length := by omega
      have hJ : J < xs.length := by omega
      have hJ3 : J < (xs.set i xs[J]).length := by simpa using hJ
      have e3 : ∃ y, idx (xs.set i xs[J]) (J : Int) = some y := ⟨_, idx_nat hJ3⟩
      obtain ⟨y, hy⟩ := e3
      rw [decide_eq_true hlt, cond_true, inB_nat hJ, cond_true, idx_nat hJ, Option.bind_some, inB_nat hi, cond_true, idx_nat hi, Option.bind_some, cond_true, Option.bind_some, Int.toNat_natCast, inB_nat hJ3, cond_true, hy, Option.bind_some, Int.toNat_natCast, wr_succ (by omega), wr_ok (x := (J : Int) - 1) (by omega) (by omega)]
      have e1 : (xs.set i xs[J]).set J xs[i] = swp xs i J := by unfold swp; rw [getD_at hJ, getD_at hi]
      rw [e1]
      refine rev_loop n hl m (i + 1) ((J : Int) - 1) _ (by omega) (by omega) (by rw [swp_len]; exact hx) (by omega) (by omega) (fun p hp => ?_)
      rw [swp_get hi hJ]
      have gi := hg i (by omega)
      have gJ := hg J (by omega)
      have gp := hg p hp
      rw [if_neg (by omega)] at gi gJ
      by_cases c1 : p = J
      · subst c1
        rw [if_pos rfl, if_pos (by omega), gi]
        congr 1
        omega
      · rw [if_neg c1]
        by_cases c2 : p = i
        · subst c2
          rw [if_pos rfl, if_pos (by omega), gJ]
          congr 1
          omega
        · rw [if_neg c2, gp]
          by_cases c3 : p < i ∨ (J : Int) < p
          · rw [if_pos c3, if_pos (by omega)]
          · rw [if_neg c3, if_neg (by omega)]
    · rw [decide_eq_false hlt, cond_false]
      congr 2
      refine Prod.ext ?_ rfl
      refine ext_getD (by simp [hx]) (fun p hp => ?_)
      show xs.getD p 0 = _
      rw [hx] at hp
      rw [hg p hp, getD_at (l := l.reverse) (by simpa using hp), List.getElem_reverse]
      by_cases c : p < i ∨ j < p
      · rw [if_pos c, getD_at (by omega)]
      · rw [if_neg c, getD_at hp]
        congr 1
        omega
theorem rev_eq {l : List Int} (hl : l.length ≤ 1000) : D63io1 N l = some ((), l.reverse, ()) := by
  unfold D63io1
  rw [wr_ok (by omega) (by omega)]
  exact rev_loop N hl N.1 0 _ l (by omega) (by have : N.1 = 1000000 := rfl; omega) rfl (by omega) (by omega) (fun p hp => by rw [if_neg (by omega)])
/-! Lists put together. -/
theorem con_in (n : Nat × Nat) (gs : List (List (List Int))) (hs : gs.length ≤ 1000) : ∀ (m k : Nat) (acc : List (List Int)), k ≤ gs.length → gs.length - k < m → acc.length + ((gs.drop k).flatten).length ≤ 1000 →
    DL64_3 n m gs (gs.length : Int) (k : Int) acc = some (acc ++ (gs.drop k).flatten)
  | 0, k, acc, _, h, _ => by omega
  | m + 1, k, acc, hk, h, hl => by
    rw [DL64_3_succ]
    unfold DF64_3
    by_cases hlt : k < gs.length
    · rw [drop_cons hlt, List.flatten_cons, List.length_append] at hl
      rw [dlt_t hlt, cond_true, idx_nat hlt, Option.bind_some, decide_eq_true (show acc.length + gs[k].length ≤ lim by unfold lim; omega), cond_true, wr_succ (by omega), drop_cons hlt, List.flatten_cons, ← List.append_assoc]
      exact con_in n gs hs m (k + 1) _ (by omega) (by omega) (by rw [List.length_append]; omega)
    · rw [dlt_f hlt, cond_false, List.drop_of_length_le (by omega)]
      simp
theorem con_loop (n : Nat × Nat) (hn : 1001 ≤ n.1) (gs : List (List (List Int))) (hs : gs.length ≤ 1000) (ht : gs.flatten.length ≤ 1000) : ∀ (m k : Nat) (a : Nat), k ≤ gs.length → gs.length - k < m → a + ((gs.drop k).flatten).length ≤ 1000 →
    DL64_1 n m gs (a : Int) gs (gs.length : Int) (k : Int) = some gs.flatten
  | 0, k, a, _, h, _ => by omega
  | m + 1, k, a, hk, h, hl => by
    rw [DL64_1_succ]
    unfold DF64_1
    by_cases hlt : k < gs.length
    · rw [drop_cons hlt, List.flatten_cons, List.length_append] at hl
      rw [dlt_t hlt, cond_true, idx_nat hlt, Option.bind_some, wr_ok (x := (a : Int) + (gs[k].length : Int)) (by omega) (by omega), decide_eq_false (show ¬ (a : Int) + (gs[k].length : Int) < 0 by omega), cond_false]
      unfold DL64_2
      rw [wr_succ (by omega), show (a : Int) + (gs[k].length : Int) = ((a + gs[k].length : Nat) : Int) by omega]
      exact con_loop n hn gs hs ht m (k + 1) _ (by omega) (by omega) (by omega)
    · rw [dlt_f hlt, cond_false, decide_eq_true (show (0 : Int) ≤ (a : Int) by omega), decide_eq_true (show (a : Int) ≤ 1073741824 by omega), Bool.and_self, cond_true]
      have := con_in n gs hs n.1 0 [] (by omega) (by omega) (by simpa using ht)
      rw [List.drop_zero, List.nil_append] at this
      exact this
theorem con_eq (gs : List (List (List Int))) (hs : gs.length ≤ 1000) (ht : gs.flatten.length ≤ 1000) : D64 N gs = some gs.flatten := by
  unfold D64
  exact con_loop N (by decide) gs hs ht N.1 0 0 (by omega) (by have : N.1 = 1000000 := rfl; omega) (by rw [List.drop_zero]; omega)
/-! The law's loops. -/
theorem gr_in (f1 : Int → Int → List Int → List Int → Int → Int → List Int → List (List Int) → List (List Int) → Option R15) (turn sz : Int) (ps : List Int) {q : List Int} (h8 : q.length ≤ 8) (s v127 v128 : Int) (l14 : List Int) (g16 gs : List (List Int)) :
    ∀ (m k : Nat) (own : List Int), k ≤ q.length → q.length - k < m → own.length + (q.length - k) ≤ 1000 →
    DL15_3 N f1 m turn sz ps q s v127 v128 q (q.length : Int) (k : Int) l14 g16 gs own =
      DL15_5 N f1 N.1 turn sz ps q s 0 v127 v128 ((own ++ plc s k (q.drop k)).length : Int) 0 l14 g16 gs (own ++ plc s k (q.drop k))
  | 0, k, _, _, h, _ => by omega
  | m + 1, k, own, hk, h, ho => by
    rw [DL15_3_succ]
    unfold DF15_3
    by_cases hlt : k < q.length
    · rw [dlt_t hlt, cond_true, idx_nat hlt, Option.bind_some, drop_cons hlt]
      unfold DL15_4 plc
      by_cases e : q[k] = s
      · rw [show (q[k] == s) = true by simpa using e, cond_true, lim_dec (by omega), cond_true, wr_succ (by omega), if_pos e]
        rw [gr_in f1 turn sz ps h8 s v127 v128 l14 g16 gs m (k + 1) _ (by omega) (by omega) (by rw [List.length_append, List.length_singleton]; omega), List.append_assoc, List.singleton_append]
      · rw [beq_false_of_ne e, cond_false, wr_succ (by omega), if_neg e, gr_in f1 turn sz ps h8 s v127 v128 l14 g16 gs m (k + 1) _ (by omega) (by omega) (by omega)]
    · rw [dlt_f hlt, cond_false, List.drop_of_length_le (by omega)]
      simp [plc]
theorem gr_used (f1 : Int → Int → List Int → List Int → Int → Int → List Int → List (List Int) → List (List Int) → Option R15) (turn : Int) {sz : Int} {ps q : List Int} (h : Pln sz ps q) (s : Nat) (hs : (s : Int) < mny q) (v127 : Int) {gs : List (List Int)} (hg : gs.length ≤ 100) :
    ∀ (m k : Nat) (u : Int), k ≤ (plc (s : Int) 0 q).length → (plc (s : Int) 0 q).length - k < m → 0 ≤ u → u ≤ 24 * k → u + tot (((plc (s : Int) 0 q).drop k).map (pc ps)) = usd ps q s →
    DL15_5 N f1 m turn sz ps q (s : Int) u v127 (s : Int) ((plc (s : Int) 0 q).length : Int) (k : Int) (lf sz ps q) (grp q (mny q).toNat) gs (plc (s : Int) 0 q) =
      f1 turn sz ps q v127 ((s + 1 : Nat) : Int) (lf sz ps q) (grp q (mny q).toNat) (gs ++ [sg q s])
  | 0, k, _, _, hh, _, _, _ => by omega
  | m + 1, k, u, hk, hh, hu0, hu1, ht => by
    have hl := h.len
    have h8 := h.job.len
    have hlo := h.job.lo
    have hhi := h.job.hi
    have hm8 := h.mny
    have hpl := plc_len (s : Int) q 0
    rw [DL15_5_succ]
    unfold DF15_5
    by_cases hlt : k < (plc (s : Int) 0 q).length
    · obtain ⟨i, hi, hx⟩ := (plc_mem (s : Int) q 0 _).1 (List.getElem_mem hlt)
      have hiq := (List.getElem?_eq_some_iff.1 hi).1
      rw [Nat.zero_add] at hx
      have hip : i < ps.length := by omega
      have hpi := h.job.ok _ (List.getElem_mem hip)
      have hpc : pc ps (plc (s : Int) 0 q)[k] = ps[i] := by rw [hx]; exact pc_nat (List.getElem?_eq_getElem hip)
      rw [drop_cons hlt, List.map_cons, hpc] at ht
      simp only [tot] at ht
      rw [dlt_t hlt, cond_true, inB_nat hlt, cond_true, idx_nat hlt, Option.bind_some, hx, idx_nat hip, Option.bind_some, wr_ok (x := u + ps[i]) (by omega) (by omega), wr_succ (by omega)]
      exact gr_used f1 turn h s hs v127 hg m (k + 1) _ (by omega) (by omega) (by omega) (by omega) (by omega)
    · rw [List.drop_of_length_le (by omega)] at ht
      have ht : u = usd ps q s := by simpa [tot] using ht
      have hs2 : s < (grp q (mny q).toNat).length := by simp [grp]; omega
      have hs3 : s < (lf sz ps q).length := by have := lf_len sz ps q; omega
      have hg0 : (grp q (mny q).toNat)[s] = plc (s : Int) 0 q := by simp [grp]
      have hu2 := usd_nn (s := (s : Int)) (ps := ps) (l := q) (fun p hp => by have := h.job.ok p hp; omega)
      have hu3 := usd_le (s := (s : Int)) (ps := ps) (l := q) (fun p hp => by have := h.job.ok p hp; omega)
      rw [dlt_f hlt, cond_false, inB_nat hs2, cond_true, idx_nat hs2, Option.bind_some, hg0, same_eq hN1 (by omega), Option.bind_some, decide_eq_true rfl]
      simp only [Bool.not_true, beq_self_eq_true, cond_true]
      rw [inB_nat hs3, cond_true, idx_nat hs3, Option.bind_some, lf_get, ht, wr_ok (x := sz - usd ps q (s : Int)) (by omega) (by omega)]
      simp only [bne_self_eq_false, Option.bind_some, cond_false]
      rw [rev_eq (by omega), Option.bind_some]
      simp only [List.length_reverse, Nat.beq_refl, cond_true]
      rw [lim_dec (by omega), cond_true, wr_succ (by omega)]
      rfl
theorem nat_range_nodup (n : Nat) : ((List.range n).map fun i : Nat => (i : Int)).Nodup := (List.nodup_range (n := n)).map _ (fun a b h e => h (Int.ofNat.inj e))
theorem gr_end {sz : Int} {ps q : List Int} (h : Pln sz ps q) {ss : List Int} (hn : ss.Nodup) (hs : ∀ s, s ∈ ss ↔ s ∈ q) (hl : ss.length ≤ 8) : D22 N sz ps (ss.map (sg q)) = some (q, 0) := by
  rw [Plan_eq sz ps _ (by simp; omega) (fun l hl2 => by
    obtain ⟨s, _, rfl⟩ := List.mem_map.1 hl2
    have := plc_len s q 0
    have := h.len
    have := h.job.len
    unfold sg
    rw [List.length_reverse]
    omega), groups_back h hn hs]
theorem gr_loop {turn : Int} (htn : By turn) {sz : Int} {ps q : List Int} (h : Pln sz ps q) : ∀ (m s : Nat), (s : Int) ≤ mny q → mny q - s < m →
    DL15_2 N m turn sz ps q (mny q) (s : Int) (lf sz ps q) (grp q (mny q).toNat) ((List.range s).map fun i : Nat => sg q (i : Int)) = some true
  | 0, s, _, hh => by omega
  | m + 1, s, hk, hh => by
    have hl := h.len
    have h8 := h.job.len
    have hm8 := h.mny
    rw [DL15_2_succ]
    unfold DF15_2
    by_cases hlt : (s : Int) < mny q
    · have h1 := gr_in (DL15_2 N m) turn sz ps (q := q) (by omega) (s : Int) (mny q) (s : Int) (lf sz ps q) (grp q (mny q).toNat) ((List.range s).map fun i : Nat => sg q (i : Int)) N.1 0 [] (by omega) (by have : N.1 = 1000000 := rfl; omega) (by simp; omega)
      rw [List.drop_zero, List.nil_append] at h1
      have h2 := gr_used (DL15_2 N m) turn h s hlt (mny q) (gs := (List.range s).map fun i : Nat => sg q (i : Int)) (by simp; omega) N.1 0 0 (by omega) (by have : N.1 = 1000000 := rfl; have := plc_len (s : Int) q 0; omega) (by omega) (by omega) (by rw [List.drop_zero, Int.zero_add]; exact plc_tot ps (s : Int) q ps 0 hl (fun j => by rw [Nat.zero_add]))
      rw [decide_eq_true hlt, cond_true]
      refine Eq.trans h1 (Eq.trans h2 ?_)
      have := gr_loop htn h m (s + 1) (by omega) (by omega)
      rw [List.range_succ, List.map_append] at this
      exact this
    · have he : (mny q).toNat = s := by omega
      obtain ⟨v1, v2⟩ := pln_vals h
      rw [he] at v1 v2
      have hmap : ((List.range s).map fun i : Nat => sg q (i : Int)) = ((List.range s).map fun i : Nat => (i : Int)).map (sg q) := by rw [List.map_map]; rfl
      have hss : ∀ x : Int, x ∈ ((List.range s).map fun i : Nat => (i : Int)) ↔ x ∈ q := fun x => by
        constructor
        · intro hx
          obtain ⟨i, hi, rfl⟩ := List.mem_map.1 hx
          exact v2 i (List.mem_range.1 hi)
        · intro hx
          have := v1 x hx
          exact List.mem_map.2 ⟨x.toNat, List.mem_range.2 (by omega), by omega⟩
      rw [decide_eq_false hlt, cond_false, hmap]
      generalize hR : ((List.range s).map fun i : Nat => (i : Int)) = ss at *
      have hnd : ss.Nodup := by rw [← hR]; exact nat_range_nodup s
      have hsl : ss.length = s := by rw [← hR]; simp
      have fin : ∀ ss' : List Int, ss'.Nodup → (∀ x, x ∈ ss' ↔ x ∈ q) → ss'.length = s →
          ((D22 N sz ps (ss'.map (sg q))).bind fun r24' =>
            ((bif ((r24'.2 == 0) == true) then (D24 N r24'.1 q).bind fun r25' => some r25' else some false)).bind fun b26' =>
            ((bif (b26' == true) then (D17 N).bind fun r27' => some r27' else some false)).bind fun b28' => some b28') = some true := fun ss' h1 h2 h3 => by
        rw [gr_end h h1 h2 (by omega), Option.bind_some]
        simp only [beq_self_eq_true, cond_true]
        rw [same_eq hN1 (by omega), Option.bind_some, decide_eq_true rfl, Option.bind_some]
        simp only [beq_self_eq_true, cond_true, works_eq, Option.bind_some]
      by_cases h0 : 0 < s
      · unfold By at htn
        have ht : wr .i64 turn = turn := wr_ok (by omega) (by omega)
        have hk : Int.tmod (wr .i64 turn) (s : Int) = ((turn % (s : Int)).toNat : Int) ∧ (turn % (s : Int)).toNat < s := by
          rw [ht, tmod_mod (by omega)]
          have h1 := Int.emod_nonneg turn (b := (s : Int)) (by omega)
          have h2 := Int.emod_lt_of_pos turn (b := (s : Int)) (by omega)
          omega
        obtain ⟨hk1, hk2⟩ := hk
        generalize (turn % (s : Int)).toNat = k at hk1 hk2
        rw [List.length_map, hsl, hk1, decide_eq_true (show (s : Int) > 0 by omega), cond_true, beq_false_of_ne (show (s : Int) ≠ 0 by omega), cond_false]
        have b1 : bounds (some (k : Int)) none none s = true := by unfold bounds; simp; omega
        have b2 : bounds none (some (k : Int)) none s = true := by unfold bounds; simp; omega
        rw [b1, cond_true, b2, cond_true, Int.toNat_natCast, Nat.zero_add, Nat.add_zero, Nat.sub_zero, List.drop_zero]
        have e1 : ((ss.map (sg q)).drop k).take (s - k) = (ss.drop k).map (sg q) := by
          rw [List.take_of_length_le (by simp; omega), List.map_drop]
        have e2 : (ss.map (sg q)).take k = (ss.take k).map (sg q) := List.map_take.symm
        rw [e1, e2, con_eq _ (by simp) (by simp; omega), Option.bind_some]
        have e3 : [(ss.drop k).map (sg q), (ss.take k).map (sg q)].flatten = (ss.drop k ++ ss.take k).map (sg q) := by simp
        rw [e3]
        have hp : (ss.drop k ++ ss.take k).Perm ss := by
          have := List.perm_append_comm (l₁ := ss.drop k) (l₂ := ss.take k)
          rw [List.take_append_drop] at this
          exact this
        exact fin _ (hp.nodup_iff.2 hnd) (fun x => (hp.mem_iff).trans (hss x)) (by rw [hp.length_eq, hsl])
      · rw [List.length_map, hsl, decide_eq_false (show ¬ (s : Int) > 0 by omega), cond_false]
        exact fin ss hnd hss hsl
theorem lf_tot {sz : Int} {ps q : List Int} (h : Pln sz ps q) : tot (lf sz ps q) + tot ps = sz * mny q ∧ ∀ x ∈ lf sz ps q, 0 ≤ x ∧ x ≤ 24 := by
  obtain ⟨v1, v2⟩ := pln_vals h
  have hn := mny_nn q
  have h1 := sum_sel tot_add (mny q).toNat ps q h.len.symm v1
  have h2 : ∀ m : Nat, tot ((List.range m).map fun s : Nat => sz - usd ps q (s : Int)) + sumr (fun s => tot (sel ps q (s : Int))) m = sz * m := fun m => by
    induction m with
    | zero => simp [sumr, tot]
    | succ m ih =>
      rw [List.range_succ, List.map_append, List.map_singleton, tot_snoc]
      show _ + (sumr (fun s => tot (sel ps q (s : Int))) m + tot (sel ps q (m : Int))) = _
      rw [tot_sel, show sz * ((m + 1 : Nat) : Int) = sz * m + sz by rw [Int.natCast_succ, Int.mul_add, Int.mul_one]]
      omega
  have h3 := h2 (mny q).toNat
  rw [h1, show (((mny q).toNat : Nat) : Int) = mny q by omega] at h3
  refine ⟨h3, fun x hx => ?_⟩
  obtain ⟨s, hs, rfl⟩ := List.mem_map.1 hx
  have hu2 := usd_nn (s := (s : Int)) (ps := ps) (l := q) (fun p hp => by have := h.job.ok p hp; omega)
  have := h.fit _ (v2 s (List.mem_range.1 hs))
  have := h.job.hi
  omega
theorem gord_loop {turn : Int} (htn : By turn) {sz : Int} {ps : List Int} (hj : Job sz ps) {v : B8} (hv : ∀ x ∈ bl v, By x) : ∀ (m i : Nat) (a : List Int), i ≤ ps.length → ps.length - i < m → a.Perm ((List.range i).map fun i : Nat => (i : Int)) →
    DL15_1 N m turn sz ps (ps.length : Int) (i : Int) v.1 v.2.1 v.2.2.1 v.2.2.2.1 v.2.2.2.2.1 v.2.2.2.2.2.1 v.2.2.2.2.2.2.1 v.2.2.2.2.2.2.2 (a ++ List.replicate (ps.length - i) 0) = some true
  | 0, i, a, _, h, _ => by omega
  | m + 1, i, a, hi, hm, h => by
    have h8 := hj.len
    have hal : a.length = i := by rw [h.length_eq]; simp
    rw [DL15_1_succ]
    unfold DF15_1
    by_cases hlt : i < ps.length
    · obtain ⟨p1, p2, p3⟩ := pick_ok hv (show i < 8 by omega)
      have hrep : List.replicate (ps.length - i) (0 : Int) = 0 :: List.replicate (ps.length - (i + 1)) 0 := by
        rw [← List.replicate_succ]; congr 1; omega
      have hset : (a ++ List.replicate (ps.length - i) 0).set (Int.toNat (i : Int)) (i : Int) = (a ++ [(i : Int)]) ++ List.replicate (ps.length - (i + 1)) 0 := by
        rw [hrep, Int.toNat_natCast, set_at hal, List.append_assoc, List.singleton_append]
      have hg0 : idx (a ++ List.replicate (ps.length - i) 0) (i : Int) = some 0 := by rw [hrep]; exact idx_at hal
      have hal2 : (a ++ [(i : Int)]).length = i + 1 := by simp [hal]
      have hperm : (a ++ [(i : Int)]).Perm ((List.range (i + 1)).map fun i : Nat => (i : Int)) := by
        rw [List.range_succ, List.map_append]
        exact h.append_right _
      have hsw := (swp_perm (l := a ++ [(i : Int)]) (i := i) (k := pick v i) (by omega) (by omega)).trans hperm
      have hsa := swp_app (a ++ [(i : Int)]) (List.replicate (ps.length - (i + 1)) 0) (i := i) (k := pick v i) (by omega) (by omega)
      generalize hO : (a ++ [(i : Int)]) ++ List.replicate (ps.length - (i + 1)) 0 = O at *
      have hOl : O.length = ps.length := by rw [← hO]; simp; omega
      have e1 : (O.set i (O.getD (pick v i) 0)).set (pick v i) (O.getD i 0) = swp O i (pick v i) := rfl
      have hk : pick v i < O.length := by omega
      have hi2 : i < O.length := by omega
      have hk3 : pick v i < (O.set i (O.getD (pick v i) 0)).length := by simpa using hk
      have e3 : ∃ y, idx (O.set i (O.getD (pick v i) 0)) (pick v i : Int) = some y := ⟨_, idx_nat hk3⟩
      obtain ⟨y, hy⟩ := e3
      rw [dlt_t hlt, cond_true, inB_nat (by simp; omega), cond_true, hg0, Option.bind_some, inB_nat (show i < 8 by omega), cond_true]
      rw [show idx [v.1, v.2.1, v.2.2.1, v.2.2.2.1, v.2.2.2.2.1, v.2.2.2.2.2.1, v.2.2.2.2.2.2.1, v.2.2.2.2.2.2.2] (i : Int) = some ((bl v).getD i 0) from p1, Option.bind_some, wr_succ (by omega), beq_false_of_ne (show ((i + 1 : Nat) : Int) ≠ 0 by omega), cond_false, p2, hset]
      rw [inB_nat hk, cond_true, idx_nat hk, Option.bind_some, inB_nat hi2, cond_true, idx_nat hi2, Option.bind_some, cond_true, Option.bind_some, Int.toNat_natCast, ← getD_at hk, ← getD_at hi2, inB_nat hk3, cond_true, hy, Option.bind_some, Int.toNat_natCast, e1, hsa]
      exact gord_loop htn hj hv m (i + 1) _ (by omega) (by omega) hsw
    · have he : i = ps.length := by omega
      subst he
      have ho : Ord ps a := h
      obtain ⟨hpl, hmy⟩ := ffA_pln hj ho
      have hlen := hpl.len
      have hm8 := hpl.mny
      have hlo := hj.lo
      have hhi := hj.hi
      have hv0 := vld_pln.2 hpl
      obtain ⟨t1, t2⟩ := lf_tot hpl
      have hll := lf_len sz ps (tid [] (ffA sz ps a).1)
      have htp := tot_rng (l := ps) (fun p hp => by have := hj.ok p hp; omega)
      have htl := tot_rng t2
      have hL := gr_loop htn hpl N.1 0 (by omega) (by have : N.1 = 1000000 := rfl; omega)
      rw [dlt_f hlt, cond_false, Nat.sub_self, List.replicate_zero, List.append_nil, Filled_eq hj ho, Option.bind_some]
      simp only []
      rw [← hmy]
      generalize tid [] (ffA sz ps a).1 = q at *
      have e5 : shts sz ps q = (lf sz ps q, 0) := by unfold shts; rw [if_neg (by simpa using hv0)]
      have e6 : grps sz ps q = (grp q (mny q).toNat, 0) := by unfold grps; rw [if_neg (by simpa using hv0)]
      have e7 : ((grp q (mny q).toNat).length : Int) = mny q := by simp [grp]; omega
      rw [Left_eq hN1, Option.bind_some, Groups_eq hN1, Option.bind_some, e5, e6, Valid_eq hN1, hv0]
      simp only [hll, e7, bne_self_eq_false, beq_self_eq_true, cond_true, cond_false, Option.bind_some]
      rw [total_eq hN1 t2 (by omega), Option.bind_some, total_eq hN1 (fun p hp => by have := hj.ok p hp; omega) (by omega), Option.bind_some, t1]
      simp only [bne_self_eq_false, cond_false]
      exact hL
theorem groups_ok {s : Stp} (h : StpOk s) {v : B8} (hv : ∀ x ∈ bl v, By x) {turn : Int} (ht : By turn) : S15 N s v turn = some true := by
  rw [S15_D N rfl]
  unfold D15
  obtain ⟨sz, ps, h1, hj, _, _⟩ := made_ok h (most := 8) (by omega)
  have e1 : D48 N s 8 = some (sz, ps) := h1
  have h8 := hj.len
  rw [e1, Option.bind_some]
  simp only []
  rw [decide_eq_true (show (0 : Int) ≤ (ps.length : Int) by omega), decide_eq_true (show (ps.length : Int) ≤ (ps.length : Int) by omega), decide_eq_true (show (ps.length : Int) ≤ lim by unfold lim; omega), Int.toNat_natCast, List.length_replicate]
  exact gord_loop ht hj hv N.1 0 [] (by omega) (by have : N.1 = 1000000 := rfl; omega) (List.Perm.refl _)
end Go.Proofs.YtgmonagekfjnmaaDoor
