/- Texts of this claim, joined: H41w to Ch. -/
import Derived.KernelRfl
import Derived.Test.YtjgmfdgpgdaclaaProg
import Derived.WalkKit
import Derived.Test.YtjgmfdgpgdaclaaP5
set_option linter.unusedVariables false
set_option linter.unusedSimpArgs false
set_option maxRecDepth 100000
namespace Go.Proofs.Ytjgmfdgpgdaclaa
open Go.RowKit Go.Shelf
theorem hao_old (w : World) (o : Obj) (i : Nat) (h : i < w.heap.size) : (w.alloc o).heap[i]? = w.heap[i]? := by
  show (w.heap.push o)[i]? = w.heap[i]?
  rw [Array.getElem?_push, if_neg (Nat.ne_of_lt h)]
/-- One number of coins more. -/
def upd1 (cur rest n : Int) : Int := bif decide (0 ≤ rest) && (decide (cur < 0) || decide (rest + n < cur)) then rest + n else cur
/-- The fewest coins, so many of this one from n on. -/
def pcell (f : Int → Int) (q c x : Int) : Nat → Int → Int → Int
  | 0, _, cur => cur
  | k + 1, n, cur => bif decide (n ≤ q) && decide (n * c ≤ x) then pcell f q c x k (n + 1) (upd1 cur (f (x - n * c)) n) else cur
/-- The fewest coins of a purse for each sum; -1: it cannot pay. -/
def bc : List Int → List Int → Int → Int
  | [], _, x => bif x == 0 then 0 else -1
  | c :: l, ps, x => pcell (bc l ps.tail) (ps.headD 0) c x (x.toNat + 1) 0 (-1)
/-- The first number with which just t coins are left. -/
def pfind (f : Int → Int) (c t s : Int) : Nat → Int → Option Int
  | 0, _ => none
  | k + 1, n => bif decide (n * c ≤ s) then (bif decide (0 ≤ f (s - n * c)) && (f (s - n * c) + n == t) then some n else pfind f c t s k (n + 1)) else none
def pout : List Int → List Int → Int → List Int
  | [], _, _ => []
  | c :: l, ps, s => match pfind (bc l ps.tail) c (bc (c :: l) ps s) s (s.toNat + 1) 0 with
    | some n => n :: pout l ps.tail (s - n * c)
    | none => pout l ps.tail s
def HF41 (S : List Int → Int → Option Int) (T : List Int → List Int → Option Int) (U : List Int → Int → Option (List Int)) (X : List Int → Option (List Int)) (l p : List Int) (s : Int) : Option (List Int × Int) :=
  (S l s).bind fun e => bif e != 0 then some ([], e) else
    (T l p).bind fun e2 => bif e2 != 0 then some ([], e2) else
      (U [-1] (s + 1)).bind fun r => (X r).bind fun r2 =>
        bif (l.all fun c => decide (1 ≤ c) && decide (c ≤ 40)) && (decide (0 < l.length) && decide (l.length ≤ 6)) && (decide (0 ≤ s) && decide (s ≤ 200)) && (decide (p.length = l.length) && p.all fun q => decide (0 ≤ q) && decide (q ≤ 200)) &&
            (decide (r = List.replicate (s.toNat + 1) (-1)) && decide (r2 = r)) then
          bif decide (bc l p s < 0) then some ([], 12) else some (pout l p s, 0)
        else none
theorem upd1_bd {cur rest n m : Int} (h1 : -1 ≤ cur ∧ cur ≤ m) (h2 : -1 ≤ rest) (h3 : rest + n ≤ m) (hn : 0 ≤ n) : -1 ≤ upd1 cur rest n ∧ upd1 cur rest n ≤ m := by
  unfold upd1
  cases h : (decide (0 ≤ rest) && (decide (cur < 0) || decide (rest + n < cur))) with
  | true =>
    simp only [Bool.and_eq_true, decide_eq_true_eq] at h
    rw [cond_true]
    omega
  | false => rw [cond_false]; exact h1
theorem pcell_bd {f : Int → Int} {q c x : Int} (hc : 1 ≤ c) (hf : ∀ y, 0 ≤ y → -1 ≤ f y ∧ f y ≤ y) : ∀ (k : Nat) (n cur : Int), 0 ≤ n → -1 ≤ cur ∧ cur ≤ x → -1 ≤ pcell f q c x k n cur ∧ pcell f q c x k n cur ≤ x
  | 0, n, cur, hn, h => h
  | k + 1, n, cur, hn, h => by
    simp only [pcell]
    cases hg : (decide (n ≤ q) && decide (n * c ≤ x)) with
    | true =>
      simp only [Bool.and_eq_true, decide_eq_true_eq] at hg
      rw [cond_true]
      have h1 := hf (x - n * c) (by omega)
      have h2 : n * 1 ≤ n * c := Int.mul_le_mul_of_nonneg_left hc hn
      exact pcell_bd hc hf k (n + 1) _ (by omega) (upd1_bd h h1.1 (by omega) hn)
    | false => rw [cond_false]; exact h
theorem bc_bd : ∀ (l ps : List Int), (∀ c ∈ l, 1 ≤ c) → ∀ x, 0 ≤ x → -1 ≤ bc l ps x ∧ bc l ps x ≤ x
  | [], _, _, x, hx => by
    unfold bc
    cases h : x == 0
    · rw [cond_false]; omega
    · rw [cond_true]; omega
  | c :: l, ps, hl, x, hx => by
    unfold bc
    exact pcell_bd (hl c (by simp)) (fun y hy => bc_bd l ps.tail (fun d hd => hl d (by simp [hd])) y hy) _ 0 (-1) (Int.le_refl _) (by omega)
/-- The rows from m on: tb is the table's block, lo the first block that a row may be. -/
def Tab (zs ps : List Int) (s L tb lo m : Nat) (W : World) : Prop :=
  ∃ cur, Blk W tb cur 22 ∧ cur.size = L + 1 ∧ ∀ j, m ≤ j → j ≤ L → ∃ ρ cp, cur[j]? = some (.slice (some ⟨ρ, 0, none⟩) (s + 1) cp) ∧ lo ≤ ρ ∧ Row W ρ cp (s + 1) (fun x => bc (zs.drop j) (ps.drop j) x)
theorem Tab.kept {zs ps : List Int} {s L tb lo m : Nat} {W W' : World} {row : Option Nat} (h : Tab zs ps s L tb lo m W) (hg : W.grownBy W' row) (hr : ∀ r, row = some r → r ≠ tb ∧ r < lo) : Tab zs ps s L tb lo m W' := by
  obtain ⟨cur, h1, h2, h3⟩ := h
  refine ⟨cur, h1.kept hg (fun e => (hr tb e.symm).1 rfl), h2, fun j hj hj' => ?_⟩
  obtain ⟨ρ, cp, h4, h5, h6⟩ := h3 j hj hj'
  exact ⟨ρ, cp, h4, h5, h6.kept hg (fun e => by have := (hr ρ e.symm).2; omega)⟩
/-- What the loops lean on: the boxes of the purse, of the sum, of the empty row and of the table. -/
structure Boxes (w : World) (b' off' cap' L s g b2 cap2 : Nat) (W : World) : Prop where
  ps : Blk W w.heap.size #[.slice (some ⟨b', off', none⟩) L cap'] 22
  sum : Blk W (w.heap.size + 1) #[.int .i64 s] 3
  none : Blk W g #[.slice (some ⟨b2, 0, none⟩) (s + 1) cap2] 22
  row : Row W b2 cap2 (s + 1) (fun _ => -1)
  tab : Blk W (g + 2) #[.slice (some ⟨g + 1, 0, .none⟩) (L + 1) (L + 1)] 75
  size : g + 3 ≤ W.heap.size
  low : Below w.heap.size w W
theorem Boxes.kept {w : World} {b' off' cap' L s g b2 cap2 : Nat} {W W' : World} {row : Option Nat} (h : Boxes w b' off' cap' L s g b2 cap2 W) (hw : w.heap.size + 1 < g) (hb : b2 < g) (hg : W.grownBy W' row) (hr : ∀ r, row = some r → g + 2 < r ∨ r = g + 1) : Boxes w b' off' cap' L s g b2 cap2 W' := by
  refine ⟨h.ps.kept hg ?_, h.sum.kept hg ?_, h.none.kept hg ?_, h.row.kept hg ?_, h.tab.kept hg ?_, Nat.le_trans h.size hg.size, h.low.grown hg h.low.size ?_⟩
  all_goals first | (intro e; have := hr _ e.symm; omega) | (intro k e; have := hr k e; omega)
theorem Boxes.set {w : World} {b' off' cap' L s g b2 cap2 : Nat} {W : World} (h : Boxes w b' off' cap' L s g b2 cap2 W) (hw : w.heap.size + 1 < g) (hb : b2 < g) (r j : Nat) (v : Value) (hr : g + 2 < r ∨ r = g + 1) : Boxes w b' off' cap' L s g b2 cap2 (W.setCell ⟨r, j, .none⟩ v) := by
  refine ⟨h.ps.other j v (by omega), h.sum.other j v (by omega), h.none.other j v (by omega), h.row.other j v (by omega), h.tab.other j v (by omega), by simpa using h.size, h.low.setCell (p := ⟨r, j, .none⟩) (by show w.heap.size ≤ r; omega) v⟩
theorem Boxes.below {w : World} {b' off' cap' L s g b2 cap2 : Nat} {W W' : World} (h : Boxes w b' off' cap' L s g b2 cap2 W) (hw : w.heap.size + 1 < g) (hb : b2 < g) (hg : Below W.heap.size W W') : Boxes w b' off' cap' L s g b2 cap2 W' := by
  have := h.size
  exact ⟨h.ps.below hg (by omega), h.sum.below hg (by omega), h.none.below hg (by omega), h.row.below hg (by omega), h.tab.below hg (by omega), Nat.le_trans h.size hg.size, h.low.trans (hg.mono h.low.size)⟩
theorem Blk.ownc {W W' : World} {row : Option Nat} {b : Nat} {cur : Array Value} {t : TypeId} (h : Blk W b cur t) (hg : W.grownBy W' row) (hr : ∀ r, row = some r → ∃ o : Obj, W.heap[r]? = some o ∧ o.isCells = false) : Blk W' b cur t :=
  h.kept hg (fun e => by
    obtain ⟨o, ho, hc⟩ := hr b e.symm
    rw [show W.heap[b]? = _ from h] at ho
    cases ho
    cases hc)
theorem Row.ownc {W W' : World} {row : Option Nat} {b cap len : Nat} {f : Nat → Int} (h : Row W b cap len f) (hg : W.grownBy W' row) (hr : ∀ r, row = some r → ∃ o : Obj, W.heap[r]? = some o ∧ o.isCells = false) : Row W' b cap len f := by
  obtain ⟨cur, ty, h1, h2⟩ := h
  exact ⟨cur, ty, h1.ownc hg hr, h2⟩
theorem Tab.ownc {zs ps : List Int} {s L tb lo m : Nat} {W W' : World} {row : Option Nat} (h : Tab zs ps s L tb lo m W) (hg : W.grownBy W' row) (hr : ∀ r, row = some r → ∃ o : Obj, W.heap[r]? = some o ∧ o.isCells = false) : Tab zs ps s L tb lo m W' := by
  obtain ⟨cur, h1, h2, h3⟩ := h
  refine ⟨cur, h1.ownc hg hr, h2, fun j hj hj' => ?_⟩
  obtain ⟨ρ, cp, h4, h5, h6⟩ := h3 j hj hj'
  exact ⟨ρ, cp, h4, h5, h6.ownc hg hr⟩
/-- In the midst of a round: the row of coin k lies in block r, with values G; B, Bs: the loop's first block and the iterator's box. -/
structure Rnd (w : World) (b' off' cap' : Nat) (zs ps : List Int) (s g b2 cap2 B Bs k r cp : Nat) (cur : Array Value) (W : World) (G : Nat → Int) (wr : World) : Prop where
  box : Boxes w b' off' cap' zs.length s g b2 cap2 wr
  tab : Blk wr (g + 1) cur 22
  rows : ∀ j, k + 1 ≤ j → j ≤ zs.length → ∃ ρ cp', cur[j]? = some (.slice (some ⟨ρ, 0, none⟩) (s + 1) cp') ∧ g + 3 ≤ ρ ∧ ρ ≠ r ∧ Row wr ρ cp' (s + 1) (fun x => bc (zs.drop j) (ps.drop j) x)
  row : Row wr r cp (s + 1) G
  chg : Chg B w.heap.size Bs W wr
theorem Rnd.set {w : World} {b' off' cap' : Nat} {zs ps : List Int} {s g b2 cap2 B Bs k r cp : Nat} {cur : Array Value} {W : World} {G : Nat → Int} {wr : World} (h : Rnd w b' off' cap' zs ps s g b2 cap2 B Bs k r cp cur W G wr) (hw : w.heap.size + 1 < g) (hb : b2 < g) (hr : g + 3 ≤ r) (hne : r ≠ Bs) (t : Nat) (v : Int) :
    Rnd w b' off' cap' zs ps s g b2 cap2 B Bs k r cp cur W (fun j => if j = t then v else G j) (wr.setCell ⟨r, t, none⟩ (.int .i64 v)) := by
  refine ⟨h.box.set hw hb r t _ (.inl (by omega)), h.tab.other t _ (by omega), fun j h1 h2 => ?_, h.row.set t v, h.chg.set r t _ (by omega) hne⟩
  obtain ⟨ρ, cp', k1, k2, k3, k4⟩ := h.rows j h1 h2
  exact ⟨ρ, cp', k1, k2, k3, k4.other t _ k3⟩
theorem Rnd.congr {w : World} {b' off' cap' : Nat} {zs ps : List Int} {s g b2 cap2 B Bs k r cp : Nat} {cur : Array Value} {W : World} {G G' : Nat → Int} {wr : World} (h : Rnd w b' off' cap' zs ps s g b2 cap2 B Bs k r cp cur W G wr) (e : ∀ i, i < s + 1 → G i = G' i) :
    Rnd w b' off' cap' zs ps s g b2 cap2 B Bs k r cp cur W G' wr := ⟨h.box, h.tab, h.rows, h.row.congr e, h.chg⟩
theorem pcell_stop {f : Int → Int} {q c x n cur : Int} (h : q < n ∨ x < n * c) (k : Nat) : pcell f q c x k n cur = cur := by
  cases k with
  | zero => rfl
  | succ k =>
    have : (decide (n ≤ q) && decide (n * c ≤ x)) = false := by
      rcases h with h | h
      · rw [decide_eq_false (by omega)]; rfl
      · rw [decide_eq_false (p := n * c ≤ x) (by omega), Bool.and_false]
    simp only [pcell, this, cond_false]
theorem pcell_go {f : Int → Int} {q c x n cur : Int} (h1 : n ≤ q) (h2 : n * c ≤ x) (k : Nat) : pcell f q c x (k + 1) n cur = pcell f q c x k (n + 1) (upd1 cur (f (x - n * c)) n) := by
  simp only [pcell, decide_eq_true h1, decide_eq_true h2, Bool.and_true, cond_true]
theorem row_next {G : Int → Int} {t : Nat} {cv : Int} (h : cv = G t) (x : Nat) : (if x < t then G x else if x = t then cv else -1) = if x < t + 1 then G x else -1 := by
  by_cases h1 : x < t
  · rw [if_pos h1, if_pos (by omega)]
  · rw [if_neg h1]
    by_cases h2 : x = t
    · subst h2
      rw [if_pos rfl, if_pos (by omega), h]
    · rw [if_neg h2, if_neg (by omega)]
theorem row_upd {G : Nat → Int} {t : Nat} {cv v : Int} (x : Nat) : (if x = t then v else if x < t then G x else if x = t then cv else -1) = if x < t then G x else if x = t then v else -1 := by
  by_cases h : x = t
  · subst h
    simp
  · simp [h]
/-- While the payment is read off: the rows, and what is still to be paid. -/
structure Fin41 (w : World) (zs ps : List Int) (s g W0 : Nat) (cur : Array Value) (t : Nat) (wr : World) : Prop where
  sum : Blk wr (w.heap.size + 1) #[.int .i64 t] 3
  tab : Blk wr (g + 2) #[.slice (some ⟨g + 1, 0, none⟩) (zs.length + 1) (zs.length + 1)] 75
  tb : Blk wr (g + 1) cur 22
  rows : ∀ j, j ≤ zs.length → ∃ ρ cp, cur[j]? = some (.slice (some ⟨ρ, 0, none⟩) (s + 1) cp) ∧ g + 3 ≤ ρ ∧ ρ < W0 ∧ Row wr ρ cp (s + 1) (fun x => bc (zs.drop j) (ps.drop j) x)
  low : Below w.heap.size w wr
  size : W0 ≤ wr.heap.size
theorem Fin41.kept {w : World} {zs ps : List Int} {s g W0 : Nat} {cur : Array Value} {t : Nat} {wr w' : World} {row : Option Nat} (h : Fin41 w zs ps s g W0 cur t wr) (hw : w.heap.size + 1 < g) (hg0 : g + 3 ≤ W0) (hg : wr.grownBy w' row) (hr : ∀ r, row = some r → W0 ≤ r) : Fin41 w zs ps s g W0 cur t w' := by
  refine ⟨h.sum.kept hg ?_, h.tab.kept hg ?_, h.tb.kept hg ?_, fun j hj => ?_, h.low.grown hg h.low.size ?_, Nat.le_trans h.size hg.size⟩
  · intro e; have := hr _ e.symm; omega
  · intro e; have := hr _ e.symm; omega
  · intro e; have := hr _ e.symm; omega
  · obtain ⟨ρ, cp, h1, h2, h3, h4⟩ := h.rows j hj
    exact ⟨ρ, cp, h1, h2, h3, h4.kept hg (fun e => by have := hr _ e.symm; omega)⟩
  · intro k e; have := hr k e; omega
theorem Fin41.pay {w : World} {zs ps : List Int} {s g W0 : Nat} {cur : Array Value} {t : Nat} {wr : World} (h : Fin41 w zs ps s g W0 cur t wr) (hw : w.heap.size + 1 < g) (t' : Nat) : Fin41 w zs ps s g W0 cur t' (wr.setCell ⟨w.heap.size + 1, 0, none⟩ (.int .i64 t')) := by
  refine ⟨h.sum.set 0 _, h.tab.other 0 _ (by omega), h.tb.other 0 _ (by omega), fun j hj => ?_, h.low.setCell (p := ⟨w.heap.size + 1, 0, none⟩) (by show w.heap.size ≤ w.heap.size + 1; omega) _, by simpa using h.size⟩
  obtain ⟨ρ, cp, h1, h2, h3, h4⟩ := h.rows j hj
  exact ⟨ρ, cp, h1, h2, h3, h4.other 0 _ (by omega)⟩
theorem Fin41.drew {w : World} {zs ps : List Int} {s g W0 : Nat} {cur : Array Value} {t : Nat} {wr : World} (h : Fin41 w zs ps s g W0 cur t wr) : Fin41 w zs ps s g W0 cur t wr.drew := ⟨h.sum, h.tab, h.tb, h.rows, h.low.drew, h.size⟩
theorem own_base {wr : World} {base base' : Nat} {e : TypeId} {v : Value} {n : Nat} {xs : List Value} (h : wr.ownsRow base e 1 v n xs) (hb : base' ≤ base) : wr.ownsRow base' e 1 v n xs := by
  refine ⟨h.1, ?_⟩
  rcases h.2 with hn | ⟨g, cap, cur, rfl, hg, hgg, rest⟩
  · exact .inl hn
  · exact .inr ⟨g, cap, cur, rfl, Nat.le_trans hb hg, hgg, rest⟩
theorem own_pay {w wr : World} {base : Nat} {e : TypeId} {v : Value} {n : Nat} {xs : List Value} (h : wr.ownsRow base e 1 v n xs) (hb : w.heap.size + 1 < base) (u : Value) : (wr.setCell ⟨w.heap.size + 1, 0, none⟩ u).ownsRow base e 1 v n xs := by
  refine ⟨h.1, ?_⟩
  rcases h.2 with hn | ⟨g, cap, cur, rfl, hg, hgg, rest⟩
  · exact .inl hn
  · exact .inr ⟨g, cap, cur, rfl, hg, (heap_setCell_other wr ⟨w.heap.size + 1, 0, none⟩ g u (by show g ≠ w.heap.size + 1; omega)).trans hgg, rest⟩
def nxt41 (l q : List Int) (t c : Int) : Option Int → List Int
  | some n => n :: pout l q (t - n * c)
  | none => pout l q t
theorem pfind_stop {f : Int → Int} {c t s n : Int} (h : s < n * c) (k : Nat) : pfind f c t s k n = none := by
  cases k with
  | zero => rfl
  | succ k => simp only [pfind, decide_eq_false (show ¬ n * c ≤ s by omega), cond_false]
theorem pfind_go {f : Int → Int} {c t s n : Int} (h : n * c ≤ s) (h2 : ¬ (0 ≤ f (s - n * c) ∧ f (s - n * c) + n = t)) (k : Nat) : pfind f c t s (k + 1) n = pfind f c t s k (n + 1) := by
  have : (decide (0 ≤ f (s - n * c)) && (f (s - n * c) + n == t)) = false := by
    rw [Bool.and_eq_false_iff]
    by_cases h3 : 0 ≤ f (s - n * c)
    · right
      simpa using fun e => h2 ⟨h3, e⟩
    · left
      simpa using h3
  simp only [pfind, decide_eq_true h, cond_true, this, cond_false]
theorem pfind_hit {f : Int → Int} {c t s n : Int} (h : n * c ≤ s) (h1 : 0 ≤ f (s - n * c)) (h2 : f (s - n * c) + n = t) (k : Nat) : pfind f c t s (k + 1) n = some n := by
  simp only [pfind, decide_eq_true h, cond_true, decide_eq_true h1, h2, beq_self_eq_true, Bool.and_true]
theorem pout_cons {zs ps : List Int} {k : Nat} (hk : k < zs.length) (hkp : k < ps.length) (t : Int) : pout (zs.drop k) (ps.drop k) t =
    match pfind (bc (zs.drop (k + 1)) (ps.drop (k + 1))) zs[k] (bc (zs.drop k) (ps.drop k) t) t (t.toNat + 1) 0 with
    | some n => n :: pout (zs.drop (k + 1)) (ps.drop (k + 1)) (t - n * zs[k])
    | none => pout (zs.drop (k + 1)) (ps.drop (k + 1)) t := by
  rw [List.drop_eq_getElem_cons hk, List.drop_eq_getElem_cons hkp]
  rfl
def IsWide (F : Fence) : Prop := F = Fence.wide
theorem wpIn_puts {F : Fence} {n : Nat} {P : Program} {c : Code} {K : Act → World → Prop} {Q : Exit → Act → World → Prop} {A : Act} {W : World} (R : Act → World → Act → World → Prop)
    (h : c.wpIn F n P (nrm (R A W)) A W) (k : ∀ a' w', R A W a' w' → K a' w') : c.wpIn F n P (Exit.then K Q) A W := wpIn_nrm h k
section
attribute [local go_sem] Oper.semAt_some
set_option maxHeartbeats 8000000 in
theorem purse_in (F : Fence) (hF : IsWide F) (n : Nat) (h41 : F.fn 41) (h56 : F.fn 56) (h68 : F.fn 68) (h52 : F.fn 52) (h46 : F.fn 46) (h72 : F.fn 72) (h78 : F.fn 78) (hro : F.round = none) (hn : 3 ≤ n)
    (b off cap b' off' cap' : Nat) (zs ps : List Int) (s : Nat) (w : World) (hb : b < w.heap.size) (hb' : b' < w.heap.size)
    (hcs : ∀ j (h : j < zs.length), w.cell? ⟨b, off + j, none⟩ = some (.int .i64 zs[j])) (hps : ∀ j (h : j < ps.length), w.cell? ⟨b', off' + j, none⟩ = some (.int .i64 ps[j]))
    (h0 : 0 < zs.length) (hl : zs.length ≤ 6) (hpl : ps.length = zs.length) (hcc : ∀ c ∈ zs, 1 ≤ c ∧ c ≤ 40) (hpp : ∀ q ∈ ps, 0 ≤ q ∧ q ≤ 200) (hs1 : s ≤ 200)
    (hck : ∀ W, Below w.heap.size w W → CallsIn F (n - 1) Try.prog 56 #[.slice (some ⟨b, off, none⟩) zs.length cap, .int .i64 s] W fun e w' => e = .returned (.int .i64 0) ∧ Below W.heap.size W w')
    (hct : ∀ W, Below w.heap.size w W → CallsIn F (n - 1) Try.prog 68 #[.slice (some ⟨b, off, none⟩) zs.length cap, .slice (some ⟨b', off', none⟩) zs.length cap'] W fun e w' => e = .returned (.int .i64 0) ∧ Below W.heap.size W w')
    (hrep : ∀ W b1, Row W b1 1 1 (fun _ => -1) → CallsIn F (n - 1) Try.prog 52 #[.slice (some ⟨b1, 0, none⟩) 1 1, .int .i64 (s + 1)] W fun e w' => ∃ b2 cap2, e = .returned (.slice (some ⟨b2, 0, none⟩) (s + 1) cap2) ∧ W.heap.size ≤ b2 ∧ Row w' b2 cap2 (s + 1) (fun _ => -1) ∧ Below W.heap.size W w')
    (hcl : ∀ m W b1 cap1, Row W b1 cap1 (s + 1) (fun _ => -1) → CallsIn F m Try.prog 46 #[.slice (some ⟨b1, 0, none⟩) (s + 1) cap1] W fun e w' => ∃ b2 cap2, e = .returned (.slice (some ⟨b2, 0, none⟩) (s + 1) cap2) ∧ W.heap.size ≤ b2 ∧ Row w' b2 cap2 (s + 1) (fun _ => -1) ∧ Below W.heap.size W w') :
    CallsIn F n Try.prog 41 #[.slice (some ⟨b, off, none⟩) zs.length cap, .slice (some ⟨b', off', none⟩) zs.length cap', .int .i64 s] w fun e w' => Below w.heap.size w w' ∧
      ((bc zs ps s < 0 ∧ e = .returned (.tuple #[.slice none 0 0, .int .i64 12])) ∨ (¬ bc zs ps s < 0 ∧ ∃ v, e = .returned (.tuple #[v, .int .i64 0]) ∧ w'.ownsRow (w.heap.size + 2) 3 1 v (pout zs ps s).length ((pout zs ps s).map (Value.int .i64)))) := by
  have h1 : 1 ≤ n := by omega
  have hmk : ∀ W : World, (Instr.makeSlice 75 (.int .i64 ((zs.length : Int) + 1)) (.int .i64 ((zs.length : Int) + 1))).run Try.prog W = .ok (.slice (some ⟨W.heap.size, 0, none⟩) (zs.length + 1) (zs.length + 1)) (W.alloc (.cells (List.replicate (zs.length + 1) (Value.slice none 0 0)).toArray 22)) := fun W => by
    obtain ⟨i0, hi, hz0, hz1, hz2⟩ := info_parts (show (Try.prog.info? 22).map (fun i => (i.zero, i.size, i.bytes)) = some (some (.slice none 0 0), 1, 24) by kernel_rfl)
    have h := run_make (P := Try.prog) W 75 22 i0 (.slice none 0 0) (by kernel_rfl) hi hz0 .i64 .i64 ((zs.length : Int) + 1) ((zs.length : Int) + 1) (by omega) (Int.le_refl _) (by rw [hz2]; omega) (by omega)
    have e1 : ((zs.length : Int) + 1).toNat = zs.length + 1 := by omega
    simp only [e1, hz1, Nat.mul_one] at h
    rw [h]
    have : madeCells (Value.slice none 0 0).cells (zs.length + 1) = (List.replicate (zs.length + 1) (Value.slice none 0 0)).toArray := by
      apply Array.toList_inj.1
      rw [show (Value.slice none 0 0).cells = #[.slice none 0 0] from rfl, toList_madeCells_one]
    rw [this]
  refine callsIn_of_wp_marks Try.func41 rfl h41 ?_ hro
  simp only [Try.ntmps41, List.size_toArray, List.length_cons, List.length_nil, Nat.reduceAdd, Nat.reduceSub, Array.replicate_succ, Array.replicate_zero, List.push_toArray, List.append_toArray, List.nil_append, List.cons_append]
  have a1 : Below w.heap.size w ((w.alloc (.cells #[.slice (some ⟨b', off', none⟩) zs.length cap'] 22)).alloc (.cells #[.int .i64 s] 3)) := ((Below.refl _ w).alloc (Nat.le_refl _) _).alloc (by simp) _
  have a4 : Blk ((w.alloc (.cells #[.slice (some ⟨b', off', none⟩) zs.length cap'] 22)).alloc (.cells #[.int .i64 s] 3)) w.heap.size #[.slice (some ⟨b', off', none⟩) zs.length cap'] 22 := (Blk.new w _ _).alloc _
  have a5 : Blk ((w.alloc (.cells #[.slice (some ⟨b', off', none⟩) zs.length cap'] 22)).alloc (.cells #[.int .i64 s] 3)) (w.heap.size + 1) #[.int .i64 s] 3 := by
    have := Blk.new (w.alloc (.cells #[.slice (some ⟨b', off', none⟩) zs.length cap'] 22)) #[.int .i64 s] 3
    rwa [World.size_alloc] at this
  generalize hWb : (w.alloc (.cells #[.slice (some ⟨b', off', none⟩) zs.length cap'] 22)).alloc (.cells #[.int .i64 s] 3) = Wb at a1 a4 a5
  have aB : Wb.heap.size = w.heap.size + 2 := by rw [← hWb]; simp
  have e4 := a4.cell 0 rfl
  have e5 := a5.cell 0 rfl
  gi_wp2_with (first
    | (gi_at_call 56; refine (hck _ a1).mono ?_; rintro e w2 ⟨rfl, hB1⟩;
        have b4 := a4.below hB1 (by omega); have b5 := a5.below hB1 (by omega); have f4 := b4.cell 0 rfl; have f5 := b5.cell 0 rfl;
        have hB2 : Below w.heap.size w w2 := a1.trans (hB1.mono (by omega)))
    | (gi_at_call 68; refine (hct _ hB2).mono ?_; rintro e w3 ⟨rfl, hB3⟩;
        have c4 := b4.below hB3 b4.lt; have c5 := b5.below hB3 b5.lt; have g4 := c4.cell 0 rfl; have g5 := c5.cell 0 rfl; have g6 := (c5.alloc (.cells #[.int .i64 (-1)] 3)).cell 0 rfl;
        have hB4 : Below w.heap.size w w3 := hB2.trans (hB3.mono (by have := b4.lt; omega)))
    | (gi_at_call 52; refine (hrep _ _ (Row.one w3 (-1) 3)).mono ?_; rintro e w4 ⟨b2, cap2, rfl, hb2, hr4, hB5⟩;
        have d4 := (c4.alloc _).below hB5 (by have := c4.lt; simp; omega); have d5 := (c5.alloc _).below hB5 (by have := c5.lt; simp; omega); have k4 := d4.cell 0 rfl; have k5 := d5.cell 0 rfl;
        have hB6 : Below w.heap.size w w4 := (hB4.alloc (by have := c4.lt; omega) _).trans (hB5.mono (by have := c4.lt; simp; omega))))
  generalize hg : w4.heap.size = g at *
  generalize hWc : World.alloc (World.alloc (World.alloc w4 _) _) _ = Wc
  have c10 : Blk Wc g #[.slice (some ⟨b2, 0, none⟩) (s + 1) cap2] 22 := by
    rw [← hWc, ← hg]
    exact ((Blk.new w4 _ _).alloc _).alloc _
  have ctb : Blk Wc (g + 1) (Array.replicate (zs.length + 1) (.slice none 0 0)) 22 := by
    rw [← hWc, ← hg]
    have := Blk.new (w4.alloc (.cells #[.slice (some ⟨b2, 0, none⟩) (s + 1) cap2] 22)) (Array.replicate (zs.length + 1) (.slice none 0 0)) 22
    rw [World.size_alloc] at this
    exact this.alloc _
  have c11 : Blk Wc (g + 2) #[.slice (some ⟨g + 1, 0, none⟩) (zs.length + 1) (zs.length + 1)] 75 := by
    rw [← hWc, ← hg]
    have := Blk.new ((w4.alloc (.cells #[.slice (some ⟨b2, 0, none⟩) (s + 1) cap2] 22)).alloc (.cells (Array.replicate (zs.length + 1) (.slice none 0 0)) 22)) #[.slice (some ⟨w4.heap.size + 1, 0, none⟩) (zs.length + 1) (zs.length + 1)] 75
    simp only [World.size_alloc, Nat.add_assoc, Nat.reduceAdd] at this
    exact this
  have crow : Row Wc b2 cap2 (s + 1) (fun _ => -1) := by
    rw [← hWc]
    exact ((hr4.kept (World.grownBy_alloc _ _ none) (by simp)).kept (World.grownBy_alloc _ _ none) (by simp)).kept (World.grownBy_alloc _ _ none) (by simp)
  have ce4 : Blk Wc w.heap.size #[.slice (some ⟨b', off', none⟩) zs.length cap'] 22 := by rw [← hWc]; exact ((d4.alloc _).alloc _).alloc _
  have ce5 : Blk Wc (w.heap.size + 1) #[.int .i64 s] 3 := by rw [← hWc]; exact ((d5.alloc _).alloc _).alloc _
  have hlt4 := d5.lt
  have hBc : Below w.heap.size w Wc := by rw [← hWc]; exact ((hB6.alloc (by omega) _).alloc (by simp; omega) _).alloc (by simp; omega) _
  have hszc : Wc.heap.size = g + 3 := by rw [← hWc, ← hg]; simp
  have hb2lt := hr4.lt
  clear hWc hr4 d4 d5 k4 k5 hB6 hB5 hB4 hB3 hB2 hB1 a1 a4 a5 b4 b5 c4 c5 e4 e5 f4 f5 g4 g5 g6
  simp only [Nat.add_assoc, Nat.reduceAdd]
  have hrp : (Array.replicate (zs.length + 1) (Value.slice none 0 0))[zs.length]? = some (Value.slice none 0 0) := by simp
  refine wpIn_nrm (reg9 h1 h46 hro (hcl (n - 1)) c10 c11 ctb hrp crow _ (fun a' w' h => h) (by show 47 < 189; omega) rfl rfl rfl) ?_
  rintro _ W3 ⟨⟨u0, u1, u2, u3, u4, u5, rfl⟩, b3, cap3, W2, hB7, hb3, hr5, rfl⟩
  simp only [put6, List.setIfInBounds_toArray, List.set_cons_succ, List.set_cons_zero, Nat.reduceAdd]
  have hw0 : w.heap.size + 1 < g := by omega
  have hb2lt : b2 < g := by omega
  have hB0 : Boxes w b' off' cap' zs.length s g b2 cap2 Wc := ⟨ce4, ce5, c10, crow, c11, by omega, hBc⟩
  have hB3 : Boxes w b' off' cap' zs.length s g b2 cap2 (W2.setCell ⟨g + 1, zs.length, none⟩ (.slice (some ⟨b3, 0, none⟩) (s + 1) cap3)) := (hB0.below hw0 hb2lt hB7).set hw0 hb2lt (g + 1) zs.length _ (.inr rfl)
  have ctb3 := (ctb.below hB7 (by omega)).set zs.length (.slice (some ⟨b3, 0, none⟩) (s + 1) cap3)
  have hr6 : Row (W2.setCell ⟨g + 1, zs.length, none⟩ (.slice (some ⟨b3, 0, none⟩) (s + 1) cap3)) b3 cap3 (s + 1) (fun _ => -1) := hr5.other zs.length _ (by omega)
  have hs7 := hB7.size
  have hs2 : (W2.setCell ⟨g + 1, zs.length, none⟩ (.slice (some ⟨b3, 0, none⟩) (s + 1) cap3)).heap.size = W2.heap.size := by simp
  have hrs : (((Array.replicate (zs.length + 1) (Value.slice none 0 0)).setIfInBounds zs.length (.slice (some ⟨b3, 0, none⟩) (s + 1) cap3)))[zs.length]? = some (.slice (some ⟨b3, 0, none⟩) (s + 1) cap3) := by simp [Array.getElem?_setIfInBounds_self_of_lt]
  clear c10 crow c11 ce4 ce5 hck hct hrep hB0 hB7 hr5 hBc ctb
  generalize W2.setCell ⟨g + 1, zs.length, none⟩ (.slice (some ⟨b3, 0, none⟩) (s + 1) cap3) = W3 at *
  have x11 := hB3.tab.cell 0 rfl
  have xtb := ctb3.cell zs.length hrs
  have xr := hr6.cell (i := 0) (by omega)
  have xf := hr6.frozen 0
  go_at_K
  gi_wp2_with (gi_at_call 72; refine (back_in F (n - 1) h72 hro _ _ _ _).mono ?_; rintro e w' ⟨rfl, rfl⟩)
  generalize hW4 : World.alloc (W3.setCell ⟨b3, 0, none⟩ (.int .i64 0)) _ = W4
  have hs4 : W4.heap.size = W3.heap.size + 1 := by rw [← hW4]; simp
  have hB4 : Boxes w b' off' cap' zs.length s g b2 cap2 W4 := by
    rw [← hW4]
    exact (hB3.set hw0 hb2lt b3 0 (.int .i64 0) (.inl (by omega))).kept hw0 hb2lt (World.grownBy_alloc _ _ none) (fun r e => by cases e)
  have hbk : Blk W4 W2.heap.size #[.slice (some ⟨b, off, none⟩) zs.length cap] 22 := by
    rw [← hW4, ← hs2]
    have := Blk.new (W3.setCell ⟨b3, 0, none⟩ (.int .i64 0)) #[.slice (some ⟨b, off, none⟩) zs.length cap] 22
    simpa using this
  have hT4 : Tab zs ps s zs.length (g + 1) (g + 3) zs.length W4 := by
    refine ⟨_, by rw [← hW4]; exact (ctb3.other 0 (.int .i64 0) (by omega)).alloc _, by simp, fun j hj hj' => ?_⟩
    obtain rfl : j = zs.length := by omega
    refine ⟨b3, cap3, hrs, by omega, ?_⟩
    rw [← hW4]
    refine ((hr6.set 0 0).kept (World.grownBy_alloc _ _ none) (by simp)).congr fun x hx => ?_
    rw [List.drop_of_length_le (Nat.le_refl _)]
    simp only [bc]
    by_cases e : x = 0
    · subst e
      rfl
    · rw [if_neg e, show ((x : Int) == 0) = false by simpa using e]
      rfl
  clear ctb3 hr6 hrs xtb xr xf x11 hB3 hW4
  have hcs4 : ∀ j (h : j < zs.length), W4.cell? ⟨b, off + j, none⟩ = some (.int .i64 zs[j]) := fun j hj => (hB4.low.cell (p := ⟨b, off + j, none⟩) hb).trans (hcs j hj)
  have hs44 := hB4.size
  refine rangeBack hro (by omega) h78 (zs := zs) (b := b) (off := off) (cap := cap) (Bs := W2.heap.size) (n₀ := w.heap.size) (by omega) rfl rfl hb (by omega) (by omega) (hbk.cell 0 rfl) hcs4
    (fun k W => Boxes w b' off' cap' zs.length s g b2 cap2 W ∧ Tab zs ps s zs.length (g + 1) (g + 3) k W ∧ W2.heap.size < W.heap.size) ?own ⟨hB4, hT4, by omega⟩ ?a1 ?assign ?body ?done
  case own =>
    rintro k W W' row ⟨k1, k2, k3⟩ hg hr
    exact ⟨k1.kept hw0 hb2lt hg (fun r e => .inl (by have := (hr r e).1; omega)), k2.ownc hg (fun r e => (hr r e).2), Nat.lt_of_lt_of_le k3 hg.size⟩
  case assign =>
    intro l x W K hK
    gi_wp2
    exact hK
  case body =>
    rintro l k hk W ⟨k1, ⟨cur0, t1, t2, t3⟩, k3⟩
    gi_wp2
    refine wpIn_nrm (reg14 (F := F.inRound l) (n := n - 1 - 1) (l := l) (i := k) (by omega) h46 rfl (fun W b1 cap1 h => CallsIn.inRound l (hcl (n - 1 - 1 - 1) W b1 cap1 h)) k1.none k1.tab t1 (by rw [Array.getElem?_eq_getElem (by omega)]) hk k1.row _ (fun a' w' h => h) (by show 62 < 189; omega) rfl rfl rfl) ?_
    rintro _ W5 ⟨⟨y0, y1, y2, y3, y4, rfl⟩, r, cp, W6, hB6, hr6, hrow6, rfl⟩
    simp only [put5, List.setIfInBounds_toArray, List.set_cons_succ, List.set_cons_zero, Nat.reduceAdd]
    have hk1s := k1.size
    have hR : Rnd w b' off' cap' zs ps s g b2 cap2 W4.heap.size W2.heap.size k r cp (cur0.setIfInBounds k (.slice (some ⟨r, 0, none⟩) (s + 1) cp)) W (fun _ => -1) (W6.setCell ⟨g + 1, k, none⟩ (.slice (some ⟨r, 0, none⟩) (s + 1) cp)) := by
      refine ⟨(k1.below hw0 hb2lt hB6).set hw0 hb2lt (g + 1) k _ (.inr rfl), (t1.below hB6 (by omega)).set k _, fun j h1 h2 => ?_, hrow6.other k _ (by omega), ?_⟩
      · obtain ⟨ρ, cp', e1, e2, e3⟩ := t3 j h1 h2
        exact ⟨ρ, cp', by rw [Array.getElem?_setIfInBounds_ne (by omega)]; exact e1, e2, by have := e3.lt; omega, (e3.below hB6 e3.lt).other k _ (by omega)⟩
      · exact Chg.set ⟨⟨hB6.size, fun j o _ ho _ => (hB6.block j (Array.getElem?_eq_some_iff.1 ho).1).trans ho⟩, hB6.mono (by omega), hB6.block _ k3⟩ (g + 1) k _ (by omega) (by omega)
    generalize W6.setCell ⟨g + 1, k, none⟩ (.slice (some ⟨r, 0, none⟩) (s + 1) cp) = W7 at *
    have hcurk : (cur0.setIfInBounds k (.slice (some ⟨r, 0, none⟩) (s + 1) cp))[k]? = some (.slice (some ⟨r, 0, none⟩) (s + 1) cp) := Array.getElem?_setIfInBounds_self_of_lt (by omega)
    have hcsz : (cur0.setIfInBounds k (.slice (some ⟨r, 0, none⟩) (s + 1) cp)).size = zs.length + 1 := by simpa using t2
    generalize cur0.setIfInBounds k (.slice (some ⟨r, 0, none⟩) (s + 1) cp) = cur at *
    clear t1 t2 t3 hrow6 hB6
    go_at_K
    have f5 := hR.box.sum.cell 0 rfl
    have hkp : k < ps.length := by omega
    obtain ⟨hc1, hc2⟩ := hcc zs[k] (List.getElem_mem _)
    obtain ⟨hq1, hq2⟩ := hpp ps[k] (List.getElem_mem _)
    obtain ⟨c, hcz⟩ := Int.eq_ofNat_of_zero_le (show 0 ≤ zs[k] by omega)
    obtain ⟨q, hqz⟩ := Int.eq_ofNat_of_zero_le hq1
    have hG : ∀ x : Int, bc (zs.drop k) (ps.drop k) x = pcell (bc (zs.drop (k + 1)) (ps.drop (k + 1))) q c x (x.toNat + 1) 0 (-1) := fun x => by
      rw [List.drop_eq_getElem_cons hk, List.drop_eq_getElem_cons hkp, bc, hcz]
      simp [hqz]
    have hfb := bc_bd (zs.drop (k + 1)) (ps.drop (k + 1)) (fun d hd => (hcc d (List.mem_of_mem_drop hd)).1)
    have hpc : ∀ wr, Below w.heap.size w wr → wr.cell? ⟨b', off' + k, none⟩ = some (.int .i64 q) := fun wr hwr => by
      have := (hwr.cell (p := ⟨b', off' + k, none⟩) hb').trans (hps k hkp)
      rw [hqz] at this
      exact this
    obtain ⟨ρ, cpr, hcur1, hρ1, hρ2, _⟩ := hR.rows (k + 1) (Nat.le_refl _) hk
    have hcf : ∀ wr G, Rnd w b' off' cap' zs ps s g b2 cap2 W4.heap.size W2.heap.size k r cp cur W G wr → ∀ d, d < s + 1 → wr.cell? ⟨ρ, d, none⟩ = some (.int .i64 (bc (zs.drop (k + 1)) (ps.drop (k + 1)) d)) := fun wr G hr d hd => by
      obtain ⟨ρ', cp', e1, _, _, e4⟩ := hr.rows (k + 1) (Nat.le_refl _) hk
      rw [hcur1] at e1
      cases e1
      exact e4.cell hd
    rw [hcz] at hc1 hc2
    rw [hqz] at hq2
    generalize hf : bc (zs.drop (k + 1)) (ps.drop (k + 1)) = f at hG hfb hcf
    simp only [hcz]
    have hrb : g + 3 ≤ r := by omega
    have hrn : r ≠ W2.heap.size := by omega
    clear hq1 hcs hps hcs4 hmk hT4 hB4 hbk k1
    gi_wp2
    gi_loopw [65] (fun v wr => ∃ t : Nat, v = .int .i64 t ∧ t ≤ s + 1 ∧ Rnd w b' off' cap' zs ps s g b2 cap2 W4.heap.size W2.heap.size k r cp cur W (fun x => if x < t then bc (zs.drop k) (ps.drop k) x else -1) wr)
      (fun v _ => s + 1 - (intOf v).toNat)
    case atStart => exact ⟨0, rfl, by omega, hR.congr fun i _ => by simp⟩
    case round =>
      obtain ⟨t, rfl, ht, hr⟩ := hrel
      obtain ⟨wi, rfl⟩ : ∃ wi, wi = wr := ⟨wr, rfl⟩
      by_cases hts : t < s + 1
      · gi_wp2
        gi_loopw [15] (fun v wr => ∃ (m : Nat) (cv : Int), v = .int .i64 m ∧ m ≤ t + 1 ∧ pcell f q c t (t + 1 - m) m cv = bc (zs.drop k) (ps.drop k) t ∧ -1 ≤ cv ∧ cv ≤ t ∧
            Rnd w b' off' cap' zs ps s g b2 cap2 W4.heap.size W2.heap.size k r cp cur W (fun x => if x < t then bc (zs.drop k) (ps.drop k) x else if x = t then cv else -1) wr)
          (fun v _ => t + 2 - (intOf v).toNat)
        case atStart =>
          refine ⟨0, -1, rfl, by omega, ?_, by omega, by omega, hr.congr fun i _ => ?_⟩
          · rw [hG]
            rfl
          · simp
        case round =>
          obtain ⟨m, cv, rfl, hm, hpv, hv1, hv2, hr2⟩ := hrel
          obtain ⟨wj, rfl⟩ : ∃ wj, wj = wr := ⟨wr, rfl⟩
          have j4 := hr2.box.ps.cell 0 rfl
          have jp := hpc wj hr2.box.low
          have j11 := hr2.box.tab.cell 0 rfl
          have jt := hr2.tab.cell k hcurk
          have jt1 := hr2.tab.cell (k + 1) hcur1
          have jr : wj.cell? ⟨r, t, none⟩ = some (.int .i64 cv) := by
            have := hr2.row.cell hts
            rw [if_neg (by omega), if_pos rfl] at this
            exact this
          have jf := hr2.row.frozen t
          obtain ⟨p, hp⟩ : ∃ p : Nat, (m : Int) * (c : Int) = p := ⟨m * c, by simp⟩
          have hp1 : m ≤ p := by
            have : (m : Int) * 1 ≤ (m : Int) * (c : Int) := Int.mul_le_mul_of_nonneg_left hc1 (by omega)
            omega
          have hp2 : p ≤ 8040 := by
            have : (m : Int) * (c : Int) ≤ 201 * 40 := Int.mul_le_mul (by omega) hc2 (by omega) (by omega)
            omega
          by_cases hmq : m ≤ q
          · by_cases hmp : p ≤ t
            · obtain ⟨d, hd⟩ : ∃ d : Nat, (t : Int) - (p : Int) = d := ⟨t - p, by omega⟩
              have jd := hcf wj _ hr2 d (by omega)
              obtain ⟨hfd1, hfd2⟩ := hfb d (by omega)
              have hgo := pcell_go (f := f) (cur := cv) (show (m : Int) ≤ (q : Int) by omega) (show (m : Int) * (c : Int) ≤ (t : Int) by omega) (t - m)
              rw [show (t : Int) - (m : Int) * (c : Int) = (d : Int) by omega, show t - m + 1 = t + 1 - m by omega, hpv] at hgo
              have hfm : f d + (m : Int) ≤ t := by omega
              generalize hfd : f d = fd at *
              clear hpv
              by_cases a1 : 0 ≤ fd
              · by_cases a2 : cv < 0
                · have hu : upd1 cv fd m = fd + m := by simp [upd1, a1, a2]
                  have hset := (hr2.set hw0 hb2lt hrb hrn t (fd + m)).congr (G' := fun x => if x < t then bc (zs.drop k) (ps.drop k) x else if x = t then fd + m else -1) (fun i _ => row_upd (G := fun x => bc (zs.drop k) (ps.drop k) x) i)
                  rw [hu] at hgo
                  gi_wp2
                  exact ⟨⟨m + 1, fd + m, by simp, by omega, by rw [hgo]; congr 1; omega, by omega, by omega, hset⟩, by simp [intOf]; omega⟩
                · by_cases a3 : fd + m < cv
                  · have hu : upd1 cv fd m = fd + m := by simp [upd1, a1, a2, a3]
                    have hset := (hr2.set hw0 hb2lt hrb hrn t (fd + m)).congr (G' := fun x => if x < t then bc (zs.drop k) (ps.drop k) x else if x = t then fd + m else -1) (fun i _ => row_upd (G := fun x => bc (zs.drop k) (ps.drop k) x) i)
                    rw [hu] at hgo
                    gi_wp2
                    exact ⟨⟨m + 1, fd + m, by simp, by omega, by rw [hgo]; congr 1; omega, by omega, by omega, hset⟩, by simp [intOf]; omega⟩
                  · have hu : upd1 cv fd m = cv := by simp [upd1, a1, a2, a3]
                    rw [hu] at hgo
                    gi_wp2
                    exact ⟨⟨m + 1, cv, by simp, by omega, by rw [hgo]; congr 1; omega, by omega, by omega, hr2⟩, by simp [intOf]; omega⟩
              · have hu : upd1 cv fd m = cv := by simp [upd1, a1]
                rw [hu] at hgo
                gi_wp2
                exact ⟨⟨m + 1, cv, by simp, by omega, by rw [hgo]; congr 1; omega, by omega, by omega, hr2⟩, by simp [intOf]; omega⟩
            · rw [pcell_stop (.inr (by omega))] at hpv
              gi_wp2
              exact ⟨⟨t + 1, by simp, by omega, hr2.congr fun x _ => row_next hpv x⟩, by simp [intOf]; omega⟩
          · rw [pcell_stop (.inl (by omega))] at hpv
            gi_wp2
            exact ⟨⟨t + 1, by simp, by omega, hr2.congr fun x _ => row_next hpv x⟩, by simp [intOf]; omega⟩
      · obtain rfl : t = s + 1 := by omega
        gi_wp2
        have hzz := hr.chg.size
        refine ⟨hr.chg.kf, hr.chg.kp, hr.box, ⟨cur, hr.tab, hcsz, fun j h1 h2 => ?_⟩, by omega⟩
        by_cases e : j = k
        · subst e
          exact ⟨r, cp, hcurk, hrb, hr.row.congr fun x hx => by rw [if_pos hx]⟩
        · obtain ⟨ρ', cp', e1, e2, e3, e4⟩ := hr.rows j (by omega) h2
          exact ⟨ρ', cp', e1, e2, e4⟩
  case done =>
    rintro D W hD ⟨k1, ⟨cur, t1, t2, t3⟩, k3⟩ hK
    obtain ⟨r0, cp0, hcur0, hr0, hrow0⟩ := t3 0 (Nat.zero_le _) (Nat.zero_le _)
    rw [List.drop_zero, List.drop_zero] at hrow0
    have j5 := k1.sum.cell 0 rfl
    have j11 := k1.tab.cell 0 rfl
    have jt := t1.cell 0 hcur0
    have jr := hrow0.cell (i := s) (by omega)
    have hF0 : Fin41 w zs ps s g W.heap.size cur s W := ⟨k1.sum, k1.tab, t1, fun j hj => by
      obtain ⟨ρ, cp, a1, a2, a3⟩ := t3 j (Nat.zero_le _) hj
      exact ⟨ρ, cp, a1, a2, a3.lt, a3⟩, k1.low, Nat.le_refl _⟩
    have hgW := k1.size
    have hbd := bc_bd zs ps (fun d hd => (hcc d hd).1) s (by omega)
    obtain ⟨i0, hi0, hz0, hz1, hz2⟩ := info_parts (show (Try.prog.info? 3).map (fun i => (i.zero, i.size, i.bytes)) = some (some (.int .i64 0), 1, 8) by kernel_rfl)
    have hu22 : Try.prog.underlying 22 = some (.slice 3) := by kernel_rfl
    clear t3 k3 hcs4 hT4 hB4 hbk hmk
    generalize hvb : bc zs ps s = vb at *
    gi_wp2
    refine wpIn_puts (fun A W a' w' => (∃ u0 u1 u2 u3 u4 u5, a' = puts A [(130, u0), (131, u1), (132, u2), (133, u3), (134, u4), (135, u5), (136, .bool (decide (vb < 0)))]) ∧ w' = W.drew) ?_ ?_
    · gi_region
      all_goals (refine ⟨⟨.slice (some ⟨g + 1, 0, none⟩) (zs.length + 1) (zs.length + 1), .pointer (some ⟨g + 1, 0, none⟩), .slice (some ⟨r0, 0, none⟩) (s + 1) cp0, .int .i64 s, .pointer (some ⟨r0, s, none⟩), .int .i64 vb, ?_⟩, rfl⟩)
      all_goals (simp [puts, Act.put])
    rintro _ _ ⟨⟨u0, u1, u2, u3, u4, u5, rfl⟩, rfl⟩
    simp only [puts, List.foldl_cons, List.foldl_nil, List.setIfInBounds_toArray, List.set_cons_succ, List.set_cons_zero]
    go_at_K
    clear j5 j11 jt jr hrow0 hcur0
    have hKd : W.drew.heap[D]? = some (.deferred (some [])) := hK
    have hF1 : Fin41 w zs ps s g W.heap.size cur s W.drew := hF0.drew
    have hDlt : D < W.heap.size := (Array.getElem?_eq_some_iff.1 hK).1
    by_cases hneg : vb < 0
    · gi_wp2
      refine ⟨by simp, .inl ⟨_, _, rfl, run_takeDeferred hKd, ?_⟩⟩
      exact ⟨_, results_tmp2 rfl _ _ _, hF1.low.trans (belowK_b (w := w) (Nat.le_refl _) W.drew D _ (.deferred none) (by omega) hKd rfl rfl), .inl rfl⟩
    · gi_wp2
      have hF2 : F = Fence.wide := hF
      clear hF
      subst hF2
      gi_loopw [139, 17] (fun iv ov wr => ∃ (k t : Nat) (xs : List Int) (ov' : Value), ov' = ov ∧ iv = .int .i64 k ∧ k ≤ zs.length ∧ t ≤ s ∧ wr.ownsRow W.heap.size 3 1 ov xs.length (xs.map (Value.int .i64)) ∧ xs.length ≤ k ∧
          pout zs ps s = xs ++ pout (zs.drop k) (ps.drop k) t ∧ Fin41 w zs ps s g W.heap.size cur t wr ∧ wr.heap[D]? = some (.deferred (some [])))
        (fun iv _ _ => zs.length - (intOf iv).toNat)
      case atStart => exact ⟨0, s, [], _, rfl, rfl, Nat.zero_le _, Nat.le_refl _, World.ownsRow_nil _ _ _ _, Nat.le_refl _, by simp, hF1, hKd⟩
      case round =>
        obtain ⟨k, t, xs, ov, rfl, rfl, hk, hts, hown, hxk, hpo, hfin, hdd⟩ := hrel
        obtain ⟨wi, rfl⟩ : ∃ wi, wi = wr := ⟨wr, rfl⟩
        by_cases hkl : k < zs.length
        · have hkp : k < ps.length := by omega
          have hcoin : wi.cell? ⟨b, off + k, none⟩ = some (.int .i64 zs[k]) := (hfin.low.cell (p := ⟨b, off + k, none⟩) hb).trans (hcs k hkl)
          obtain ⟨hc1, hc2⟩ := hcc zs[k] (List.getElem_mem _)
          rw [pout_cons hkl hkp] at hpo
          obtain ⟨c, hcz⟩ := Int.eq_ofNat_of_zero_le (show 0 ≤ zs[k] by omega)
          rw [hcz] at hcoin hc1 hc2 hpo
          have hfb := bc_bd (zs.drop (k + 1)) (ps.drop (k + 1)) (fun d hd => (hcc d (List.mem_of_mem_drop hd)).1)
          have hbt := bc_bd (zs.drop k) (ps.drop k) (fun d hd => (hcc d (List.mem_of_mem_drop hd)).1) t (by omega)
          have hpo' : ∀ r, pfind (bc (zs.drop (k + 1)) (ps.drop (k + 1))) c (bc (zs.drop k) (ps.drop k) t) t (t + 1) 0 = r → pout zs ps s = xs ++ nxt41 (zs.drop (k + 1)) (ps.drop (k + 1)) t c r := fun r hr => by
            rw [hpo, Int.toNat_natCast, hr]
            rfl
          clear hpo
          have hfr : ∀ wr, Fin41 w zs ps s g W.heap.size cur t wr → ∀ d, d < s + 1 → ∃ ρ cp, wr.cell? ⟨g + 1, k + 1, none⟩ = some (.slice (some ⟨ρ, 0, none⟩) (s + 1) cp) ∧ wr.cell? ⟨ρ, d, none⟩ = some (.int .i64 (bc (zs.drop (k + 1)) (ps.drop (k + 1)) d)) := fun wr hr d hd => by
            obtain ⟨ρ, cp, e1, _, _, e4⟩ := hr.rows (k + 1) hkl
            exact ⟨ρ, cp, hr.tb.cell (k + 1) e1, e4.cell hd⟩
          have hft : ∀ wr, Fin41 w zs ps s g W.heap.size cur t wr → ∃ ρ cp, wr.cell? ⟨g + 1, k, none⟩ = some (.slice (some ⟨ρ, 0, none⟩) (s + 1) cp) ∧ wr.cell? ⟨ρ, t, none⟩ = some (.int .i64 (bc (zs.drop k) (ps.drop k) t)) := fun wr hr => by
            obtain ⟨ρ, cp, e1, _, _, e4⟩ := hr.rows k hk
            exact ⟨ρ, cp, hr.tb.cell k e1, e4.cell (by omega)⟩
          generalize hf : bc (zs.drop (k + 1)) (ps.drop (k + 1)) = f at hpo' hfb hfr
          generalize htt : bc (zs.drop k) (ps.drop k) t = tt at hpo' hft hbt
          gi_wp2
          gi_loopw [20, 17] (fun v ov2 wr => ∃ m : Nat, v = .int .i64 m ∧ ov = ov2 ∧ m ≤ t + 1 ∧ pfind f c tt t (t + 1 - m) m = pfind f c tt t (t + 1) 0 ∧ wr.ownsRow W.heap.size 3 1 ov xs.length (xs.map (Value.int .i64)) ∧ Fin41 w zs ps s g W.heap.size cur t wr ∧ wr.heap[D]? = some (.deferred (some [])))
            (fun v _ _ => t + 2 - (intOf v).toNat)
          case atStart => exact ⟨0, rfl, rfl, Nat.zero_le _, rfl, hown, hfin, hdd⟩
          case round =>
            clear hown hfin hdd hcoin
            obtain ⟨m, rfl, rfl, hm, hpf, hown, hfin, hdd⟩ := hrel
            obtain ⟨wj, rfl⟩ : ∃ wj, wj = wr := ⟨wr, rfl⟩
            have f5 := hfin.sum.cell 0 rfl
            have f11 := hfin.tab.cell 0 rfl
            obtain ⟨p, hp⟩ : ∃ p : Nat, (m : Int) * (c : Int) = p := ⟨m * c, by simp⟩
            have hp1 : m ≤ p := by
              have : (m : Int) * 1 ≤ (m : Int) * (c : Int) := Int.mul_le_mul_of_nonneg_left hc1 (by omega)
              omega
            have hp2 : p ≤ 8040 := by
              have : (m : Int) * (c : Int) ≤ 201 * 40 := Int.mul_le_mul (by omega) hc2 (by omega) (by omega)
              omega
            by_cases hmp : p ≤ t
            · obtain ⟨d, hd⟩ : ∃ d : Nat, (t : Int) - (p : Int) = d := ⟨t - p, by omega⟩
              obtain ⟨ρ1, cp1, y1, y2⟩ := hfr wj hfin d (by omega)
              obtain ⟨ρ0, cp0, z1, z2⟩ := hft wj hfin
              obtain ⟨hfd1, hfd2⟩ := hfb d (by omega)
              have hgo := pfind_go (f := f) (t := tt) (show (m : Int) * (c : Int) ≤ (t : Int) by omega)
              have hhit := pfind_hit (f := f) (t := tt) (show (m : Int) * (c : Int) ≤ (t : Int) by omega)
              rw [show (t : Int) - (m : Int) * (c : Int) = (d : Int) by omega] at hgo hhit
              generalize hfd : f d = fd at *
              gi_wp2
              refine reg34 (k := k) (L := zs.length) (s := s) (by omega) (by omega) hp hd (by omega) (by omega) (by omega) f11 f5 y1 y2 ?_
              go_at_K
              clear f5 f11 y1 y2 z1 z2
              have hfin1 := hfin.drew
              have hown1 := hown.drew
              have hdd1 : wj.drew.heap[D]? = some (.deferred (some [])) := hdd
              clear hfin hown hdd
              generalize wj.drew = wk at *
              have f5 := hfin1.sum.cell 0 rfl
              have f11 := hfin1.tab.cell 0 rfl
              obtain ⟨ρ0, cp0, z1, z2⟩ := hft wk hfin1
              have hfin2 := hfin1.drew
              have hown2 := hown1.drew
              have hdd2 : wk.drew.heap[D]? = some (.deferred (some [])) := hdd1
              clear hfin1 hown1 hdd1
              by_cases a1 : 0 ≤ fd
              · obtain ⟨x, hx⟩ : ∃ x : Nat, fd + (m : Int) = x := ⟨(fd + m).toNat, by omega⟩
                have hx3 : x ≤ 402 := by omega
                gi_wp2
                refine reg35b (k := k) (L := zs.length) (s := s) (by omega) hx (by omega) a1 (by omega) f11 f5 z1 z2 ?_
                go_at_K
                clear f5 f11 z1 z2
                generalize wk.drew = wl at *
                have f5 := hfin2.sum.cell 0 rfl
                have ff := hfin2.sum.frozen 0
                by_cases heq : (x : Int) = tt
                · rw [show t + 1 - m = (t - m) + 1 by omega, hhit a1 (by omega)] at hpf
                  have hpo2 := hpo' (some m) hpf.symm
                  clear hpo' hfr hft hgo hhit
                  gi_wp2_with (gi_at_builtin; refine wpListIn_append_own _ rfl _ _ 22 rfl W.heap.size 3 i0 (.int .i64 0) 1 8 hu22 hi0 hz0 hz1 hz2 rfl (by decide) _ _ _ rfl (hown2.alloc _) ⟨wl.heap.size, 0, none⟩ 1 1 [.int .i64 m] rfl rfl ?c1 ?c2 ?c3 ?c4 ?c5 ?_)
                  case c1 =>
                    intro j u hj
                    match j, hj with
                    | 0, hj => simp at hj; subst hj; simp [Addr.add]
                  case c2 => intro u hu; simp at hu; subst hu; rfl
                  case c3 => unfold maxLen; omega
                  case c4 => omega
                  case c5 => have := hfin2.size; simp; omega
                  · intro v' w1 hown' hgrow _
                    have hrow : ∀ r, ov.ownBlock = some r → W.heap.size ≤ r := fun r e => (hown2.lt r e).1
                    have hfin3 := (hfin2.kept hw0 hgW (World.grownBy_alloc wl (.cells #[.int .i64 (m : Int)] 3) none) (fun r e => by cases e)).kept hw0 hgW hgrow hrow
                    have hdd3 : w1.heap[D]? = some (.deferred (some [])) := (hgrow.block D (by have := (Array.getElem?_eq_some_iff.1 hdd2).1; simp; omega) (fun e => by have := hrow D e.symm; omega)).trans ((hao_old wl _ D (Array.getElem?_eq_some_iff.1 hdd2).1).trans hdd2)
                    clear hgrow hown2 hfin2 hdd2 f5 ff
                    have f5 := hfin3.sum.cell 0 rfl
                    have ff := hfin3.sum.frozen 0
                    have hfin4 := hfin3.pay hw0 d
                    have hown4 := own_pay (w := w) hown' (by omega) (.int .i64 d)
                    have hdd4 : (w1.setCell ⟨w.heap.size + 1, 0, none⟩ (.int .i64 d)).heap[D]? = some (.deferred (some [])) := (heap_setCell_other w1 ⟨w.heap.size + 1, 0, none⟩ D _ (by show D ≠ w.heap.size + 1; omega)).trans hdd3
                    gi_wp2
                    refine ⟨⟨k + 1, d, xs ++ [(m : Int)], v', rfl, by simp, by omega, by omega, by simpa using hown4, by simp; omega, ?_, hfin4, hdd4⟩, by simp [intOf]; omega⟩
                    rw [hpo2]
                    simp only [nxt41, List.append_assoc, List.cons_append, List.nil_append]
                    rw [show (t : Int) - (m : Int) * (c : Int) = (d : Int) by omega]
                · have hpf2 := hgo (by omega) (t - m)
                  rw [show (t - m) + 1 = t + 1 - m by omega, hpf] at hpf2
                  gi_wp2
                  exact ⟨⟨m + 1, by simp, rfl, by omega, by rw [show t + 1 - (m + 1) = t - m by omega]; simpa using hpf2.symm, hown2, hfin2, hdd2⟩, by simp [intOf]; omega⟩
              · have hpf2 := hgo (by omega) (t - m)
                rw [show (t - m) + 1 = t + 1 - m by omega, hpf] at hpf2
                gi_wp2
                refine reg35a (v := fd) (by omega) ?_
                go_at_K
                gi_wp2
                exact ⟨⟨m + 1, by simp, rfl, by omega, by rw [show t + 1 - (m + 1) = t - m by omega]; simpa using hpf2.symm, hown2, hfin2, hdd2⟩, by simp [intOf]; omega⟩
            · rw [pfind_stop (by omega)] at hpf
              have hpo2 := hpo' none hpf.symm
              clear hpo' hfr hft
              gi_wp2
              exact ⟨⟨k + 1, t, xs, ov, rfl, by simp, by omega, hts, hown, by omega, hpo2, hfin, hdd⟩, by simp [intOf]; omega⟩
        · obtain rfl : k = zs.length := by omega
          rw [show pout (zs.drop zs.length) (ps.drop zs.length) t = [] by rw [List.drop_of_length_le (Nat.le_refl _)]; rfl, List.append_nil] at hpo
          gi_wp2
          refine ⟨by simp, .inl ⟨_, _, rfl, run_takeDeferred hdd, ?_⟩⟩
          refine ⟨_, results_tmp2 rfl _ _ _, hfin.low.trans (belowK_b (w := w) (Nat.le_refl _) wi D _ (.deferred none) (by omega) hdd rfl rfl), ?_⟩
          have hown5 := hown.kept (grownBy_putObj' wi D (.deferred none)) (.inr (fun e => by have := (hown.lt D e).1; omega))
          exact .inr ⟨ov, rfl, own_base hown5 (by omega)⟩
end
end Go.Proofs.Ytjgmfdgpgdaclaa
/-
  What a purse pays: the contract.
-/
set_option linter.unusedVariables false
set_option linter.unusedSimpArgs false
set_option maxRecDepth 100000
namespace Go.Proofs.Ytjgmfdgpgdaclaa
open Go.RowKit Go.Shelf
section
attribute [local go_sem] Oper.semAt_some
set_option maxHeartbeats 2000000 in
theorem purse_err (e : Int) (he : e ≠ 0) (v0 : Value) (pa : Option Addr) (pl pc : Nat) (s : Int) (w : World) (hck : ∀ W, Below w.heap.size w W → Calls Try.prog 56 #[v0, .int .i64 s] W fun x w' => x = .returned (.int .i64 e) ∧ Below W.heap.size W w') :
    Calls Try.prog 41 #[v0, .slice pa pl pc, .int .i64 s] w fun x w' => x = .returned (.tuple #[.slice none 0 0, .int .i64 e]) ∧ Below w.heap.size w w' := by
  have a1 : Below w.heap.size w ((w.alloc (.cells #[.slice pa pl pc] 22)).alloc (.cells #[.int .i64 s] 3)) := ((Below.refl _ w).alloc (Nat.le_refl _) _).alloc (by simp) _
  have a4 : Blk ((w.alloc (.cells #[.slice pa pl pc] 22)).alloc (.cells #[.int .i64 s] 3)) w.heap.size #[.slice pa pl pc] 22 := (Blk.new w _ _).alloc _
  have a5 : Blk ((w.alloc (.cells #[.slice pa pl pc] 22)).alloc (.cells #[.int .i64 s] 3)) (w.heap.size + 1) #[.int .i64 s] 3 := by
    have := Blk.new (w.alloc (.cells #[.slice pa pl pc] 22)) #[.int .i64 s] 3
    rwa [World.size_alloc] at this
  generalize hWb : (w.alloc (.cells #[.slice pa pl pc] 22)).alloc (.cells #[.int .i64 s] 3) = Wb at a1 a4 a5
  have aB : Wb.heap.size = w.heap.size + 2 := by rw [← hWb]; simp
  have e4 := a4.cell 0 rfl
  have e5 := a5.cell 0 rfl
  go_enter Try.func41, Try.ntmps41
  go_wp2_with (go_at_call 56; refine (hck _ a1).mono ?_; rintro e w1 ⟨rfl, hB1⟩)
  have hB2 : Below w.heap.size w w1 := a1.trans (hB1.mono (by omega))
  go_ret2
  exact ⟨rfl, hB2⟩
set_option maxHeartbeats 2000000 in
theorem purse_err2 (e : Int) (he : e ≠ 0) (v0 : Value) (pa : Option Addr) (pl pc : Nat) (s : Int) (w : World) (hck : ∀ W, Below w.heap.size w W → Calls Try.prog 56 #[v0, .int .i64 s] W fun x w' => x = .returned (.int .i64 0) ∧ Below W.heap.size W w')
    (hct : ∀ W, Below w.heap.size w W → Calls Try.prog 68 #[v0, .slice pa pl pc] W fun x w' => x = .returned (.int .i64 e) ∧ Below W.heap.size W w') :
    Calls Try.prog 41 #[v0, .slice pa pl pc, .int .i64 s] w fun x w' => x = .returned (.tuple #[.slice none 0 0, .int .i64 e]) ∧ Below w.heap.size w w' := by
  have a1 : Below w.heap.size w ((w.alloc (.cells #[.slice pa pl pc] 22)).alloc (.cells #[.int .i64 s] 3)) := ((Below.refl _ w).alloc (Nat.le_refl _) _).alloc (by simp) _
  have a4 : Blk ((w.alloc (.cells #[.slice pa pl pc] 22)).alloc (.cells #[.int .i64 s] 3)) w.heap.size #[.slice pa pl pc] 22 := (Blk.new w _ _).alloc _
  have a5 : Blk ((w.alloc (.cells #[.slice pa pl pc] 22)).alloc (.cells #[.int .i64 s] 3)) (w.heap.size + 1) #[.int .i64 s] 3 := by
    have := Blk.new (w.alloc (.cells #[.slice pa pl pc] 22)) #[.int .i64 s] 3
    rwa [World.size_alloc] at this
  generalize hWb : (w.alloc (.cells #[.slice pa pl pc] 22)).alloc (.cells #[.int .i64 s] 3) = Wb at a1 a4 a5
  have aB : Wb.heap.size = w.heap.size + 2 := by rw [← hWb]; simp
  have e4 := a4.cell 0 rfl
  have e5 := a5.cell 0 rfl
  go_enter Try.func41, Try.ntmps41
  go_wp2_with (first
    | (go_at_call 56; refine (hck _ a1).mono ?_; rintro e w2 ⟨rfl, hB1⟩;
        have b4 := a4.below hB1 (by omega); have f4 := b4.cell 0 rfl;
        have hB2 : Below w.heap.size w w2 := a1.trans (hB1.mono (by omega)))
    | (go_at_call 68; refine (hct _ hB2).mono ?_; rintro e w3 ⟨rfl, hB3⟩))
  have hB4 : Below w.heap.size w w3 := hB2.trans (hB3.mono (by have := b4.lt; omega))
  go_ret2
  exact ⟨rfl, hB4⟩
end
open Go.Vi
set_option maxHeartbeats 2000000 in
theorem HC41 (n : Nat × Nat) (xs : pksDen [.c (.sl (.int .i64)), .c (.sl (.int .i64)), .c (.int .i64)]) (r : rksDen [.own (.int .i64) 0, .c (.int .i64) 0]) (h : HF41 (S56 n) (S68 n) (S52 n) (S46 n) xs.1 xs.2.1 xs.2.2.1 = some r) (vs : List V) (hv : pksArg [.c (.sl (.int .i64)), .c (.sl (.int .i64)), .c (.int .i64)] vs = some xs) :
    FC Try.prog 41 vs (rets [.own (.int .i64) 0, .c (.int .i64) 0] r) := by
  obtain ⟨zs, ps, s, ⟨⟩⟩ := xs
  unfold HF41 at h
  obtain ⟨e, he, h⟩ := Option.bind_eq_some_iff.1 h
  intro w A0 args hA hargs
  have hv2 := pksArg_VR _ _ _ _ hv hargs
  match args, hv2 with
  | [v0, v1, v2], ⟨g0, g1, g2, _⟩ =>
    have g2 : v2 = .int .i64 s := g2
    subst g2
    have g0 : CR w A0 (.sl (.int .i64) zs false) v0 := g0
    have g1 : CR w A0 (.sl (.int .i64) ps false) v1 := g1
    have hmon : ∀ {W : World}, Below w.heap.size w W → ∀ b, A0 b → A0 b ∧ W.heap[b]? = w.heap[b]? := fun hB b hb => ⟨hb, hB.block b (hA b hb)⟩
    have hlt : ∀ {W : World}, Below w.heap.size w W → ∀ b, A0 b → b < W.heap.size := fun hB b hb => Nat.lt_of_lt_of_le (hA b hb) hB.size
    have hck := fun W (hW : Below w.heap.size w W) => fc_int (w := W) (args := [v0, .int .i64 s]) (fcs_FC (rks := [.c (.int .i64) 4]) (FC56 n) (vs := [.c (.sl (.int .i64) zs false), .c (.int .i64 s)]) (xs := (zs, s, ())) rfl he) (hlt hW) ⟨CR.mono (hmon hW) _ _ g0, rfl, trivial⟩
    have nil1 : ∀ {e : Int} {e' : Ending} {W' : World}, e' = .returned (.tuple #[.slice none 0 0, .int .i64 e]) ∧ Below w.heap.size w W' →
        (match e', W' with | .returned u, w' => Grows w w' ∧ RetR w w' A0 (rets [.own (.int .i64) 0, .c (.int .i64) 0] (([] : List Int), e)) u | _, _ => False) := by
      rintro e e' W' ⟨rfl, hB⟩
      exact ⟨Grows.of_below hB, [.emp, .emp], [_, _], rfl, ⟨rfl, ⟨none, rfl, fun _ => rfl, rfl, fun _ _ h => (by cases h)⟩, fun b c h => (by cases h)⟩, fun b c h => (by cases h), rfl, fun b c h => (by cases h), trivial⟩
    obtain ⟨pa, pc, rfl, _⟩ := id g1
    cases hz : e != 0 with
    | true =>
      rw [hz] at h
      cases h
      exact (purse_err e (by simpa using hz) v0 pa ps.length pc s w hck).mono fun _ _ h => nil1 h
    | false =>
      rw [hz] at h
      have hz : e = 0 := by simpa using hz
      subst hz
      simp only [cond_false] at h
      obtain ⟨e2, he2, h⟩ := Option.bind_eq_some_iff.1 h
      have hct := fun W (hW : Below w.heap.size w W) => fc_int (w := W) (args := [v0, .slice pa ps.length pc]) (fcs_FC (rks := [.c (.int .i64) 4]) (FC68 n) (vs := [.c (.sl (.int .i64) zs false), .c (.sl (.int .i64) ps false)]) (xs := (zs, ps, ())) rfl he2) (hlt hW) ⟨CR.mono (hmon hW) _ _ g0, CR.mono (hmon hW) _ _ g1, trivial⟩
      cases hz2 : e2 != 0 with
      | true =>
        rw [hz2] at h
        cases h
        exact (purse_err2 e2 (by simpa using hz2) v0 pa ps.length pc s w hck hct).mono fun _ _ h => nil1 h
      | false =>
        rw [hz2] at h
        have hz2 : e2 = 0 := by simpa using hz2
        subst hz2
        simp only [cond_false] at h
        obtain ⟨r1, hr1, h⟩ := Option.bind_eq_some_iff.1 h
        obtain ⟨r2, hr2, h⟩ := Option.bind_eq_some_iff.1 h
        obtain ⟨hd, h9⟩ := cond_some h rfl
        clear h
        simp only [Bool.and_eq_true, decide_eq_true_eq, List.all_eq_true] at hd
        obtain ⟨⟨⟨⟨hc, hl0, hl1⟩, hs0, hs1⟩, hpl, hpp⟩, hra, hrb⟩ := hd
        subst hrb
        subst hra
        obtain ⟨b, off, cap, rfl, hb, hcs⟩ := CR_ints (zs := zs) (t := false) g0 hl0 hA
        obtain ⟨b', off', cap', hpe, hb', hps⟩ := CR_ints (zs := ps) (t := false) g1 (by omega) hA
        rw [hpe, hpl] at hct ⊢
        obtain ⟨s', rfl⟩ := Int.eq_ofNat_of_zero_le hs0
        have hrl : (List.replicate (Int.toNat (s' : Int) + 1) (-1 : Int)).length = s' + 1 := by simp
        have hget : ∀ i, i < s' + 1 → (List.replicate (Int.toNat (s' : Int) + 1) (-1 : Int))[i]?.getD 0 = -1 := fun i hi => by
          rw [List.getElem?_replicate, if_pos (by simp; omega)]
          rfl
        have hrep : ∀ W b1, Row W b1 1 1 (fun _ => -1) → Calls Try.prog 52 #[.slice (some ⟨b1, 0, none⟩) 1 1, .int .i64 ((s' : Int) + 1)] W fun e w' => ∃ b2 cap2, e = .returned (.slice (some ⟨b2, 0, none⟩) (s' + 1) cap2) ∧ W.heap.size ≤ b2 ∧ Row w' b2 cap2 (s' + 1) (fun _ => -1) ∧ Below W.heap.size W w' := fun W b1 hrow => by
          have h0 := fc_own (w := W) (A := fun x => x = b1) (args := [.slice (some ⟨b1, 0, none⟩) 1 1, .int .i64 ((s' : Int) + 1)]) (fcs_FC (rks := [.own (.int .i64) 4]) (FC52 n) (vs := [.c (.sl (.int .i64) [-1] false), .c (.int .i64 ((s' : Int) + 1))]) (xs := ([-1], (s' : Int) + 1, ())) rfl hr1) (by rw [hrl]; omega) (fun b hb => by subst hb; exact hrow.lt)
            ⟨CR_row (l := [-1]) (hrow.congr fun i hi => by match i, hi with | 0, _ => rfl), rfl, trivial⟩
          refine h0.mono ?_
          rintro x w2 ⟨b2, cap2, rfl, k1, k2, k3⟩
          rw [hrl] at k2 ⊢
          exact ⟨b2, cap2, rfl, k1, k2.congr hget, k3⟩
        have hcl : ∀ W b1 cap1, Row W b1 cap1 (s' + 1) (fun _ => -1) → Calls Try.prog 46 #[.slice (some ⟨b1, 0, none⟩) (s' + 1) cap1] W fun e w' => ∃ b2 cap2, e = .returned (.slice (some ⟨b2, 0, none⟩) (s' + 1) cap2) ∧ W.heap.size ≤ b2 ∧ Row w' b2 cap2 (s' + 1) (fun _ => -1) ∧ Below W.heap.size W w' := fun W b1 cap1 hrow => by
          have h0 := fc_own (w := W) (A := fun x => x = b1) (args := [.slice (some ⟨b1, 0, none⟩) (s' + 1) cap1]) (fcs_FC (rks := [.own (.int .i64) 2]) (FC46 n) (vs := [.c (.sl (.int .i64) (List.replicate (Int.toNat (s' : Int) + 1) (-1)) false)]) (xs := (List.replicate (Int.toNat (s' : Int) + 1) (-1), ())) rfl hr2) (by rw [hrl]; omega) (fun b hb => by subst hb; exact hrow.lt)
            ⟨by
              have := CR_row (W := W) (b := b1) (cap := cap1) (l := List.replicate (Int.toNat (s' : Int) + 1) (-1)) (by rw [hrl]; exact hrow.congr fun i hi => (hget i hi).symm)
              rw [hrl] at this
              exact this, trivial⟩
          refine h0.mono ?_
          rintro x w2 ⟨b2, cap2, rfl, k1, k2, k3⟩
          rw [hrl] at k2 ⊢
          exact ⟨b2, cap2, rfl, k1, k2.congr hget, k3⟩
        have key := (callsIn_wide (n := 3)).1 (purse_in Fence.wide rfl 3 trivial trivial trivial trivial trivial trivial trivial rfl (by omega) b off cap b' off' cap' zs ps s' w hb hb' hcs hps hl0 hl1 hpl hc hpp (by omega)
          (fun W hW => callsIn_wide.2 (hck W hW)) (fun W hW => callsIn_wide.2 (hct W hW)) (fun W b1 h => callsIn_wide.2 (hrep W b1 h)) (fun m W b1 cap1 h => callsIn_wide.2 (hcl W b1 cap1 h)))
        refine key.mono ?_
        rintro x w2 ⟨hB, h3 | ⟨hn, v, rfl, hown⟩⟩
        · rw [decide_eq_true h3.1, cond_true] at h9
          have h9 := Option.some.inj h9
          subst h9
          exact nil1 ⟨h3.2, hB⟩
        · rw [decide_eq_false hn, cond_false] at h9
          have h9 := Option.some.inj h9
          subst h9
          rcases hown.2 with ⟨rfl, hn0⟩ | ⟨g, cp, cur, rfl, hg, hgg, hl, hm, hsz, htk⟩
          · have hp0 : pout zs ps s' = [] := List.eq_nil_of_length_eq_zero hn0
            rw [hp0]
            exact nil1 ⟨rfl, hB⟩
          · have hout := out_ints (w := w) (W' := w2) (A1 := newA w w2 A0 [.at g cp, .emp]) (b := g) (cap := cp) (l := pout zs ps s') (cur := cur) (t := 3) hgg (by omega) hl (by omega) (fun i x hx => by
              have h1 : ((pout zs ps s').map (Value.int .i64))[i]? = some (.int .i64 x) := by rw [List.getElem?_map, hx]; rfl
              rw [← htk, List.getElem?_take] at h1
              split at h1
              · simpa using h1
              · cases h1)
            exact ⟨Grows.of_below hB, [.at g cp, .emp], [_, _], rfl, hout, fun b c hb j hj c' => by simp at hj; subst hj; simp, rfl, fun b c h => (by cases h), trivial⟩
end Go.Proofs.Ytjgmfdgpgdaclaa
set_option linter.unusedVariables false
set_option linter.unusedSimpArgs false
set_option maxRecDepth 100000
namespace Go.Proofs.Ytjgmfdgpgdaclaa
open Go.Vi
abbrev R41 := List Int × Int
def pk41 : List PK := [.c (.sl (.int .i64)), .c (.sl (.int .i64)), .c (.int .i64)]
def rk41 : List RK := [.own (.int .i64) 0, .c (.int .i64) 0]
noncomputable def S41 (n : Nat × Nat) (coins0 : List Int) (purse1 : List Int) (sum2 : Int) : Option R41 := HF41 (S56 n) (S68 n) (S52 n) (S46 n) coins0 purse1 sum2
noncomputable def P41 (n : Nat × Nat) := phiOf pk41 rk41 (fun xs => S41 n xs.1 xs.2.1 xs.2.2.1)
theorem call41 : CallOK Try.prog 41 := callOK_of Try.func41 (by kernel_rfl) (by kernel_rfl)
theorem FC41 (n : Nat × Nat) : FCs Try.prog 41 (P41 n) := phiOf_FCs fun xs r h vs hv => HC41 n xs r h vs hv
abbrev R55 := List Int
noncomputable def c55 : Code := bodyOf Try.f55
noncomputable def an55 : Ann := .l
def pk55 : List PK := []
def rk55 : List RK := [.own (.int .i64) 0]
noncomputable def rt55 (st : St) : Option R55 := rtG rk55 st
noncomputable def E55 (n : Nat × Nat) : Env := { T := tab, phi := noPhi, eff := fun _ => false, fuel := n.1, hold := n.2 }
noncomputable def S55 (n : Nat × Nat) : Option R55 := run (E55 n) c55 an55 rt55 (fun _ _ => none) rt55 { tm := [uu, uu, uu], hp := emp }
theorem S55_eq (n : Nat × Nat) : S55 n =
 some [1, 2] := by kernel_rfl
theorem S55_run (n : Nat × Nat) (xs : pksDen pk55) : S55 n = runG (E55 n) noScope c55 an55 (rtG rk55) (fun _ _ => none) (rtG rk55) (st0 pk55 xs Try.f55.ntmps) := by kernel_rfl
noncomputable def P55 (n : Nat × Nat) := phiOf pk55 rk55 (fun xs => S55 n)
theorem call55 : CallOK Try.prog 55 := callOK_of Try.func55 (by kernel_rfl) (by kernel_rfl)
theorem env55 (n : Nat × Nat) : EnvOK Try.prog (E55 n) := envOK0 noPhi_ok rfl rfl
theorem par55 (n : Nat × Nat) : EnvPar (E55 n) := envPar0 noPhi_par rfl
theorem FC55 (n : Nat × Nat) : FCs Try.prog 55 (P55 n) := phiOf_FCs fun xs r h vs hv => FC.of_runG tabOK eqsOK (env55 n) (par55 n) mixed (fun _ => noScope_ok) Try.func55 (c := c55) (an := an55) (pks := pk55) (rks := rk55) (by kernel_rfl) (by kernel_rfl) hv ((S55_run n xs).symm.trans h)
abbrev R33 := Bool × Int
noncomputable def c33 : Code := bodyOf Try.f33
noncomputable def an33 : Ann := (.s .l (.s .l (.s (.j [0, 1] (.s .l (.j [0, 1] .l (.s .l (.j [0, 1] .l (.s .l (.j [0, 1] .l (.s .l (.j [0, 1] .l (.s .l (.j [0, 1] .l .l)))))))))) .l) .l)))
def pk33 : List PK := [.c (.sl (.int .i64)), .c (.int .i64)]
def rk33 : List RK := [.c .bool 4, .c (.int .i64) 5]
noncomputable def rt33 (st : St) : Option R33 := rtG rk33 st
noncomputable def E33 (n : Nat × Nat) : Env := { T := tab, phi := (consPhi 25 (fun _ => true) (P25 n) (consPhi 46 (fun _ => true) (P46 n) (consPhi 63 (fun _ => true) (P63 n) (consPhi 66 (fun _ => true) (P66 n) noPhi)))), eff := fun _ => false, fuel := n.1, hold := n.2 }
noncomputable def S33 (n : Nat × Nat) (coins0 : List Int) (coin1 : Int) : Option R33 := run (E33 n) c33 an33 rt33 (fun _ _ => none) rt33 { tm := [.c (.sl (.int .i64) coins0 false), .c (.int .i64 coin1), uu, uu, uu, uu, uu, uu, uu, uu, uu, uu, uu, uu, uu, uu, uu, uu, uu, uu, uu, uu, uu, uu, uu, uu, uu, uu, uu, uu, uu, uu, uu, uu, uu, uu, uu, uu, uu, uu, uu, uu, uu, uu, uu, uu, uu, uu, uu, uu, uu, uu, uu, uu, uu, uu, uu, uu, uu, uu, uu, uu, uu, uu], hp := emp }
theorem S33_eq (n : Nat × Nat) (coins0 : List Int) (coin1 : Int) : S33 n coins0 coin1 =
 (S25 n coins0).bind fun r1' =>
 (bif (r1' != 0) then some (false, r1')
 else (bif ((coins0.length : Int) == 6) then some (false, 3)
 else (bif decide (coin1 > 40) then some (false, 1)
 else (idx coins0 (wr .i64 ((coins0.length : Int) - 1))).bind fun x2' =>
 (bif decide (coin1 ≤ x2') then some (false, 7)
 else (S66 n coins0).bind fun r3' =>
 (bif decide (r3' > 0) then some (false, 13)
 else (idx coins0 (wr .i64 ((coins0.length : Int) - 1))).bind fun x4' =>
 (bif x4' == 0 then none
 else (S46 n coins0).bind fun r5' =>
 (bif decide (r5'.length + [coin1].length ≤ lim) then (S63 n (r5' ++ [coin1]) (wr .i64 ((wr .i64 (Int.tdiv (wr .i64 ((wr .i64 (coin1 + x4')) - 1)) x4')) * x4'))).bind fun r6' =>
 some (decide (r6'.2 ≤ wr .i64 (Int.tdiv (wr .i64 ((wr .i64 (coin1 + x4')) - 1)) x4')), 0)
 else none))))))) := by kernel_rfl
theorem S33_run (n : Nat × Nat) (xs : pksDen pk33) : S33 n xs.1 xs.2.1 = runG (E33 n) noScope c33 an33 (rtG rk33) (fun _ _ => none) (rtG rk33) (st0 pk33 xs Try.f33.ntmps) := by kernel_rfl
noncomputable def P33 (n : Nat × Nat) := phiOf pk33 rk33 (fun xs => S33 n xs.1 xs.2.1)
theorem call33 : CallOK Try.prog 33 := callOK_of Try.func33 (by kernel_rfl) (by kernel_rfl)
theorem env33 (n : Nat × Nat) : EnvOK Try.prog (E33 n) := envOK0 (consPhi_ok (FC25 n) call25 (consPhi_ok (FC46 n) call46 (consPhi_ok (FC63 n) call63 (consPhi_ok (FC66 n) call66 noPhi_ok)))) rfl rfl
theorem par33 (n : Nat × Nat) : EnvPar (E33 n) := envPar0 (consPhi_par phiOf_Par1 (consPhi_par phiOf_Par1 (consPhi_par phiOf_Par1 (consPhi_par phiOf_Par1 noPhi_par)))) rfl
theorem FC33 (n : Nat × Nat) : FCs Try.prog 33 (P33 n) := phiOf_FCs fun xs r h vs hv => FC.of_runG tabOK eqsOK (env33 n) (par33 n) mixed (fun _ => noScope_ok) Try.func33 (c := c33) (an := an33) (pks := pk33) (rks := rk33) (by kernel_rfl) (by kernel_rfl) hv ((S33_run n xs).symm.trans h)
abbrev R24 := Bool
noncomputable def c24 : Code := bodyOf Try.f24
noncomputable def an24 : Ann := (.s .l (.s (.s .l (.j [0, 1] .l .l)) (.s (.s .l (.j [] (.j [0, 1, 5] (.s (.s .l (.j [0, 1, 5] .l .l)) (.s (.j [0, 1, 5] (.s .l (.j [0, 1, 5] .l .l)) .l) .l)) .l) .l)) .l)))
def pk24 : List PK := [.c (.sl (.int .i64)), .c (.sl (.int .i64))]
def rk24 : List RK := [.c .bool 4]
noncomputable def rt24 (st : St) : Option R24 := rtG rk24 st
noncomputable def E24 (n : Nat × Nat) : Env := { T := tab, phi := noPhi, eff := fun _ => false, fuel := n.1, hold := n.2 }
noncomputable def kq24_3 (n : Nat × Nat) : St → Option R24 := run (E24 n) (cB (cB (cB c24))) (Ann.snd (Ann.snd (Ann.snd an24))) rt24 (fun _ _ => none) rt24
noncomputable def xb24_5 (n : Nat × Nat) : Nat → St → Option R24 := fun j s => bif Nat.beq j 0 then normC [] s (kq24_3 n) else (fun _ _ => none) j s
noncomputable def F24_6 (n : Nat × Nat) : (St → Option R24) → St → Option R24 := fun K s => run (E24 n) (cA (cA (cB (cA (cB (cB c24)))))) (Ann.fst (Ann.fst (Ann.snd (Ann.fst (Ann.snd (Ann.snd an24)))))) (fun s => normC [0, 1, 5] s K) (xb24_5 n) rt24 s
noncomputable def L24_1 (n : Nat × Nat) (m : Nat) (a0 : List Int) (b1 : List Int) (i5 : Int) : Option R24 := loopN (F24_6 n) m { tm := [.c (.sl (.int .i64) a0 false), .c (.sl (.int .i64) b1 false), uu, uu, uu, .c (.int .i64 i5), uu, uu, uu, uu, uu, uu, uu, uu, uu, uu, uu, uu, uu, uu, uu, uu, uu, uu, uu, uu], hp := emp }
theorem L24_1_eq (n : Nat × Nat) (m1 : Nat) (a0 : List Int) (b1 : List Int) (i5 : Int) : L24_1 n (m1 + 1) a0 b1 i5 =
 (bif decide (i5 < (a0.length : Int)) then (idx a0 i5).bind fun x1' =>
 (idx b1 i5).bind fun x2' =>
 (bif (x1' != x2') then some false
 else L24_1 n m1 a0 b1 (wr .i64 (i5 + 1)))
 else some true) := by kernel_rfl
noncomputable def S24 (n : Nat × Nat) (a0 : List Int) (b1 : List Int) : Option R24 := run (E24 n) c24 an24 rt24 (fun _ _ => none) rt24 { tm := [.c (.sl (.int .i64) a0 false), .c (.sl (.int .i64) b1 false), uu, uu, uu, uu, uu, uu, uu, uu, uu, uu, uu, uu, uu, uu, uu, uu, uu, uu, uu, uu, uu, uu, uu, uu], hp := emp }
theorem S24_eq (n : Nat × Nat) (a0 : List Int) (b1 : List Int) : S24 n a0 b1 =
 (bif ((a0.length : Int) != (b1.length : Int)) then some false
 else L24_1 n n.1 a0 b1 0) := by kernel_rfl
theorem S24_run (n : Nat × Nat) (xs : pksDen pk24) : S24 n xs.1 xs.2.1 = runG (E24 n) noScope c24 an24 (rtG rk24) (fun _ _ => none) (rtG rk24) (st0 pk24 xs Try.f24.ntmps) := by kernel_rfl
noncomputable def P24 (n : Nat × Nat) := phiOf pk24 rk24 (fun xs => S24 n xs.1 xs.2.1)
theorem call24 : CallOK Try.prog 24 := callOK_of Try.func24 (by kernel_rfl) (by kernel_rfl)
theorem env24 (n : Nat × Nat) : EnvOK Try.prog (E24 n) := envOK0 noPhi_ok rfl rfl
theorem par24 (n : Nat × Nat) : EnvPar (E24 n) := envPar0 noPhi_par rfl
theorem FC24 (n : Nat × Nat) : FCs Try.prog 24 (P24 n) := phiOf_FCs fun xs r h vs hv => FC.of_runG tabOK eqsOK (env24 n) (par24 n) mixed (fun _ => noScope_ok) Try.func24 (c := c24) (an := an24) (pks := pk24) (rks := rk24) (by kernel_rfl) (by kernel_rfl) hv ((S24_run n xs).symm.trans h)
abbrev R31 := Int
noncomputable def c31 : Code := bodyOf Try.f31
noncomputable def an31 : Ann := (.s .l (.s (.s .l (.s .l (.j [0, 1, 2] .l .l))) (.s (.s .l (.s .l (.j [0, 1, 2] .l .l))) (.s .l (.s (.s .l (.j [0, 1, 9, 10] (.j [0, 1, 9, 10, 27, 28, 29] (.s .l (.s (.j [0, 1, 9, 10, 27, 28, 29] .l .l) (.s (.j [0, 1, 9, 10, 27, 28, 29] .l .l) .l))) .l) .l)) (.s .l (.s (.j [] (.s .l (.j [] .l (.s .l (.j [] .l .l)))) .l) .l)))))))
def pk31 : List PK := [.c (.sl (.int .i64)), .c (.int .i64), .c (.sl (.int .i64))]
def rk31 : List RK := [.c (.int .i64) 6]
noncomputable def rt31 (st : St) : Option R31 := rtG rk31 st
noncomputable def E31 (n : Nat × Nat) : Env := { T := tab, phi := (consPhi 56 (fun _ => true) (P56 n) (consPhi 63 (fun _ => true) (P63 n) (consPhi 68 (fun _ => true) (P68 n) noPhi))), eff := fun _ => false, fuel := n.1, hold := n.2 }
noncomputable def kq31_5 (n : Nat × Nat) : St → Option R31 := run (E31 n) (cB (cB (cB (cB (cB c31))))) (Ann.snd (Ann.snd (Ann.snd (Ann.snd (Ann.snd an31))))) rt31 (fun _ _ => none) rt31
noncomputable def xb31_7 (n : Nat × Nat) : Nat → St → Option R31 := fun j s => bif Nat.beq j 0 then normC [0, 1, 9, 10] s (kq31_5 n) else (fun _ _ => none) j s
noncomputable def F31_8 (n : Nat × Nat) : (St → Option R31) → St → Option R31 := fun K s => run (E31 n) (cA (cA (cB (cA (cB (cB (cB (cB c31)))))))) (Ann.fst (Ann.fst (Ann.snd (Ann.fst (Ann.snd (Ann.snd (Ann.snd (Ann.snd an31)))))))) (fun s => normC [0, 1, 9, 10, 27, 28, 29] s K) (xb31_7 n) rt31 s
noncomputable def L31_1 (n : Nat × Nat) (m : Nat) (coins0 : List Int) (sum1 : Int) (worth9 : Int) (has10 : Int) (v27 : List Int) (v28 : Int) (v29 : Int) : Option R31 := loopN (F31_8 n) m { tm := [.c (.sl (.int .i64) coins0 false), .c (.int .i64 sum1), uu, uu, uu, uu, uu, uu, uu, .c (.int .i64 worth9), .c (.int .i64 has10), uu, uu, uu, uu, uu, uu, uu, uu, uu, uu, uu, uu, uu, uu, uu, uu, .c (.sl (.int .i64) v27 false), .c (.int .i64 v28), .c (.int .i64 v29), uu, uu, uu, uu, uu, uu, uu, uu, uu, uu, uu, uu, uu, uu, uu, uu, uu, uu, uu, uu, uu, uu, uu, uu, uu, uu, uu, uu, uu, uu], hp := emp }
theorem L31_1_eq (n : Nat × Nat) (m1 : Nat) (coins0 : List Int) (sum1 : Int) (worth9 : Int) (has10 : Int) (v27 : List Int) (v28 : Int) (v29 : Int) : L31_1 n (m1 + 1) coins0 sum1 worth9 has10 v27 v28 v29 =
 (bif decide (v29 < v28) then (idx v27 v29).bind fun x3' =>
 (idx coins0 v29).bind fun x4' =>
      L31_1 n m1 coins0 sum1 (wr .i64 (worth9 + (wr .i64 (x3' * x4')))) (wr .i64 (has10 + x3')) v27 v28 (wr .i64 (v29 + 1))
 else (S63 n coins0 sum1).bind fun r5' =>
 (bif (worth9 != sum1) then some 17
 else (bif decide (has10 ≥ r5'.2) then some 14
 else some 0))) := by kernel_rfl
noncomputable def S31 (n : Nat × Nat) (coins0 : List Int) (sum1 : Int) (payment2 : List Int) : Option R31 := run (E31 n) c31 an31 rt31 (fun _ _ => none) rt31 { tm := [.c (.sl (.int .i64) coins0 false), .c (.int .i64 sum1), .c (.sl (.int .i64) payment2 false), uu, uu, uu, uu, uu, uu, uu, uu, uu, uu, uu, uu, uu, uu, uu, uu, uu, uu, uu, uu, uu, uu, uu, uu, uu, uu, uu, uu, uu, uu, uu, uu, uu, uu, uu, uu, uu, uu, uu, uu, uu, uu, uu, uu, uu, uu, uu, uu, uu, uu, uu, uu, uu, uu, uu, uu, uu], hp := emp }
theorem S31_eq (n : Nat × Nat) (coins0 : List Int) (sum1 : Int) (payment2 : List Int) : S31 n coins0 sum1 payment2 =
 (S56 n coins0 sum1).bind fun r1' =>
 (bif (r1' != 0) then some r1'
 else (S68 n coins0 payment2).bind fun r2' =>
 (bif (r2' != 0) then some r2'
 else L31_1 n n.1 coins0 sum1 0 0 payment2 (payment2.length : Int) 0)) := by kernel_rfl
theorem S31_run (n : Nat × Nat) (xs : pksDen pk31) : S31 n xs.1 xs.2.1 xs.2.2.1 = runG (E31 n) noScope c31 an31 (rtG rk31) (fun _ _ => none) (rtG rk31) (st0 pk31 xs Try.f31.ntmps) := by kernel_rfl
noncomputable def P31 (n : Nat × Nat) := phiOf pk31 rk31 (fun xs => S31 n xs.1 xs.2.1 xs.2.2.1)
theorem call31 : CallOK Try.prog 31 := callOK_of Try.func31 (by kernel_rfl) (by kernel_rfl)
theorem env31 (n : Nat × Nat) : EnvOK Try.prog (E31 n) := envOK0 (consPhi_ok (FC56 n) call56 (consPhi_ok (FC63 n) call63 (consPhi_ok (FC68 n) call68 noPhi_ok))) rfl rfl
theorem par31 (n : Nat × Nat) : EnvPar (E31 n) := envPar0 (consPhi_par phiOf_Par1 (consPhi_par phiOf_Par1 (consPhi_par phiOf_Par1 noPhi_par))) rfl
theorem FC31 (n : Nat × Nat) : FCs Try.prog 31 (P31 n) := phiOf_FCs fun xs r h vs hv => FC.of_runG tabOK eqsOK (env31 n) (par31 n) mixed (fun _ => noScope_ok) Try.func31 (c := c31) (an := an31) (pks := pk31) (rks := rk31) (by kernel_rfl) (by kernel_rfl) hv ((S31_run n xs).symm.trans h)
abbrev R17 := Bool
noncomputable def c17 : Code := bodyOf Try.f17
noncomputable def an17 : Ann := (.s .l (.s .l (.s .l (.s .l (.s .l (.s .l (.s .l (.s .l (.s (.s .l (.j [1, 3, 5, 7, 9, 11, 13, 124, 125, 128, 129, 132, 133, 136, 137, 140, 141, 144, 145, 148, 149, 152, 153, 154, 155, 158, 159, 160, 161, 164, 165, 168, 171, 172, 175, 176, 179, 180, 183, 184, 187, 188, 191, 192, 193, 194, 197, 200, 201, 202, 203, 204, 207, 208, 209, 210, 211] .l .l)) .l)))))))))
def pk17 : List PK := []
def rk17 : List RK := [.c .bool 0]
noncomputable def rt17 (st : St) : Option R17 := rtG rk17 st
noncomputable def E17 (n : Nat × Nat) : Env := { T := tab, phi := (consPhi 18 (fun _ => true) (P18 n) (consPhi 20 (fun _ => true) (P20 n) (consPhi 22 (fun _ => true) (P22 n) (consPhi 24 (fun _ => true) (P24 n) (consPhi 27 (fun _ => true) (P27 n) (consPhi 29 (fun _ => true) (P29 n) (consPhi 31 (fun _ => true) (P31 n) (consPhi 33 (fun _ => true) (P33 n) (consPhi 35 (fun _ => true) (P35 n) (consPhi 37 (fun _ => true) (P37 n) (consPhi 39 (fun _ => true) (P39 n) (consPhi 41 (fun _ => true) (P41 n) (consPhi 53 (fun _ => true) (P53 n) (consPhi 54 (fun _ => true) (P54 n) (consPhi 55 (fun _ => true) (P55 n) noPhi))))))))))))))), eff := fun _ => false, fuel := n.1, hold := n.2 }
noncomputable def S17 (n : Nat × Nat) : Option R17 := run (E17 n) c17 an17 rt17 (fun _ _ => none) rt17 { tm := [uu, uu, uu, uu, uu, uu, uu, uu, uu, uu, uu, uu, uu, uu, uu, uu, uu, uu, uu, uu, uu, uu, uu, uu, uu, uu, uu, uu, uu, uu, uu, uu, uu, uu, uu, uu, uu, uu, uu, uu, uu, uu, uu, uu, uu, uu, uu, uu, uu, uu, uu, uu, uu, uu, uu, uu, uu, uu, uu, uu, uu, uu, uu, uu, uu, uu, uu, uu, uu, uu, uu, uu, uu, uu, uu, uu, uu, uu, uu, uu, uu, uu, uu, uu, uu, uu, uu, uu, uu, uu, uu, uu, uu, uu, uu, uu, uu, uu, uu, uu, uu, uu, uu, uu, uu, uu, uu, uu, uu, uu, uu, uu, uu, uu, uu, uu, uu, uu, uu, uu, uu, uu, uu, uu, uu, uu, uu, uu, uu, uu, uu, uu, uu, uu, uu, uu, uu, uu, uu, uu, uu, uu, uu, uu, uu, uu, uu, uu, uu, uu, uu, uu, uu, uu, uu, uu, uu, uu, uu, uu, uu, uu, uu, uu, uu, uu, uu, uu, uu, uu, uu, uu, uu, uu, uu, uu, uu, uu, uu, uu, uu, uu, uu, uu, uu, uu, uu, uu, uu, uu, uu, uu, uu, uu, uu, uu, uu, uu, uu, uu, uu, uu, uu, uu, uu, uu, uu, uu, uu, uu, uu, uu, uu], hp := emp }
theorem S17_eq (n : Nat × Nat) : S17 n =
 (S54 n).bind fun r1' =>
 (S18 n r1' 6).bind fun r2' =>
 (S54 n).bind fun r3' =>
 (S20 n r3' 6).bind fun r4' =>
 (S54 n).bind fun r5' =>
 (S22 n r5' 6).bind fun r6' =>
 (S54 n).bind fun r7' =>
 (S27 n r7').bind fun r8' =>
 (S53 n).bind fun r9' =>
 (S27 n r9').bind fun r10' =>
 (S54 n).bind fun r11' =>
 (S29 n r11').bind fun r12' =>
 (S54 n).bind fun r13' =>
 (S37 n r13' 6).bind fun r14' =>
 ((bif ((r2'.2 != 0) == false) then some (r4'.2 != 0)
 else some true)).bind fun b15' =>
 ((bif (b15' == false) then some (r6'.2 != 0)
 else some true)).bind fun b16' =>
 ((bif (b16' == false) then some (r8'.2 != 0)
 else some true)).bind fun b17' =>
 ((bif (b17' == false) then some (r10'.2 != 0)
 else some true)).bind fun b18' =>
 ((bif (b18' == false) then some (r12'.2 != 0)
 else some true)).bind fun b19' =>
 ((bif (b19' == false) then some (r14'.2 != 0)
 else some true)).bind fun b20' =>
 (bif b20' then some false
 else (S54 n).bind fun r21' =>
 (S35 n r21' 2).bind fun r22' =>
 (S53 n).bind fun r23' =>
 (S39 n r23' 9).bind fun r24' =>
 (S54 n).bind fun r25' =>
 (S41 n r25' [2, 1, 1] 6).bind fun r26' =>
 (S55 n).bind fun r27' =>
 (S33 n r27' 5).bind fun r28' =>
 (S54 n).bind fun r29' =>
 (S33 n r29' 5).bind fun r30' =>
 (S53 n).bind fun r31' =>
 (S29 n r31').bind fun r32' =>
 (S54 n).bind fun r33' =>
 (S41 n r33' [0, 0, 1] 6).bind fun r34' =>
 ((bif ((r22'.2 == 0) == true) then some (r24'.2.2 == 0)
 else some false)).bind fun b35' =>
 ((bif (b35' == true) then some (r26'.2 == 0)
 else some false)).bind fun b36' =>
 ((bif (b36' == true) then some (r28'.2 == 0)
 else some false)).bind fun b37' =>
 ((bif (b37' == true) then some (r30'.2 == 13)
 else some false)).bind fun b38' =>
 ((bif (b38' == true) then some (r32'.2 == 13)
 else some false)).bind fun b39' =>
 ((bif (b39' == true) then some (r34'.2 == 12)
 else some false)).bind fun b40' =>
 ((bif (b40' == true) then some (r2'.1 == 2)
 else some false)).bind fun b41' =>
 ((bif (b41' == true) then (S24 n r4'.1 [0, 2, 0]).bind fun r42' =>
 some r42'
 else some false)).bind fun b43' =>
 ((bif (b43' == true) then (S24 n r6'.1 [2, 0, 1]).bind fun r44' =>
 some r44'
 else some false)).bind fun b45' =>
 ((bif (b45' == true) then some (!r8'.1)
 else some false)).bind fun b46' =>
 ((bif (b46' == true) then some r10'.1
 else some false)).bind fun b47' =>
 ((bif (b47' == true) then some (r12'.1 == 6)
 else some false)).bind fun b48' =>
 ((bif (b48' == true) then some (r14'.1 == 4)
 else some false)).bind fun b49' =>
 ((bif (b49' == true) then some (r22'.1 == 8)
 else some false)).bind fun b50' =>
 ((bif (b50' == true) then some (r24'.1 == 1)
 else some false)).bind fun b51' =>
 ((bif (b51' == true) then some (r24'.2.1 == 1)
 else some false)).bind fun b52' =>
 ((bif (b52' == true) then (S24 n r26'.1 [2, 0, 1]).bind fun r53' =>
 some r53'
 else some false)).bind fun b54' =>
 ((bif (b54' == true) then some r28'.1
 else some false)).bind fun b55' =>
 ((bif (b55' == true) then (S54 n).bind fun r56' =>
 (S31 n r56' 6 [0, 2, 0]).bind fun r57' =>
 some (r57' == 0)
 else some false)).bind fun b58' =>
 ((bif (b58' == true) then (S54 n).bind fun r59' =>
 (S31 n r59' 6 [2, 0, 1]).bind fun r60' =>
 some (r60' == 14)
 else some false)).bind fun b61' =>
 some b61') := by kernel_rfl
theorem S17_run (n : Nat × Nat) (xs : pksDen pk17) : S17 n = runG (E17 n) noScope c17 an17 (rtG rk17) (fun _ _ => none) (rtG rk17) (st0 pk17 xs Try.f17.ntmps) := by kernel_rfl
noncomputable def P17 (n : Nat × Nat) := phiOf pk17 rk17 (fun xs => S17 n)
theorem call17 : CallOK Try.prog 17 := callOK_of Try.func17 (by kernel_rfl) (by kernel_rfl)
theorem env17 (n : Nat × Nat) : EnvOK Try.prog (E17 n) := envOK0 (consPhi_ok (FC18 n) call18 (consPhi_ok (FC20 n) call20 (consPhi_ok (FC22 n) call22 (consPhi_ok (FC24 n) call24 (consPhi_ok (FC27 n) call27 (consPhi_ok (FC29 n) call29 (consPhi_ok (FC31 n) call31 (consPhi_ok (FC33 n) call33 (consPhi_ok (FC35 n) call35 (consPhi_ok (FC37 n) call37 (consPhi_ok (FC39 n) call39 (consPhi_ok (FC41 n) call41 (consPhi_ok (FC53 n) call53 (consPhi_ok (FC54 n) call54 (consPhi_ok (FC55 n) call55 noPhi_ok))))))))))))))) rfl rfl
theorem par17 (n : Nat × Nat) : EnvPar (E17 n) := envPar0 (consPhi_par phiOf_Par1 (consPhi_par phiOf_Par1 (consPhi_par phiOf_Par1 (consPhi_par phiOf_Par1 (consPhi_par phiOf_Par1 (consPhi_par phiOf_Par1 (consPhi_par phiOf_Par1 (consPhi_par phiOf_Par1 (consPhi_par phiOf_Par1 (consPhi_par phiOf_Par1 (consPhi_par phiOf_Par1 (consPhi_par phiOf_Par1 (consPhi_par phiOf_Par1 (consPhi_par phiOf_Par1 (consPhi_par phiOf_Par1 noPhi_par))))))))))))))) rfl
theorem FC17 (n : Nat × Nat) : FCs Try.prog 17 (P17 n) := phiOf_FCs fun xs r h vs hv => FC.of_runG tabOK eqsOK (env17 n) (par17 n) mixed (fun _ => noScope_ok) Try.func17 (c := c17) (an := an17) (pks := pk17) (rks := rk17) (by kernel_rfl) (by kernel_rfl) hv ((S17_run n xs).symm.trans h)
/-D 54 -/
noncomputable def D54 (n : Nat × Nat) : Option R54 :=
 some [1, 3, 4]
theorem S54_D (n : Nat × Nat) (hn : n.2 = 1) : S54 n = D54 n := by
  refine (S54_eq n).trans ?_
  unfold D54
  first | with_reducible rfl | rfl
/-D 25 -/
noncomputable def DF25_1 (n : Nat × Nat) (f1 : List Int → List Int → Int → Int → Option R25) (coins0 : List Int) (v13 : List Int) (v14 : Int) (v15 : Int) : Option R25 :=
 (bif decide (v15 < v14) then (idx v13 v15).bind fun x1' =>
 ((bif (decide (x1' < 1) == false) then some (decide (x1' > 40))
 else some true)).bind fun b2' =>
 (bif b2' then some 1
 else ((bif (decide (v15 > 0) == true) then (idx coins0 (wr .i64 (v15 - 1))).bind fun x3' =>
 some (decide (x1' ≤ x3'))
 else some false)).bind fun b4' =>
 (bif b4' then some 7
 else f1 coins0 v13 v14 (wr .i64 (v15 + 1))))
 else (idx coins0 0).bind fun x5' =>
 (bif decide (x5' > 1) then some 5
 else some 0))
noncomputable def DL25_1 (n : Nat × Nat) (m : Nat) : List Int → List Int → Int → Int → Option R25 := Nat.rec (motive := fun _ => List Int → List Int → Int → Int → Option R25) (fun _ _ _ _ => none) (fun _ ih => DF25_1 n ih) m
theorem DL25_1_succ (n : Nat × Nat) (m : Nat) : DL25_1 n (m + 1) = DF25_1 n (DL25_1 n m) := rfl
theorem DL25_1_eq (n : Nat × Nat) (hn : n.2 = 1) : ∀ m, L25_1 n m = DL25_1 n m
  | 0 => by funext coins0 v13 v14 v15; kernel_rfl
  | m + 1 => by
    have ih := DL25_1_eq n hn m
    funext coins0 v13 v14 v15; refine (L25_1_eq n m coins0 v13 v14 v15).trans ?_
    rw [DL25_1_succ]
    unfold DF25_1
    (try simp only [ih]) <;> first | with_reducible rfl | rfl
noncomputable def D25 (n : Nat × Nat) (coins0 : List Int) : Option R25 :=
 (bif ((coins0.length : Int) == 0) then some 4
 else (bif decide ((coins0.length : Int) > 6) then some 3
 else DL25_1 n n.1 coins0 coins0 (coins0.length : Int) 0))
theorem S25_D (n : Nat × Nat) (hn : n.2 = 1) : S25 n = D25 n := by
  funext coins0; refine (S25_eq n coins0).trans ?_
  unfold D25
  (try simp only [DL25_1_eq n hn]) <;> first | with_reducible rfl | rfl
/-D 56 -/
noncomputable def D56 (n : Nat × Nat) (coins0 : List Int) (sum1 : Int) : Option R56 :=
 (D25 n coins0).bind fun r1' =>
 ((bif ((r1' == 0) == true) then ((bif (decide (sum1 < 0) == false) then some (decide (sum1 > 200))
 else some true)).bind fun b2' =>
 some b2'
 else some false)).bind fun b3' =>
 (bif b3' then some 1
 else some r1')
theorem S56_D (n : Nat × Nat) (hn : n.2 = 1) : S56 n = D56 n := by
  funext coins0 sum1; refine (S56_eq n coins0 sum1).trans ?_
  unfold D56
  (try simp only [S25_D n hn]) <;> first | with_reducible rfl | rfl
/-D 57 -/
noncomputable def DL57_3 (n : Nat × Nat) (f1 : List Int → Int → Int → List Int → Option R57) (f2 : List Int → Int → Int → Int → List Int → Int → Int → List Int → Option R57) (coins0 : List Int) (most1 : Int) (sum6 : Int) (v7 : Int) (v17 : List Int) (v18 : Int) (v19 : Int) (out5 : List Int) : Option R57 :=
    f2 coins0 most1 sum6 v7 v17 v18 (wr .i64 (v19 + 1)) out5
theorem DL57_3_eq (n : Nat × Nat) (hn : n.2 = 1) (m1 m2 : Nat) : L57_3 n m1 m2 = DL57_3 n (L57_1 n m1) (L57_2 n m1 m2) := by
  funext coins0 most1 sum6 v7 v17 v18 v19 out5; refine ((held_eq hn _).trans (L57_3_raw n m1 m2 coins0 most1 sum6 v7 v17 v18 v19 out5)).trans ?_
  unfold DL57_3
  first | with_reducible rfl | rfl
noncomputable def DF57_2 (n : Nat × Nat) (f1 : List Int → Int → Int → List Int → Option R57) (f2 : List Int → Int → Int → Int → List Int → Int → Int → List Int → Option R57) (coins0 : List Int) (most1 : Int) (sum6 : Int) (v7 : Int) (v17 : List Int) (v18 : Int) (v19 : Int) (out5 : List Int) : Option R57 :=
 (bif decide (v19 < v18) then (idx v17 v19).bind fun x1' =>
 (bif decide (x1' ≤ sum6) then (bif inB (wr .i64 (sum6 - x1')) out5.length then (idx out5 (wr .i64 (sum6 - x1'))).bind fun x2' =>
          DL57_3 n f1 f2 coins0 most1 sum6 (if (wr .i64 (1 + x2')) < v7 then (wr .i64 (1 + x2')) else v7) v17 v18 v19 out5
 else none)
 else DL57_3 n f1 f2 coins0 most1 sum6 v7 v17 v18 v19 out5)
 else (bif decide (out5.length + [v7].length ≤ lim) then f1 coins0 most1 (wr .i64 (sum6 + 1)) (out5 ++ [v7])
 else none))
noncomputable def DL57_2 (n : Nat × Nat) (f1 : List Int → Int → Int → List Int → Option R57) (m : Nat) : List Int → Int → Int → Int → List Int → Int → Int → List Int → Option R57 := Nat.rec (motive := fun _ => List Int → Int → Int → Int → List Int → Int → Int → List Int → Option R57) (fun _ _ _ _ _ _ _ _ => none) (fun _ ih => DF57_2 n f1 ih) m
theorem DL57_2_succ (n : Nat × Nat) (f1 : List Int → Int → Int → List Int → Option R57) (m : Nat) : DL57_2 n f1 (m + 1) = DF57_2 n f1 (DL57_2 n f1 m) := rfl
theorem DL57_2_eq (n : Nat × Nat) (hn : n.2 = 1) (m1 : Nat) : ∀ m, L57_2 n m1 m = DL57_2 n (L57_1 n m1) m
  | 0 => by funext coins0 most1 sum6 v7 v17 v18 v19 out5; kernel_rfl
  | m + 1 => by
    have ih := DL57_2_eq n hn m1 m
    funext coins0 most1 sum6 v7 v17 v18 v19 out5; refine (L57_2_eq n m1 m coins0 most1 sum6 v7 v17 v18 v19 out5).trans ?_
    rw [DL57_2_succ]
    unfold DF57_2
    (try simp only [ih, DL57_3_eq n hn]) <;> first | with_reducible rfl | rfl
noncomputable def DF57_1 (n : Nat × Nat) (f1 : List Int → Int → Int → List Int → Option R57) (coins0 : List Int) (most1 : Int) (sum6 : Int) (out5 : List Int) : Option R57 :=
 (bif decide (sum6 ≤ most1) then DL57_2 n f1 n.1 coins0 most1 sum6 sum6 coins0 (coins0.length : Int) 0 out5
 else some out5)
noncomputable def DL57_1 (n : Nat × Nat) (m : Nat) : List Int → Int → Int → List Int → Option R57 := Nat.rec (motive := fun _ => List Int → Int → Int → List Int → Option R57) (fun _ _ _ _ => none) (fun _ ih => DF57_1 n ih) m
theorem DL57_1_succ (n : Nat × Nat) (m : Nat) : DL57_1 n (m + 1) = DF57_1 n (DL57_1 n m) := rfl
theorem DL57_1_eq (n : Nat × Nat) (hn : n.2 = 1) : ∀ m, L57_1 n m = DL57_1 n m
  | 0 => by funext coins0 most1 sum6 out5; kernel_rfl
  | m + 1 => by
    have ih := DL57_1_eq n hn m
    funext coins0 most1 sum6 out5; refine (L57_1_eq n m coins0 most1 sum6 out5).trans ?_
    rw [DL57_1_succ]
    unfold DF57_1
    (try simp only [ih, DL57_3_eq n hn, DL57_2_eq n hn]) <;> first | with_reducible rfl | rfl
noncomputable def D57 (n : Nat × Nat) (coins0 : List Int) (most1 : Int) : Option R57 :=
    DL57_1 n n.1 coins0 most1 1 [0]
theorem S57_D (n : Nat × Nat) (hn : n.2 = 1) : S57 n = D57 n := by
  funext coins0 most1; refine (S57_eq n coins0 most1).trans ?_
  unfold D57
  (try simp only [DL57_3_eq n hn, DL57_2_eq n hn, DL57_1_eq n hn]) <;> first | with_reducible rfl | rfl
/-D 18 -/
noncomputable def D18 (n : Nat × Nat) (coins0 : List Int) (sum1 : Int) : Option R18 :=
 (D56 n coins0 sum1).bind fun r1' =>
 (bif (r1' != 0) then some (0, r1')
 else (D57 n coins0 sum1).bind fun r2' =>
 (bif inB sum1 r2'.length then (idx r2' sum1).bind fun x3' =>
 some (x3', 0)
 else none))
theorem S18_D (n : Nat × Nat) (hn : n.2 = 1) : S18 n = D18 n := by
  funext coins0 sum1; refine (S18_eq n coins0 sum1).trans ?_
  unfold D18
  (try simp only [S56_D n hn, S57_D n hn]) <;> first | with_reducible rfl | rfl
/-D 60 -/
noncomputable def DF60_1 (n : Nat × Nat) (SS : List Int → Int → Int → Option R60) (f1 : List Int → Int → Int → Int → Int → Option R60) (coins0 : List Int) (sum1 : Int) (many2 : Int) (v7 : Int) (v8 : Int) : Option R60 :=
 ((bif (decide (v8 ≤ many2) == true) then (idx coins0 v7).bind fun x2' =>
 some (decide (wr .i64 (v8 * x2') ≤ sum1))
 else some false)).bind fun b3' =>
 (bif b3' then (bif bounds none (some v7) none coins0.length then (idx coins0 v7).bind fun x4' =>
 (SS (coins0.take (Int.toNat v7)) (wr .i64 (sum1 - (wr .i64 (v8 * x4')))) (wr .i64 (many2 - v8))).bind fun r5' =>
 (bif r5' then some true
 else f1 coins0 sum1 many2 v7 (wr .i64 (v8 + 1)))
 else none)
 else some false)
noncomputable def DL60_1 (n : Nat × Nat) (SS : List Int → Int → Int → Option R60) (m : Nat) : List Int → Int → Int → Int → Int → Option R60 := Nat.rec (motive := fun _ => List Int → Int → Int → Int → Int → Option R60) (fun _ _ _ _ _ => none) (fun _ ih => DF60_1 n SS ih) m
theorem DL60_1_succ (n : Nat × Nat) (SS : List Int → Int → Int → Option R60) (m : Nat) : DL60_1 n SS (m + 1) = DF60_1 n SS (DL60_1 n SS m) := rfl
theorem DL60_1_eq (n : Nat × Nat) (hn : n.2 = 1) (SS : List Int → Int → Int → Option R60) : ∀ m, L60_1 n SS m = DL60_1 n SS m
  | 0 => by funext coins0 sum1 many2 v7 v8; kernel_rfl
  | m + 1 => by
    have ih := DL60_1_eq n hn SS m
    funext coins0 sum1 many2 v7 v8; refine (L60_1_eq n SS m coins0 sum1 many2 v7 v8).trans ?_
    rw [DL60_1_succ]
    unfold DF60_1
    (try simp only [ih]) <;> first | with_reducible rfl | rfl
noncomputable def DB60 (n : Nat × Nat) (SS : List Int → Int → Int → Option R60) (coins0 : List Int) (sum1 : Int) (many2 : Int) : Option R60 :=
 (bif ((coins0.length : Int) == 0) then ((bif ((sum1 == 0) == true) then some (many2 == 0)
 else some false)).bind fun b1' =>
 some b1'
 else DL60_1 n SS n.1 coins0 sum1 many2 (wr .i64 ((coins0.length : Int) - 1)) 0)
theorem DB60_eq (n : Nat × Nat) (hn : n.2 = 1) (SS : List Int → Int → Int → Option R60) : B60 n SS = DB60 n SS := by
  funext coins0 sum1 many2; refine (B60_eq n SS coins0 sum1 many2).trans ?_
  unfold DB60
  (try simp only [DL60_1_eq n hn SS]) <;> first | with_reducible rfl | rfl
noncomputable def DT60 (n : Nat × Nat) (d : Nat) : List Int → Int → Int → Option R60 := Nat.rec (motive := fun _ => List Int → Int → Int → Option R60) (fun _ _ _ => none) (fun _ ih => DB60 n ih) d
theorem DT60_succ (n : Nat × Nat) (d : Nat) : DT60 n (d + 1) = DB60 n (DT60 n d) := rfl
theorem DT60_eq (n : Nat × Nat) (hn : n.2 = 1) : ∀ d, T60 n d = DT60 n d
  | 0 => rfl
  | d + 1 => by
    funext coins0 sum1 many2
    rw [T60_eq, DT60_eq n hn d, DB60_eq n hn, DT60_succ]
noncomputable def D60 (n : Nat × Nat) (coins0 : List Int) (sum1 : Int) (many2 : Int) : Option R60 := DT60 n n.1 coins0 sum1 many2
theorem S60_D (n : Nat × Nat) (hn : n.2 = 1) : S60 n = D60 n := by
  funext coins0 sum1 many2; unfold S60 D60; rw [DT60_eq n hn]
/-D 20 -/
noncomputable def DF20_2 (n : Nat × Nat) (f1 : List Int → Int → Int → List Int → Int → Int → List Int → Option R20) (f2 : List Int → Int → Int → Int → List Int → Int → List Int → Int → Int → List Int → Option R20) (coins0 : List Int) (sum1 : Int) (left7 : Int) (c10 : Int) (v11 : List Int) (v12 : Int) (v25 : List Int) (v26 : Int) (v27 : Int) (out8 : List Int) : Option R20 :=
 ((bif (decide (v12 < left7) == true) then (D60 n v11 (wr .i64 (sum1 - (wr .i64 (v12 * c10)))) (wr .i64 (left7 - v12))).bind fun r5' =>
 some (!r5')
 else some false)).bind fun b6' =>
 (bif b6' then f2 coins0 sum1 left7 c10 v11 (wr .i64 (v12 + 1)) v25 v26 v27 out8
 else (bif decide (out8.length + [v12].length ≤ lim) then f1 coins0 (wr .i64 (sum1 - (wr .i64 (v12 * c10)))) (wr .i64 (left7 - v12)) v25 v26 (wr .i64 (v27 + 1)) (out8 ++ [v12])
 else none))
noncomputable def DL20_2 (n : Nat × Nat) (f1 : List Int → Int → Int → List Int → Int → Int → List Int → Option R20) (m : Nat) : List Int → Int → Int → Int → List Int → Int → List Int → Int → Int → List Int → Option R20 := Nat.rec (motive := fun _ => List Int → Int → Int → Int → List Int → Int → List Int → Int → Int → List Int → Option R20) (fun _ _ _ _ _ _ _ _ _ _ => none) (fun _ ih => DF20_2 n f1 ih) m
theorem DL20_2_succ (n : Nat × Nat) (f1 : List Int → Int → Int → List Int → Int → Int → List Int → Option R20) (m : Nat) : DL20_2 n f1 (m + 1) = DF20_2 n f1 (DL20_2 n f1 m) := rfl
theorem DL20_2_eq (n : Nat × Nat) (hn : n.2 = 1) (m1 : Nat) : ∀ m, L20_2 n m1 m = DL20_2 n (L20_1 n m1) m
  | 0 => by funext coins0 sum1 left7 c10 v11 v12 v25 v26 v27 out8; kernel_rfl
  | m + 1 => by
    have ih := DL20_2_eq n hn m1 m
    funext coins0 sum1 left7 c10 v11 v12 v25 v26 v27 out8; refine (L20_2_eq n m1 m coins0 sum1 left7 c10 v11 v12 v25 v26 v27 out8).trans ?_
    rw [DL20_2_succ]
    unfold DF20_2
    (try simp only [ih, S56_D n hn, S57_D n hn, S60_D n hn]) <;> first | with_reducible rfl | rfl
noncomputable def DF20_1 (n : Nat × Nat) (f1 : List Int → Int → Int → List Int → Int → Int → List Int → Option R20) (coins0 : List Int) (sum1 : Int) (left7 : Int) (v25 : List Int) (v26 : Int) (v27 : Int) (out8 : List Int) : Option R20 :=
 (bif decide (v27 < v26) then (idx v25 v27).bind fun x4' =>
 (bif bounds (some (wr .i64 (v27 + 1))) none none coins0.length then DL20_2 n f1 n.1 coins0 sum1 left7 x4' (coins0.drop (Int.toNat (wr .i64 (v27 + 1)))) 0 v25 v26 v27 out8
 else none)
 else some (out8, 0))
noncomputable def DL20_1 (n : Nat × Nat) (m : Nat) : List Int → Int → Int → List Int → Int → Int → List Int → Option R20 := Nat.rec (motive := fun _ => List Int → Int → Int → List Int → Int → Int → List Int → Option R20) (fun _ _ _ _ _ _ _ => none) (fun _ ih => DF20_1 n ih) m
theorem DL20_1_succ (n : Nat × Nat) (m : Nat) : DL20_1 n (m + 1) = DF20_1 n (DL20_1 n m) := rfl
theorem DL20_1_eq (n : Nat × Nat) (hn : n.2 = 1) : ∀ m, L20_1 n m = DL20_1 n m
  | 0 => by funext coins0 sum1 left7 v25 v26 v27 out8; kernel_rfl
  | m + 1 => by
    have ih := DL20_1_eq n hn m
    funext coins0 sum1 left7 v25 v26 v27 out8; refine (L20_1_eq n m coins0 sum1 left7 v25 v26 v27 out8).trans ?_
    rw [DL20_1_succ]
    unfold DF20_1
    (try simp only [ih, DL20_2_eq n hn, S56_D n hn, S57_D n hn, S60_D n hn]) <;> first | with_reducible rfl | rfl
noncomputable def D20 (n : Nat × Nat) (coins0 : List Int) (sum1 : Int) : Option R20 :=
 (D56 n coins0 sum1).bind fun r1' =>
 (bif (r1' != 0) then some ([], r1')
 else (D57 n coins0 sum1).bind fun r2' =>
 (bif inB sum1 r2'.length then (idx r2' sum1).bind fun x3' =>
        DL20_1 n n.1 coins0 sum1 x3' coins0 (coins0.length : Int) 0 []
 else none))
theorem S20_D (n : Nat × Nat) (hn : n.2 = 1) : S20 n = D20 n := by
  funext coins0 sum1; refine (S20_eq n coins0 sum1).trans ?_
  unfold D20
  (try simp only [DL20_2_eq n hn, DL20_1_eq n hn, S56_D n hn, S57_D n hn, S60_D n hn]) <;> first | with_reducible rfl | rfl
/-D 63 -/
noncomputable def D63 (n : Nat × Nat) (coins0 : List Int) (sum1 : Int) : Option R63 := HF63 coins0 sum1
theorem S63_D (n : Nat × Nat) (hn : n.2 = 1) : S63 n = D63 n := by unfold S63 D63; rfl
/-D 22 -/
noncomputable def D22 (n : Nat × Nat) (coins0 : List Int) (sum1 : Int) : Option R22 :=
 (D56 n coins0 sum1).bind fun r1' =>
 (bif (r1' != 0) then some ([], r1')
 else (D63 n coins0 sum1).bind fun r2' =>
 some (r2'.1, 0))
theorem S22_D (n : Nat × Nat) (hn : n.2 = 1) : S22 n = D22 n := by
  funext coins0 sum1; refine (S22_eq n coins0 sum1).trans ?_
  unfold D22
  (try simp only [S56_D n hn, S63_D n hn]) <;> first | with_reducible rfl | rfl
/-D 66 -/
noncomputable def DF66_1 (n : Nat × Nat) (f1 : List Int → Int → Int → List Int → Option R66) (coins0 : List Int) (v18 : Int) (v19 : Int) (v17 : List Int) : Option R66 :=
 (bif decide (v19 < v18) then (bif inB v19 v17.length then (idx v17 v19).bind fun x3' =>
 (D63 n coins0 v19).bind fun r4' =>
 (bif decide (r4'.2 > x3') then some v19
 else f1 coins0 v18 (wr .i64 (v19 + 1)) v17)
 else none)
 else some 0)
noncomputable def DL66_1 (n : Nat × Nat) (m : Nat) : List Int → Int → Int → List Int → Option R66 := Nat.rec (motive := fun _ => List Int → Int → Int → List Int → Option R66) (fun _ _ _ _ => none) (fun _ ih => DF66_1 n ih) m
theorem DL66_1_succ (n : Nat × Nat) (m : Nat) : DL66_1 n (m + 1) = DF66_1 n (DL66_1 n m) := rfl
theorem DL66_1_eq (n : Nat × Nat) (hn : n.2 = 1) : ∀ m, L66_1 n m = DL66_1 n m
  | 0 => by funext coins0 v18 v19 v17; kernel_rfl
  | m + 1 => by
    have ih := DL66_1_eq n hn m
    funext coins0 v18 v19 v17; refine (L66_1_eq n m coins0 v18 v19 v17).trans ?_
    rw [DL66_1_succ]
    unfold DF66_1
    (try simp only [ih, S57_D n hn, S63_D n hn]) <;> first | with_reducible rfl | rfl
noncomputable def D66 (n : Nat × Nat) (coins0 : List Int) : Option R66 :=
 (idx coins0 (wr .i64 ((coins0.length : Int) - 1))).bind fun x1' =>
 (D57 n coins0 (wr .i64 (2 * x1'))).bind fun r2' =>
    DL66_1 n n.1 coins0 (r2'.length : Int) 0 r2'
theorem S66_D (n : Nat × Nat) (hn : n.2 = 1) : S66 n = D66 n := by
  funext coins0; refine (S66_eq n coins0).trans ?_
  unfold D66
  (try simp only [DL66_1_eq n hn, S57_D n hn, S63_D n hn]) <;> first | with_reducible rfl | rfl
/-D 27 -/
noncomputable def D27 (n : Nat × Nat) (coins0 : List Int) : Option R27 :=
 (D25 n coins0).bind fun r1' =>
 (bif (r1' != 0) then some (false, r1')
 else (D66 n coins0).bind fun r2' =>
 some ((r2' == 0), 0))
theorem S27_D (n : Nat × Nat) (hn : n.2 = 1) : S27 n = D27 n := by
  funext coins0; refine (S27_eq n coins0).trans ?_
  unfold D27
  (try simp only [S25_D n hn, S66_D n hn]) <;> first | with_reducible rfl | rfl
/-D 53 -/
noncomputable def D53 (n : Nat × Nat) : Option R53 :=
 some [1, 5, 10]
theorem S53_D (n : Nat × Nat) (hn : n.2 = 1) : S53 n = D53 n := by
  refine (S53_eq n).trans ?_
  unfold D53
  first | with_reducible rfl | rfl
/-D 29 -/
noncomputable def D29 (n : Nat × Nat) (coins0 : List Int) : Option R29 :=
 (D25 n coins0).bind fun r1' =>
 (bif (r1' != 0) then some (0, r1')
 else (D66 n coins0).bind fun r2' =>
 (bif (r2' == 0) then some (0, 13)
 else some (r2', 0)))
theorem S29_D (n : Nat × Nat) (hn : n.2 = 1) : S29 n = D29 n := by
  funext coins0; refine (S29_eq n coins0).trans ?_
  unfold D29
  (try simp only [S25_D n hn, S66_D n hn]) <;> first | with_reducible rfl | rfl
/-D 37 -/
noncomputable def D37 (n : Nat × Nat) (coins0 : List Int) (sum1 : Int) : Option R37 := HF37 (D56 n) coins0 sum1
theorem S37_D (n : Nat × Nat) (hn : n.2 = 1) : S37 n = D37 n := by unfold S37 D37; rw [S56_D n hn]
/-D 35 -/
noncomputable def D35 (n : Nat × Nat) (coins0 : List Int) (many1 : Int) : Option R35 := HF35 (D25 n) coins0 many1
theorem S35_D (n : Nat × Nat) (hn : n.2 = 1) : S35 n = D35 n := by unfold S35 D35; rw [S25_D n hn]
/-D 39 -/
noncomputable def DL39_2 (n : Nat × Nat) (f1 : Int → Int → Int → Nat → Nat → Int → Int → List Int → Option R39) (sum1 : Int) (pay4 : Int) (back5 : Int) (v38o : Nat) (v38w : Nat) (v39 : Int) (v40 : Int) (l9 : List Int) : Option R39 :=
    f1 sum1 pay4 back5 v38o v38w v39 (wr .i64 (v40 + 1)) l9
theorem DL39_2_eq (n : Nat × Nat) (hn : n.2 = 1) (m1 : Nat) : L39_2 n m1 = DL39_2 n (L39_1 n m1) := by
  funext sum1 pay4 back5 v38o v38w v39 v40 l9; refine ((held_eq hn _).trans (L39_2_raw n m1 sum1 pay4 back5 v38o v38w v39 v40 l9)).trans ?_
  unfold DL39_2
  (try simp only [S56_D n hn, S57_D n hn]) <;> first | with_reducible rfl | rfl
noncomputable def DF39_1 (n : Nat × Nat) (f1 : Int → Int → Int → Nat → Nat → Int → Int → List Int → Option R39) (sum1 : Int) (pay4 : Int) (back5 : Int) (v38o : Nat) (v38w : Nat) (v39 : Int) (v40 : Int) (l9 : List Int) : Option R39 :=
 (bif decide (v40 < v39) then (bif inB v40 ((l9.drop v38o).take v38w).length then (idx ((l9.drop v38o).take v38w) v40).bind fun x5' =>
 (bif inB (wr .i64 (sum1 + v40)) l9.length then (idx l9 (wr .i64 (sum1 + v40))).bind fun x6' =>
 ((bif (decide (wr .i64 ((wr .i64 ((wr .i64 (x6' + x5')) - pay4)) - back5) < 0) == false) then ((bif (((wr .i64 ((wr .i64 ((wr .i64 (x6' + x5')) - pay4)) - back5)) == 0) == true) then some (decide (x5' < back5))
 else some false)).bind fun b7' =>
 some b7'
 else some true)).bind fun b8' =>
 (bif b8' then DL39_2 n f1 sum1 x6' x5' v38o v38w v39 v40 l9
 else DL39_2 n f1 sum1 pay4 back5 v38o v38w v39 v40 l9)
 else none)
 else none)
 else some (pay4, back5, 0))
noncomputable def DL39_1 (n : Nat × Nat) (m : Nat) : Int → Int → Int → Nat → Nat → Int → Int → List Int → Option R39 := Nat.rec (motive := fun _ => Int → Int → Int → Nat → Nat → Int → Int → List Int → Option R39) (fun _ _ _ _ _ _ _ _ => none) (fun _ ih => DF39_1 n ih) m
theorem DL39_1_succ (n : Nat × Nat) (m : Nat) : DL39_1 n (m + 1) = DF39_1 n (DL39_1 n m) := rfl
theorem DL39_1_eq (n : Nat × Nat) (hn : n.2 = 1) : ∀ m, L39_1 n m = DL39_1 n m
  | 0 => by funext sum1 pay4 back5 v38o v38w v39 v40 l9; kernel_rfl
  | m + 1 => by
    have ih := DL39_1_eq n hn m
    funext sum1 pay4 back5 v38o v38w v39 v40 l9; refine (L39_1_eq n m sum1 pay4 back5 v38o v38w v39 v40 l9).trans ?_
    rw [DL39_1_succ]
    unfold DF39_1
    (try simp only [ih, DL39_2_eq n hn, S56_D n hn, S57_D n hn]) <;> first | with_reducible rfl | rfl
noncomputable def D39 (n : Nat × Nat) (coins0 : List Int) (sum1 : Int) : Option R39 :=
 (D56 n coins0 sum1).bind fun r1' =>
 (bif (r1' != 0) then some (0, 0, r1')
 else (idx coins0 (wr .i64 ((coins0.length : Int) - 1))).bind fun x2' =>
 (D57 n coins0 (wr .i64 (sum1 + x2'))).bind fun r3' =>
 (bif inB sum1 r3'.length then (idx r3' sum1).bind fun x4' =>
 (bif bounds none (some (wr .i64 (x2' + 1))) none r3'.length then DL39_1 n n.1 sum1 x4' 0 (0 + 0) ((Int.toNat (wr .i64 (x2' + 1))) - 0) (((r3'.drop (0 + 0)).take ((Int.toNat (wr .i64 (x2' + 1))) - 0)).length : Int) 0 r3'
 else none)
 else none))
theorem S39_D (n : Nat × Nat) (hn : n.2 = 1) : S39 n = D39 n := by
  funext coins0 sum1; refine (S39_eq n coins0 sum1).trans ?_
  unfold D39
  (try simp only [DL39_2_eq n hn, DL39_1_eq n hn, S56_D n hn, S57_D n hn]) <;> first | with_reducible rfl | rfl
/-D 75 -/
noncomputable def DF75_1 (n : Nat × Nat) (f1 : List Int → Int → Int → Option R75) (x0 : List Int) (m3 : Int) (i4 : Int) : Option R75 :=
 (bif decide (i4 < (x0.length : Int)) then (idx x0 i4).bind fun x2' =>
      f1 x0 (if x2' < m3 then x2' else m3) (wr .i64 (i4 + 1))
 else some m3)
noncomputable def DL75_1 (n : Nat × Nat) (m : Nat) : List Int → Int → Int → Option R75 := Nat.rec (motive := fun _ => List Int → Int → Int → Option R75) (fun _ _ _ => none) (fun _ ih => DF75_1 n ih) m
theorem DL75_1_succ (n : Nat × Nat) (m : Nat) : DL75_1 n (m + 1) = DF75_1 n (DL75_1 n m) := rfl
theorem DL75_1_eq (n : Nat × Nat) (hn : n.2 = 1) : ∀ m, L75_1 n m = DL75_1 n m
  | 0 => by funext x0 m3 i4; kernel_rfl
  | m + 1 => by
    have ih := DL75_1_eq n hn m
    funext x0 m3 i4; refine (L75_1_eq n m x0 m3 i4).trans ?_
    rw [DL75_1_succ]
    unfold DF75_1
    (try simp only [ih]) <;> first | with_reducible rfl | rfl
noncomputable def D75 (n : Nat × Nat) (x0 : List Int) : Option R75 :=
 (bif decide ((x0.length : Int) < 1) then none
 else (idx x0 0).bind fun x1' =>
      DL75_1 n n.1 x0 x1' 1)
theorem S75_D (n : Nat × Nat) (hn : n.2 = 1) : S75 n = D75 n := by
  funext x0; refine (S75_eq n x0).trans ?_
  unfold D75
  (try simp only [DL75_1_eq n hn]) <;> first | with_reducible rfl | rfl
/-D 76 -/
noncomputable def DF76_1 (n : Nat × Nat) (f1 : List Int → Int → Int → Option R76) (x0 : List Int) (m3 : Int) (i4 : Int) : Option R76 :=
 (bif decide (i4 < (x0.length : Int)) then (idx x0 i4).bind fun x2' =>
      f1 x0 (if x2' > m3 then x2' else m3) (wr .i64 (i4 + 1))
 else some m3)
noncomputable def DL76_1 (n : Nat × Nat) (m : Nat) : List Int → Int → Int → Option R76 := Nat.rec (motive := fun _ => List Int → Int → Int → Option R76) (fun _ _ _ => none) (fun _ ih => DF76_1 n ih) m
theorem DL76_1_succ (n : Nat × Nat) (m : Nat) : DL76_1 n (m + 1) = DF76_1 n (DL76_1 n m) := rfl
theorem DL76_1_eq (n : Nat × Nat) (hn : n.2 = 1) : ∀ m, L76_1 n m = DL76_1 n m
  | 0 => by funext x0 m3 i4; kernel_rfl
  | m + 1 => by
    have ih := DL76_1_eq n hn m
    funext x0 m3 i4; refine (L76_1_eq n m x0 m3 i4).trans ?_
    rw [DL76_1_succ]
    unfold DF76_1
    (try simp only [ih]) <;> first | with_reducible rfl | rfl
noncomputable def D76 (n : Nat × Nat) (x0 : List Int) : Option R76 :=
 (bif decide ((x0.length : Int) < 1) then none
 else (idx x0 0).bind fun x1' =>
      DL76_1 n n.1 x0 x1' 1)
theorem S76_D (n : Nat × Nat) (hn : n.2 = 1) : S76 n = D76 n := by
  funext x0; refine (S76_eq n x0).trans ?_
  unfold D76
  (try simp only [DL76_1_eq n hn]) <;> first | with_reducible rfl | rfl
/-D 68 -/
noncomputable def D68 (n : Nat × Nat) (coins0 : List Int) (l1 : List Int) : Option R68 :=
 (bif ((l1.length : Int) != (coins0.length : Int)) then some 5
 else (D75 n l1).bind fun r1' =>
 ((bif (decide (r1' < 0) == false) then (D76 n l1).bind fun r2' =>
 some (decide (r2' > 200))
 else some true)).bind fun b3' =>
 (bif b3' then some 1
 else some 0))
theorem S68_D (n : Nat × Nat) (hn : n.2 = 1) : S68 n = D68 n := by
  funext coins0 l1; refine (S68_eq n coins0 l1).trans ?_
  unfold D68
  (try simp only [S75_D n hn, S76_D n hn]) <;> first | with_reducible rfl | rfl
/-D 79 -/
noncomputable def D79 (n : Nat × Nat) (x0 : Int) (y1 : Int) : Option R79 :=
 (bif decide (32 < 0) then none
 else some (wr .u32 (Int.fdiv (wr .u64 ((wr .u64 x0) * (wr .u64 y1))) (2 ^ (min (Int.toNat 32) (IntKind.bits .u64)))), wr .u32 (wr .u64 ((wr .u64 x0) * (wr .u64 y1)))))
theorem S79_D (n : Nat × Nat) (hn : n.2 = 1) : S79 n = D79 n := by
  funext x0 y1; refine (S79_eq n x0 y1).trans ?_
  unfold D79
  first | with_reducible rfl | rfl
/-D 80 -/
noncomputable def D80 (n : Nat × Nat) (x0 : Int) (y1 : Int) : Option R80 :=
 (bif decide (32 < 0) then none
 else (bif decide (32 < 0) then none
 else (bif decide (32 < 0) then none
 else (bif decide (32 < 0) then none
 else (bif decide (32 < 0) then none
 else some (wr .u64 ((wr .u64 ((wr .u64 ((Int.fdiv x0 (2 ^ (min (Int.toNat 32) (IntKind.bits .u64)))) * (Int.fdiv y1 (2 ^ (min (Int.toNat 32) (IntKind.bits .u64)))))) + (Int.fdiv (wr .u64 ((wr .u64 ((Int.fdiv x0 (2 ^ (min (Int.toNat 32) (IntKind.bits .u64)))) * (wr .u64 (BitVec.ofInt (IntKind.bits .u64) y1 &&& BitVec.ofInt (IntKind.bits .u64) 4294967295).toNat))) + (Int.fdiv (wr .u64 ((wr .u64 (BitVec.ofInt (IntKind.bits .u64) x0 &&& BitVec.ofInt (IntKind.bits .u64) 4294967295).toNat) * (wr .u64 (BitVec.ofInt (IntKind.bits .u64) y1 &&& BitVec.ofInt (IntKind.bits .u64) 4294967295).toNat))) (2 ^ (min (Int.toNat 32) (IntKind.bits .u64)))))) (2 ^ (min (Int.toNat 32) (IntKind.bits .u64)))))) + (Int.fdiv (wr .u64 ((wr .u64 (BitVec.ofInt (IntKind.bits .u64) (wr .u64 ((wr .u64 ((Int.fdiv x0 (2 ^ (min (Int.toNat 32) (IntKind.bits .u64)))) * (wr .u64 (BitVec.ofInt (IntKind.bits .u64) y1 &&& BitVec.ofInt (IntKind.bits .u64) 4294967295).toNat))) + (Int.fdiv (wr .u64 ((wr .u64 (BitVec.ofInt (IntKind.bits .u64) x0 &&& BitVec.ofInt (IntKind.bits .u64) 4294967295).toNat) * (wr .u64 (BitVec.ofInt (IntKind.bits .u64) y1 &&& BitVec.ofInt (IntKind.bits .u64) 4294967295).toNat))) (2 ^ (min (Int.toNat 32) (IntKind.bits .u64)))))) &&& BitVec.ofInt (IntKind.bits .u64) 4294967295).toNat) + (wr .u64 ((wr .u64 (BitVec.ofInt (IntKind.bits .u64) x0 &&& BitVec.ofInt (IntKind.bits .u64) 4294967295).toNat) * (Int.fdiv y1 (2 ^ (min (Int.toNat 32) (IntKind.bits .u64)))))))) (2 ^ (min (Int.toNat 32) (IntKind.bits .u64))))), wr .u64 (x0 * y1)))))))
theorem S80_D (n : Nat × Nat) (hn : n.2 = 1) : S80 n = D80 n := by
  funext x0 y1; refine (S80_eq n x0 y1).trans ?_
  unfold D80
  first | with_reducible rfl | rfl
/-D 74 -/
noncomputable def D74 (n : Nat × Nat) (x0 : Int) (y1 : Int) : Option R74 :=
 (bif false then (D79 n (wr .u32 x0) (wr .u32 y1)).bind fun r1' =>
 some (wr .u64 r1'.1, wr .u64 r1'.2)
 else (D80 n x0 y1).bind fun r2' =>
 some (r2'.1, r2'.2))
theorem S74_D (n : Nat × Nat) (hn : n.2 = 1) : S74 n = D74 n := by
  funext x0 y1; refine (S74_eq n x0 y1).trans ?_
  unfold D74
  (try simp only [S79_D n hn, S80_D n hn]) <;> first | with_reducible rfl | rfl
/-D 52 -/
noncomputable def DF52_1 (n : Nat × Nat) (f1 : Int → List Int → Option R52) (v8 : Int) (newslice7 : List Int) : Option R52 :=
 (bif decide (v8 < (newslice7.length : Int)) then (bif bounds (some v8) none none newslice7.length then (bif bounds none (some v8) none newslice7.length then f1 (wr .i64 (v8 + ((min ((newslice7.drop (0 + 0)).take ((Int.toNat v8) - 0)).length ((newslice7.drop (0 + (Int.toNat v8))).take (newslice7.length - (Int.toNat v8))).length : Nat) : Int))) (newslice7.take (0 + (Int.toNat v8)) ++ ((newslice7.drop (0 + 0)).take ((Int.toNat v8) - 0)).take (min ((newslice7.drop (0 + 0)).take ((Int.toNat v8) - 0)).length ((newslice7.drop (0 + (Int.toNat v8))).take (newslice7.length - (Int.toNat v8))).length) ++ newslice7.drop ((0 + (Int.toNat v8)) + min ((newslice7.drop (0 + 0)).take ((Int.toNat v8) - 0)).length ((newslice7.drop (0 + (Int.toNat v8))).take (newslice7.length - (Int.toNat v8))).length))
 else none)
 else none)
 else some newslice7)
noncomputable def DL52_1 (n : Nat × Nat) (m : Nat) : Int → List Int → Option R52 := Nat.rec (motive := fun _ => Int → List Int → Option R52) (fun _ _ => none) (fun _ ih => DF52_1 n ih) m
theorem DL52_1_succ (n : Nat × Nat) (m : Nat) : DL52_1 n (m + 1) = DF52_1 n (DL52_1 n m) := rfl
theorem DL52_1_eq (n : Nat × Nat) (hn : n.2 = 1) : ∀ m, L52_1 n m = DL52_1 n m
  | 0 => by funext v8 newslice7; kernel_rfl
  | m + 1 => by
    have ih := DL52_1_eq n hn m
    funext v8 newslice7; refine (L52_1_eq n m v8 newslice7).trans ?_
    rw [DL52_1_succ]
    unfold DF52_1
    (try simp only [ih, S74_D n hn]) <;> first | with_reducible rfl | rfl
noncomputable def D52 (n : Nat × Nat) (x0 : List Int) (count1 : Int) : Option R52 :=
 (bif decide (count1 < 0) then none
 else (D74 n (wr .u64 (x0.length : Int)) (wr .u64 count1)).bind fun r1' =>
 ((bif (decide (r1'.1 > 0) == false) then some (decide (r1'.2 > 9223372036854775807))
 else some true)).bind fun b2' =>
 (bif b2' then none
 else (bif decide (0 ≤ wr .i64 r1'.2) && decide (wr .i64 r1'.2 ≤ wr .i64 r1'.2) && decide (wr .i64 r1'.2 ≤ lim) then DL52_1 n n.1 ((min x0.length (List.replicate (Int.toNat (wr .i64 r1'.2)) (0 : Int)).length : Nat) : Int) ((List.replicate (Int.toNat (wr .i64 r1'.2)) (0 : Int)).take 0 ++ x0.take (min x0.length (List.replicate (Int.toNat (wr .i64 r1'.2)) (0 : Int)).length) ++ (List.replicate (Int.toNat (wr .i64 r1'.2)) (0 : Int)).drop (0 + min x0.length (List.replicate (Int.toNat (wr .i64 r1'.2)) (0 : Int)).length))
 else none)))
theorem S52_D (n : Nat × Nat) (hn : n.2 = 1) : S52 n = D52 n := by
  funext x0 count1; refine (S52_eq n x0 count1).trans ?_
  unfold D52
  (try simp only [DL52_1_eq n hn, S74_D n hn]) <;> first | with_reducible rfl | rfl
/-D 46 -/
noncomputable def D46 (n : Nat × Nat) (s0 : List Int) : Option R46 :=
 (bif !s0.isEmpty then (bif false then some []
 else (bif decide (([] : List Int).length + s0.length ≤ lim) then some ([] ++ s0)
 else none))
 else none)
theorem S46_D (n : Nat × Nat) (hn : n.2 = 1) : S46 n = D46 n := by
  funext s0; refine (S46_eq n s0).trans ?_
  unfold D46
  first | with_reducible rfl | rfl
/-D 41 -/
noncomputable def D41 (n : Nat × Nat) (coins0 : List Int) (purse1 : List Int) (sum2 : Int) : Option R41 := HF41 (D56 n) (D68 n) (D52 n) (D46 n) coins0 purse1 sum2
theorem S41_D (n : Nat × Nat) (hn : n.2 = 1) : S41 n = D41 n := by unfold S41 D41; rw [S56_D n hn, S68_D n hn, S52_D n hn, S46_D n hn]
/-D 55 -/
noncomputable def D55 (n : Nat × Nat) : Option R55 :=
 some [1, 2]
theorem S55_D (n : Nat × Nat) (hn : n.2 = 1) : S55 n = D55 n := by
  refine (S55_eq n).trans ?_
  unfold D55
  first | with_reducible rfl | rfl
/-D 33 -/
noncomputable def D33 (n : Nat × Nat) (coins0 : List Int) (coin1 : Int) : Option R33 :=
 (D25 n coins0).bind fun r1' =>
 (bif (r1' != 0) then some (false, r1')
 else (bif ((coins0.length : Int) == 6) then some (false, 3)
 else (bif decide (coin1 > 40) then some (false, 1)
 else (idx coins0 (wr .i64 ((coins0.length : Int) - 1))).bind fun x2' =>
 (bif decide (coin1 ≤ x2') then some (false, 7)
 else (D66 n coins0).bind fun r3' =>
 (bif decide (r3' > 0) then some (false, 13)
 else (idx coins0 (wr .i64 ((coins0.length : Int) - 1))).bind fun x4' =>
 (bif x4' == 0 then none
 else (D46 n coins0).bind fun r5' =>
 (bif decide (r5'.length + [coin1].length ≤ lim) then (D63 n (r5' ++ [coin1]) (wr .i64 ((wr .i64 (Int.tdiv (wr .i64 ((wr .i64 (coin1 + x4')) - 1)) x4')) * x4'))).bind fun r6' =>
 some (decide (r6'.2 ≤ wr .i64 (Int.tdiv (wr .i64 ((wr .i64 (coin1 + x4')) - 1)) x4')), 0)
 else none)))))))
theorem S33_D (n : Nat × Nat) (hn : n.2 = 1) : S33 n = D33 n := by
  funext coins0 coin1; refine (S33_eq n coins0 coin1).trans ?_
  unfold D33
  (try simp only [S25_D n hn, S46_D n hn, S63_D n hn, S66_D n hn]) <;> first | with_reducible rfl | rfl
/-D 24 -/
noncomputable def DF24_1 (n : Nat × Nat) (f1 : List Int → List Int → Int → Option R24) (a0 : List Int) (b1 : List Int) (i5 : Int) : Option R24 :=
 (bif decide (i5 < (a0.length : Int)) then (idx a0 i5).bind fun x1' =>
 (idx b1 i5).bind fun x2' =>
 (bif (x1' != x2') then some false
 else f1 a0 b1 (wr .i64 (i5 + 1)))
 else some true)
noncomputable def DL24_1 (n : Nat × Nat) (m : Nat) : List Int → List Int → Int → Option R24 := Nat.rec (motive := fun _ => List Int → List Int → Int → Option R24) (fun _ _ _ => none) (fun _ ih => DF24_1 n ih) m
theorem DL24_1_succ (n : Nat × Nat) (m : Nat) : DL24_1 n (m + 1) = DF24_1 n (DL24_1 n m) := rfl
theorem DL24_1_eq (n : Nat × Nat) (hn : n.2 = 1) : ∀ m, L24_1 n m = DL24_1 n m
  | 0 => by funext a0 b1 i5; kernel_rfl
  | m + 1 => by
    have ih := DL24_1_eq n hn m
    funext a0 b1 i5; refine (L24_1_eq n m a0 b1 i5).trans ?_
    rw [DL24_1_succ]
    unfold DF24_1
    (try simp only [ih]) <;> first | with_reducible rfl | rfl
noncomputable def D24 (n : Nat × Nat) (a0 : List Int) (b1 : List Int) : Option R24 :=
 (bif ((a0.length : Int) != (b1.length : Int)) then some false
 else DL24_1 n n.1 a0 b1 0)
theorem S24_D (n : Nat × Nat) (hn : n.2 = 1) : S24 n = D24 n := by
  funext a0 b1; refine (S24_eq n a0 b1).trans ?_
  unfold D24
  (try simp only [DL24_1_eq n hn]) <;> first | with_reducible rfl | rfl
/-D 31 -/
noncomputable def DF31_1 (n : Nat × Nat) (f1 : List Int → Int → Int → Int → List Int → Int → Int → Option R31) (coins0 : List Int) (sum1 : Int) (worth9 : Int) (has10 : Int) (v27 : List Int) (v28 : Int) (v29 : Int) : Option R31 :=
 (bif decide (v29 < v28) then (idx v27 v29).bind fun x3' =>
 (idx coins0 v29).bind fun x4' =>
      f1 coins0 sum1 (wr .i64 (worth9 + (wr .i64 (x3' * x4')))) (wr .i64 (has10 + x3')) v27 v28 (wr .i64 (v29 + 1))
 else (D63 n coins0 sum1).bind fun r5' =>
 (bif (worth9 != sum1) then some 17
 else (bif decide (has10 ≥ r5'.2) then some 14
 else some 0)))
noncomputable def DL31_1 (n : Nat × Nat) (m : Nat) : List Int → Int → Int → Int → List Int → Int → Int → Option R31 := Nat.rec (motive := fun _ => List Int → Int → Int → Int → List Int → Int → Int → Option R31) (fun _ _ _ _ _ _ _ => none) (fun _ ih => DF31_1 n ih) m
theorem DL31_1_succ (n : Nat × Nat) (m : Nat) : DL31_1 n (m + 1) = DF31_1 n (DL31_1 n m) := rfl
theorem DL31_1_eq (n : Nat × Nat) (hn : n.2 = 1) : ∀ m, L31_1 n m = DL31_1 n m
  | 0 => by funext coins0 sum1 worth9 has10 v27 v28 v29; kernel_rfl
  | m + 1 => by
    have ih := DL31_1_eq n hn m
    funext coins0 sum1 worth9 has10 v27 v28 v29; refine (L31_1_eq n m coins0 sum1 worth9 has10 v27 v28 v29).trans ?_
    rw [DL31_1_succ]
    unfold DF31_1
    (try simp only [ih, S56_D n hn, S63_D n hn, S68_D n hn]) <;> first | with_reducible rfl | rfl
noncomputable def D31 (n : Nat × Nat) (coins0 : List Int) (sum1 : Int) (payment2 : List Int) : Option R31 :=
 (D56 n coins0 sum1).bind fun r1' =>
 (bif (r1' != 0) then some r1'
 else (D68 n coins0 payment2).bind fun r2' =>
 (bif (r2' != 0) then some r2'
 else DL31_1 n n.1 coins0 sum1 0 0 payment2 (payment2.length : Int) 0))
theorem S31_D (n : Nat × Nat) (hn : n.2 = 1) : S31 n = D31 n := by
  funext coins0 sum1 payment2; refine (S31_eq n coins0 sum1 payment2).trans ?_
  unfold D31
  (try simp only [DL31_1_eq n hn, S56_D n hn, S63_D n hn, S68_D n hn]) <;> first | with_reducible rfl | rfl
/-D 17 -/
noncomputable def D17 (n : Nat × Nat) : Option R17 :=
 (D54 n).bind fun r1' =>
 (D18 n r1' 6).bind fun r2' =>
 (D54 n).bind fun r3' =>
 (D20 n r3' 6).bind fun r4' =>
 (D54 n).bind fun r5' =>
 (D22 n r5' 6).bind fun r6' =>
 (D54 n).bind fun r7' =>
 (D27 n r7').bind fun r8' =>
 (D53 n).bind fun r9' =>
 (D27 n r9').bind fun r10' =>
 (D54 n).bind fun r11' =>
 (D29 n r11').bind fun r12' =>
 (D54 n).bind fun r13' =>
 (D37 n r13' 6).bind fun r14' =>
 ((bif ((r2'.2 != 0) == false) then some (r4'.2 != 0)
 else some true)).bind fun b15' =>
 ((bif (b15' == false) then some (r6'.2 != 0)
 else some true)).bind fun b16' =>
 ((bif (b16' == false) then some (r8'.2 != 0)
 else some true)).bind fun b17' =>
 ((bif (b17' == false) then some (r10'.2 != 0)
 else some true)).bind fun b18' =>
 ((bif (b18' == false) then some (r12'.2 != 0)
 else some true)).bind fun b19' =>
 ((bif (b19' == false) then some (r14'.2 != 0)
 else some true)).bind fun b20' =>
 (bif b20' then some false
 else (D54 n).bind fun r21' =>
 (D35 n r21' 2).bind fun r22' =>
 (D53 n).bind fun r23' =>
 (D39 n r23' 9).bind fun r24' =>
 (D54 n).bind fun r25' =>
 (D41 n r25' [2, 1, 1] 6).bind fun r26' =>
 (D55 n).bind fun r27' =>
 (D33 n r27' 5).bind fun r28' =>
 (D54 n).bind fun r29' =>
 (D33 n r29' 5).bind fun r30' =>
 (D53 n).bind fun r31' =>
 (D29 n r31').bind fun r32' =>
 (D54 n).bind fun r33' =>
 (D41 n r33' [0, 0, 1] 6).bind fun r34' =>
 ((bif ((r22'.2 == 0) == true) then some (r24'.2.2 == 0)
 else some false)).bind fun b35' =>
 ((bif (b35' == true) then some (r26'.2 == 0)
 else some false)).bind fun b36' =>
 ((bif (b36' == true) then some (r28'.2 == 0)
 else some false)).bind fun b37' =>
 ((bif (b37' == true) then some (r30'.2 == 13)
 else some false)).bind fun b38' =>
 ((bif (b38' == true) then some (r32'.2 == 13)
 else some false)).bind fun b39' =>
 ((bif (b39' == true) then some (r34'.2 == 12)
 else some false)).bind fun b40' =>
 ((bif (b40' == true) then some (r2'.1 == 2)
 else some false)).bind fun b41' =>
 ((bif (b41' == true) then (D24 n r4'.1 [0, 2, 0]).bind fun r42' =>
 some r42'
 else some false)).bind fun b43' =>
 ((bif (b43' == true) then (D24 n r6'.1 [2, 0, 1]).bind fun r44' =>
 some r44'
 else some false)).bind fun b45' =>
 ((bif (b45' == true) then some (!r8'.1)
 else some false)).bind fun b46' =>
 ((bif (b46' == true) then some r10'.1
 else some false)).bind fun b47' =>
 ((bif (b47' == true) then some (r12'.1 == 6)
 else some false)).bind fun b48' =>
 ((bif (b48' == true) then some (r14'.1 == 4)
 else some false)).bind fun b49' =>
 ((bif (b49' == true) then some (r22'.1 == 8)
 else some false)).bind fun b50' =>
 ((bif (b50' == true) then some (r24'.1 == 1)
 else some false)).bind fun b51' =>
 ((bif (b51' == true) then some (r24'.2.1 == 1)
 else some false)).bind fun b52' =>
 ((bif (b52' == true) then (D24 n r26'.1 [2, 0, 1]).bind fun r53' =>
 some r53'
 else some false)).bind fun b54' =>
 ((bif (b54' == true) then some r28'.1
 else some false)).bind fun b55' =>
 ((bif (b55' == true) then (D54 n).bind fun r56' =>
 (D31 n r56' 6 [0, 2, 0]).bind fun r57' =>
 some (r57' == 0)
 else some false)).bind fun b58' =>
 ((bif (b58' == true) then (D54 n).bind fun r59' =>
 (D31 n r59' 6 [2, 0, 1]).bind fun r60' =>
 some (r60' == 14)
 else some false)).bind fun b61' =>
 some b61')
theorem S17_D (n : Nat × Nat) (hn : n.2 = 1) : S17 n = D17 n := by
  refine (S17_eq n).trans ?_
  unfold D17
  (try simp only [S18_D n hn, S20_D n hn, S22_D n hn, S24_D n hn, S27_D n hn, S29_D n hn, S31_D n hn, S33_D n hn, S35_D n hn, S37_D n hn, S39_D n hn, S41_D n hn, S53_D n hn, S54_D n hn, S55_D n hn]) <;> first | with_reducible rfl | rfl
/-D 44 -/
abbrev R45 := List Int × Int
noncomputable def c45 : Code := bodyOf Try.f45
noncomputable def an45 : Ann := (.s .l (.s .l (.s (.j [6, 7] (.j [0, 1, 6, 7] (.s (.s .l (.j [0, 1, 6, 7] .l .l)) (.j [0, 1, 6, 7] (.s .l (.s (.j [0, 1, 6, 7, 8] (.j [0, 1, 6, 7, 8] (.s (.s .l (.j [0, 1, 6, 7, 8] .l .l)) (.j [0, 1, 6, 7, 8] .l .l)) .l) .l) .l)) .l)) .l) .l) .l)))
def pk45 : List PK := [.c (.sl (.int .i64)), .c (.int .i64)]
def rk45 : List RK := [.own (.int .i64) 4, .c (.int .i64) 5]
noncomputable def rt45 (st : St) : Option R45 := rtG rk45 st
noncomputable def E45 (n : Nat × Nat) : Env := { T := tab, phi := noPhi, eff := fun _ => false, fuel := n.1, hold := n.2 }
noncomputable def kq45_1 (n : Nat × Nat) : St → Option R45 := run (E45 n) (cB (cB (cB c45))) (Ann.snd (Ann.snd (Ann.snd an45))) rt45 (fun _ _ => none) rt45
noncomputable def xb45_3 (n : Nat × Nat) : Nat → St → Option R45 := fun j s => bif Nat.beq j 0 then normC [6, 7] s (kq45_1 n) else (fun _ _ => none) j s
noncomputable def F45_4 (n : Nat × Nat) : (St → Option R45) → St → Option R45 := fun K s => run (E45 n) (cA (cA (cA (cB (cB c45))))) (Ann.fst (Ann.fst (Ann.fst (Ann.snd (Ann.snd an45))))) (fun s => normC [0, 1, 6, 7] s K) (xb45_3 n) rt45 s
noncomputable def kc45_7 (n : Nat × Nat) (m1 : Nat) : St → Option R45 := fun s => normC [0, 1, 6, 7] s (fun s => normC [0, 1, 6, 7] s (loopN (F45_4 n) m1))
noncomputable def xb45_8 (n : Nat × Nat) (m1 : Nat) : Nat → St → Option R45 := fun j s => bif Nat.beq j 1 then normC [0, 1, 6, 7] s (fun s => normC [0, 1, 6, 7] s (loopN (F45_4 n) m1)) else (xb45_3 n) j s
noncomputable def kq45_9 (n : Nat × Nat) (m1 : Nat) : St → Option R45 := run (E45 n) (cB (cB (cA (cB (cA (cA (cA (cB (cB c45))))))))) (Ann.snd (Ann.snd (Ann.fst (Ann.snd (Ann.fst (Ann.fst (Ann.fst (Ann.snd (Ann.snd an45))))))))) (kc45_7 n m1) (xb45_8 n m1) rt45
noncomputable def xb45_11 (n : Nat × Nat) (m1 : Nat) : Nat → St → Option R45 := fun j s => bif Nat.beq j 2 then normC [0, 1, 6, 7, 8] s (kq45_9 n m1) else (xb45_8 n m1) j s
noncomputable def F45_12 (n : Nat × Nat) (m1 : Nat) : (St → Option R45) → St → Option R45 := fun K s => run (E45 n) (cA (cA (cA (cB (cA (cB (cA (cA (cA (cB (cB c45))))))))))) (Ann.fst (Ann.fst (Ann.fst (Ann.snd (Ann.fst (Ann.snd (Ann.fst (Ann.fst (Ann.fst (Ann.snd (Ann.snd an45))))))))))) (fun s => normC [0, 1, 6, 7, 8] s K) (xb45_11 n m1) rt45 s
noncomputable def L45_1 (n : Nat × Nat) (m : Nat) (coins0 : List Int) (sum1 : Int) (v7 : Int) (out6 : List Int) : Option R45 := loopN (F45_4 n) m { tm := [.c (.sl (.int .i64) coins0 false), .c (.int .i64 sum1), uu, uu, uu, uu, .own 6 none false, .c (.int .i64 v7), uu, uu, uu, uu, uu, uu, uu, uu, uu, uu, uu, uu, uu, uu, uu, uu, uu, uu, uu, uu, uu, uu, uu, uu, uu, uu, uu, uu, uu, uu, uu, uu, uu], hp := (upd emp 6 (.arr (.int .i64) out6 false)) }
noncomputable def L45_2 (n : Nat × Nat) (m1 : Nat) (m : Nat) (coins0 : List Int) (sum1 : Int) (v7 : Int) (i8 : Int) (out6 : List Int) : Option R45 := loopN (F45_12 n m1) m { tm := [.c (.sl (.int .i64) coins0 false), .c (.int .i64 sum1), uu, uu, uu, uu, .own 6 none false, .c (.int .i64 v7), .c (.int .i64 i8), uu, uu, uu, uu, uu, uu, uu, uu, uu, uu, uu, uu, uu, uu, uu, uu, uu, uu, uu, uu, uu, uu, uu, uu, uu, uu, uu, uu, uu, uu, uu, uu], hp := (upd emp 6 (.arr (.int .i64) out6 false)) }
theorem L45_1_eq (n : Nat × Nat) (m1 : Nat) (coins0 : List Int) (sum1 : Int) (v7 : Int) (out6 : List Int) : L45_1 n (m1 + 1) coins0 sum1 v7 out6 =
 (bif decide (sum1 > 0) then L45_2 n m1 n.1 coins0 sum1 v7 (wr .i64 ((coins0.length : Int) - 1)) out6
 else some (out6, v7)) := by kernel_rfl
theorem L45_2_eq (n : Nat × Nat) (m1 m2 : Nat) (coins0 : List Int) (sum1 : Int) (v7 : Int) (i8 : Int) (out6 : List Int) : L45_2 n m1 (m2 + 1) coins0 sum1 v7 i8 out6 =
 (idx coins0 i8).bind fun x1' =>
 (bif decide (x1' > sum1) then L45_2 n m1 m2 coins0 sum1 v7 (wr .i64 (i8 - 1)) out6
 else (idx coins0 i8).bind fun x2' =>
 (bif inB i8 out6.length then (idx out6 i8).bind fun x3' =>
 (bif inB i8 out6.length then (idx out6 i8).bind fun x4' =>
          L45_1 n m1 coins0 (wr .i64 (sum1 - x2')) (wr .i64 (v7 + 1)) (out6.set (Int.toNat i8) (wr .i64 (x3' + 1)))
 else none)
 else none)) := by kernel_rfl
noncomputable def S45 (n : Nat × Nat) (coins0 : List Int) (sum1 : Int) : Option R45 := run (E45 n) c45 an45 rt45 (fun _ _ => none) rt45 { tm := [.c (.sl (.int .i64) coins0 false), .c (.int .i64 sum1), uu, uu, uu, uu, uu, uu, uu, uu, uu, uu, uu, uu, uu, uu, uu, uu, uu, uu, uu, uu, uu, uu, uu, uu, uu, uu, uu, uu, uu, uu, uu, uu, uu, uu, uu, uu, uu, uu, uu], hp := emp }
theorem S45_eq (n : Nat × Nat) (coins0 : List Int) (sum1 : Int) : S45 n coins0 sum1 =
 (bif decide (0 ≤ (coins0.length : Int)) && decide ((coins0.length : Int) ≤ (coins0.length : Int)) && decide ((coins0.length : Int) ≤ lim) then L45_1 n n.1 coins0 sum1 0 (List.replicate (Int.toNat (coins0.length : Int)) (0 : Int))
 else none) := by kernel_rfl
theorem S45_run (n : Nat × Nat) (xs : pksDen pk45) : S45 n xs.1 xs.2.1 = runG (E45 n) noScope c45 an45 (rtG rk45) (fun _ _ => none) (rtG rk45) (st0 pk45 xs Try.f45.ntmps) := by kernel_rfl
noncomputable def P45 (n : Nat × Nat) := phiOf pk45 rk45 (fun xs => S45 n xs.1 xs.2.1)
theorem call45 : CallOK Try.prog 45 := callOK_of Try.func45 (by kernel_rfl) (by kernel_rfl)
theorem env45 (n : Nat × Nat) : EnvOK Try.prog (E45 n) := envOK0 noPhi_ok rfl rfl
theorem par45 (n : Nat × Nat) : EnvPar (E45 n) := envPar0 noPhi_par rfl
theorem FC45 (n : Nat × Nat) : FCs Try.prog 45 (P45 n) := phiOf_FCs fun xs r h vs hv => FC.of_runG tabOK eqsOK (env45 n) (par45 n) mixed (fun _ => noScope_ok) Try.func45 (c := c45) (an := an45) (pks := pk45) (rks := rk45) (by kernel_rfl) (by kernel_rfl) hv ((S45_run n xs).symm.trans h)
/-D 45 -/
noncomputable def DF45_2 (n : Nat × Nat) (f1 : List Int → Int → Int → List Int → Option R45) (f2 : List Int → Int → Int → Int → List Int → Option R45) (coins0 : List Int) (sum1 : Int) (v7 : Int) (i8 : Int) (out6 : List Int) : Option R45 :=
 (idx coins0 i8).bind fun x1' =>
 (bif decide (x1' > sum1) then f2 coins0 sum1 v7 (wr .i64 (i8 - 1)) out6
 else (idx coins0 i8).bind fun x2' =>
 (bif inB i8 out6.length then (idx out6 i8).bind fun x3' =>
 (bif inB i8 out6.length then (idx out6 i8).bind fun x4' =>
          f1 coins0 (wr .i64 (sum1 - x2')) (wr .i64 (v7 + 1)) (out6.set (Int.toNat i8) (wr .i64 (x3' + 1)))
 else none)
 else none))
noncomputable def DL45_2 (n : Nat × Nat) (f1 : List Int → Int → Int → List Int → Option R45) (m : Nat) : List Int → Int → Int → Int → List Int → Option R45 := Nat.rec (motive := fun _ => List Int → Int → Int → Int → List Int → Option R45) (fun _ _ _ _ _ => none) (fun _ ih => DF45_2 n f1 ih) m
theorem DL45_2_succ (n : Nat × Nat) (f1 : List Int → Int → Int → List Int → Option R45) (m : Nat) : DL45_2 n f1 (m + 1) = DF45_2 n f1 (DL45_2 n f1 m) := rfl
theorem DL45_2_eq (n : Nat × Nat) (hn : n.2 = 1) (m1 : Nat) : ∀ m, L45_2 n m1 m = DL45_2 n (L45_1 n m1) m
  | 0 => by funext coins0 sum1 v7 i8 out6; kernel_rfl
  | m + 1 => by
    have ih := DL45_2_eq n hn m1 m
    funext coins0 sum1 v7 i8 out6; refine (L45_2_eq n m1 m coins0 sum1 v7 i8 out6).trans ?_
    rw [DL45_2_succ]
    unfold DF45_2
    (try simp only [ih]) <;> first | with_reducible rfl | rfl
noncomputable def DF45_1 (n : Nat × Nat) (f1 : List Int → Int → Int → List Int → Option R45) (coins0 : List Int) (sum1 : Int) (v7 : Int) (out6 : List Int) : Option R45 :=
 (bif decide (sum1 > 0) then DL45_2 n f1 n.1 coins0 sum1 v7 (wr .i64 ((coins0.length : Int) - 1)) out6
 else some (out6, v7))
noncomputable def DL45_1 (n : Nat × Nat) (m : Nat) : List Int → Int → Int → List Int → Option R45 := Nat.rec (motive := fun _ => List Int → Int → Int → List Int → Option R45) (fun _ _ _ _ => none) (fun _ ih => DF45_1 n ih) m
theorem DL45_1_succ (n : Nat × Nat) (m : Nat) : DL45_1 n (m + 1) = DF45_1 n (DL45_1 n m) := rfl
theorem DL45_1_eq (n : Nat × Nat) (hn : n.2 = 1) : ∀ m, L45_1 n m = DL45_1 n m
  | 0 => by funext coins0 sum1 v7 out6; kernel_rfl
  | m + 1 => by
    have ih := DL45_1_eq n hn m
    funext coins0 sum1 v7 out6; refine (L45_1_eq n m coins0 sum1 v7 out6).trans ?_
    rw [DL45_1_succ]
    unfold DF45_1
    (try simp only [ih, DL45_2_eq n hn]) <;> first | with_reducible rfl | rfl
noncomputable def D45 (n : Nat × Nat) (coins0 : List Int) (sum1 : Int) : Option R45 :=
 (bif decide (0 ≤ (coins0.length : Int)) && decide ((coins0.length : Int) ≤ (coins0.length : Int)) && decide ((coins0.length : Int) ≤ lim) then DL45_1 n n.1 coins0 sum1 0 (List.replicate (Int.toNat (coins0.length : Int)) (0 : Int))
 else none)
theorem S45_D (n : Nat × Nat) (hn : n.2 = 1) : S45 n = D45 n := by
  funext coins0 sum1; refine (S45_eq n coins0 sum1).trans ?_
  unfold D45
  (try simp only [DL45_2_eq n hn, DL45_1_eq n hn]) <;> first | with_reducible rfl | rfl
/-D 51 -/
/-D 65 -/
/-D 26 -/
/-D 58 -/
/-D 59 -/
/-D 64 -/
/-D 70 -/
/-D 67 -/
/-D 28 -/
/-D 30 -/
/-D 69 -/
/-D 32 -/
/-D 34 -/
/-D 36 -/
/-D 73 -/
/-D 38 -/
/-D 40 -/
end Go.Proofs.Ytjgmfdgpgdaclaa
/-
  Sums of coins: the fewest coins of a sum, greatest coins, the first bad sum, one coin more (plain law).
-/
set_option linter.unusedVariables false
set_option linter.unusedSimpArgs false
namespace Go.Proofs.Ytjgmfdgpgdaclaa
/-- The sum is so many coins. -/
def Rch (cs : List Int) : Nat → Int → Prop
  | 0, s => s = 0
  | n + 1, s => ∃ c ∈ cs, Rch cs n (s - c)
theorem Rch.add {cs : List Int} {m : Nat} {t : Int} (h : Rch cs m t) : ∀ {n : Nat} {s : Int}, Rch cs n s → Rch cs (n + m) (s + t)
  | 0, s, h0 => by
    have h0 : s = 0 := h0
    subst h0
    simpa using h
  | n + 1, s, ⟨c, hc, h1⟩ => by
    rw [show n + 1 + m = (n + m) + 1 by omega]
    refine ⟨c, hc, ?_⟩
    rw [show s + t - c = (s - c) + t by omega]
    exact h.add h1
theorem Rch.one {cs : List Int} {c : Int} (hc : c ∈ cs) : Rch cs 1 c := ⟨c, hc, by show c - c = 0; omega⟩
theorem Rch.mono {cs ds : List Int} (h : ∀ c ∈ cs, c ∈ ds) : ∀ {n : Nat} {s : Int}, Rch cs n s → Rch ds n s
  | 0, s, h0 => h0
  | n + 1, s, ⟨c, hc, h1⟩ => ⟨c, h c hc, h1.mono h⟩
theorem Rch.le {cs : List Int} (hp : ∀ c ∈ cs, 1 ≤ c) : ∀ {n : Nat} {s : Int}, Rch cs n s → (n : Int) ≤ s
  | 0, s, h0 => by have h0 : s = 0 := h0; omega
  | n + 1, s, ⟨c, hc, h1⟩ => by have := h1.le hp; have := hp c hc; omega
theorem Rch.ones {cs : List Int} (h1 : 1 ∈ cs) : ∀ n : Nat, Rch cs n n
  | 0 => rfl
  | n + 1 => ⟨1, h1, by rw [show ((n + 1 : Nat) : Int) - 1 = n by omega]; exact Rch.ones h1 n⟩
theorem exMin (P : Nat → Prop) : (∃ n, P n) → ∃ n, P n ∧ ∀ m, P m → n ≤ m := by
  intro ⟨n, hn⟩
  induction n using Nat.strongRecOn with
  | ind n ih =>
    by_cases h : ∃ m, m < n ∧ P m
    · obtain ⟨m, h1, h2⟩ := h
      exact ih m h1 h2
    · refine ⟨n, hn, fun m hm => ?_⟩
      by_cases h' : m < n
      · exact absurd ⟨m, h', hm⟩ h
      · omega
/-- Coins: 1 is among them, and none is smaller. -/
structure Mnt (cs : List Int) : Prop where
  one : 1 ∈ cs
  pos : ∀ c ∈ cs, 1 ≤ c
open Classical in
/-- The fewest coins of a sum. -/
noncomputable def opt (cs : List Int) (s : Int) : Int := if h : ∃ n, Rch cs n s then ((Classical.choose (exMin _ h) : Nat) : Int) else 0
theorem opt_spec {cs : List Int} (hc : Mnt cs) {s : Int} (h0 : 0 ≤ s) : ∃ n : Nat, opt cs s = n ∧ Rch cs n s ∧ ∀ m, Rch cs m s → n ≤ m := by
  have h : ∃ n, Rch cs n s := ⟨s.toNat, by have := Rch.ones hc.one s.toNat; rwa [Int.toNat_of_nonneg h0] at this⟩
  refine ⟨_, by unfold opt; rw [dif_pos h], (Classical.choose_spec (exMin _ h)).1, (Classical.choose_spec (exMin _ h)).2⟩
theorem opt_le {cs : List Int} (hc : Mnt cs) {s : Int} {n : Nat} (h : Rch cs n s) : opt cs s ≤ n := by
  obtain ⟨k, h1, h2, h3⟩ := opt_spec hc (s := s) (by have := h.le hc.pos; omega)
  have := h3 n h
  omega
theorem opt_nonneg {cs : List Int} (hc : Mnt cs) {s : Int} (h0 : 0 ≤ s) : 0 ≤ opt cs s := by
  obtain ⟨n, h, _⟩ := opt_spec hc h0
  omega
theorem opt_zero {cs : List Int} (hc : Mnt cs) : opt cs 0 = 0 := by
  have h1 := opt_le hc (show Rch cs 0 0 from rfl)
  have h2 := opt_nonneg hc (Int.le_refl 0)
  omega
theorem opt_self {cs : List Int} (hc : Mnt cs) {s : Int} (h0 : 0 ≤ s) : opt cs s ≤ s := by
  have h := Rch.ones hc.one s.toNat
  have := opt_le hc h
  rw [Int.toNat_of_nonneg h0] at this
  omega
theorem opt_add {cs : List Int} (hc : Mnt cs) {s t : Int} (h0 : 0 ≤ s) (h1 : 0 ≤ t) : opt cs (s + t) ≤ opt cs s + opt cs t := by
  obtain ⟨n, a1, a2, _⟩ := opt_spec hc h0
  obtain ⟨m, b1, b2, _⟩ := opt_spec hc h1
  have := opt_le hc (b2.add a2)
  omega
theorem opt_coin {cs : List Int} (hc : Mnt cs) {c : Int} (h : c ∈ cs) : opt cs c = 1 := by
  have h1 := opt_le hc (Rch.one h)
  obtain ⟨n, a1, a2, _⟩ := opt_spec hc (s := c) (by have := hc.pos c h; omega)
  cases n with
  | zero => have : c = 0 := a2; have := hc.pos c h; omega
  | succ n => omega
theorem opt_more {cs : List Int} (hc : Mnt cs) {c s : Int} (h : c ∈ cs) (hs : 0 ≤ s) : opt cs (s + c) ≤ opt cs s + 1 := by
  have := opt_add hc hs (show 0 ≤ c by have := hc.pos c h; omega)
  rw [opt_coin hc h] at this
  exact this
theorem opt_less {cs : List Int} (hc : Mnt cs) {c s : Int} (h : c ∈ cs) (hs : c ≤ s) : opt cs s ≤ opt cs (s - c) + 1 := by
  have := opt_more hc h (s := s - c) (by omega)
  rwa [show s - c + c = s by omega] at this
theorem opt_step {cs : List Int} (hc : Mnt cs) {s : Int} (hs : 0 < s) : ∃ c ∈ cs, c ≤ s ∧ opt cs s = opt cs (s - c) + 1 := by
  obtain ⟨n, a1, a2, _⟩ := opt_spec hc (s := s) (by omega)
  cases n with
  | zero => have : s = 0 := a2; omega
  | succ n =>
    obtain ⟨c, hcc, h1⟩ := a2
    have hle := h1.le hc.pos
    have h2 := opt_le hc h1
    have h3 := opt_less hc hcc (s := s) (by omega)
    exact ⟨c, hcc, by omega, by omega⟩
end Go.Proofs.Ytjgmfdgpgdaclaa
set_option linter.unusedVariables false
set_option linter.unusedSimpArgs false
namespace Go.Proofs.Ytjgmfdgpgdaclaa
/-- A payment out of a purse. -/
def Pay : List Int → List Int → Int → List Int → Prop
  | [], _, s, p => s = 0 ∧ p = []
  | c :: cs, qs, s, p => ∃ n p', p = n :: p' ∧ 0 ≤ n ∧ n ≤ qs.headD 0 ∧ Pay cs qs.tail (s - n * c) p'
/-- A payment out of a purse that is never empty. -/
def PayU : List Int → Int → List Int → Prop
  | [], s, p => s = 0 ∧ p = []
  | c :: cs, s, p => ∃ n p', p = n :: p' ∧ 0 ≤ n ∧ PayU cs (s - n * c) p'
def tot : List Int → Int
  | [] => 0
  | n :: l => n + tot l
/-- The order of payments. -/
def Lx : List Int → List Int → Prop
  | n :: p, m :: q => n < m ∨ n = m ∧ Lx p q
  | _, _ => True
theorem Pay.length : ∀ {cs qs : List Int} {s : Int} {p : List Int}, Pay cs qs s p → p.length = cs.length
  | [], _, s, p, h => by rw [h.2]
  | c :: cs, qs, s, p, ⟨n, p', h1, h2, h3, h4⟩ => by rw [h1]; simp [h4.length]
theorem PayU.length : ∀ {cs : List Int} {s : Int} {p : List Int}, PayU cs s p → p.length = cs.length
  | [], s, p, h => by rw [h.2]
  | c :: cs, s, p, ⟨n, p', h1, h2, h4⟩ => by rw [h1]; simp [h4.length]
theorem Pay.free : ∀ {cs qs : List Int} {s : Int} {p : List Int}, Pay cs qs s p → PayU cs s p
  | [], _, s, p, h => h
  | c :: cs, qs, s, p, ⟨n, p', h1, h2, h3, h4⟩ => ⟨n, p', h1, h2, h4.free⟩
theorem PayU.sum {cs : List Int} : ∀ (hp : ∀ c ∈ cs, 1 ≤ c) {s : Int} {p : List Int}, PayU cs s p → 0 ≤ tot p ∧ tot p ≤ s := by
  induction cs with
  | nil => intro hp s p h; rw [h.1, h.2]; exact ⟨Int.le_refl _, Int.le_refl _⟩
  | cons c cs ih =>
    intro hp s p ⟨n, p', h1, h2, h4⟩
    obtain ⟨a, b⟩ := ih (fun c h => hp c (by simp [h])) h4
    have hc := hp c (by simp)
    have : n * 1 ≤ n * c := Int.mul_le_mul_of_nonneg_left hc h2
    rw [h1]
    simp only [tot]
    omega
theorem PayU.lim {cs : List Int} : ∀ (hp : ∀ c ∈ cs, 1 ≤ c) {qs : List Int} {s m : Int} {p : List Int}, PayU cs s p → s ≤ m → qs.length = cs.length → (∀ q ∈ qs, m ≤ q) → Pay cs qs s p := by
  induction cs with
  | nil => intro hp qs s m p h hm hl hq; exact h
  | cons c cs ih =>
    intro hp qs s m p ⟨n, p', h1, h2, h4⟩ hm hl hq
    have hc := hp c (by simp)
    have hnc : n * 1 ≤ n * c := Int.mul_le_mul_of_nonneg_left hc h2
    obtain ⟨a, b⟩ := PayU.sum (fun c h => hp c (by simp [h])) h4
    cases qs with
    | nil => simp at hl
    | cons q qs =>
      have := hq q (by simp)
      exact ⟨n, p', h1, h2, by show n ≤ q; omega, ih (fun c h => hp c (by simp [h])) h4 (by omega : s - n * c ≤ m) (by simpa using hl) (fun x h => hq x (List.mem_cons_of_mem _ h))⟩
theorem Lx.refl : ∀ p : List Int, Lx p p
  | [] => trivial
  | n :: p => .inr ⟨rfl, Lx.refl p⟩
theorem Lx.anti : ∀ {p q : List Int}, p.length = q.length → Lx p q → Lx q p → p = q
  | [], [], _, _, _ => rfl
  | [], _ :: _, h, _, _ => by simp at h
  | _ :: _, [], h, _, _ => by simp at h
  | n :: p, m :: q, h, h1, h2 => by
    rcases h1 with h1 | ⟨rfl, h1⟩
    · rcases h2 with h2 | ⟨rfl, h2⟩ <;> omega
    · rcases h2 with h2 | ⟨_, h2⟩
      · omega
      · rw [Lx.anti (by simpa using h) h1 h2]
/-- The first of the payments with the fewest coins. -/
def IsBst (A : List Int → Prop) (p : List Int) : Prop := A p ∧ ∀ p', A p' → tot p < tot p' ∨ tot p = tot p' ∧ Lx p p'
theorem IsBst.uniq {A : List Int → Prop} {p q : List Int} (hl : p.length = q.length) (h : IsBst A p) (k : IsBst A q) : p = q := by
  have h1 := h.2 q k.1
  have h2 := k.2 p h.1
  rcases h1 with h1 | ⟨h1, h3⟩ <;> rcases h2 with h2 | ⟨h2, h4⟩
  · omega
  · omega
  · omega
  · exact Lx.anti hl h3 h4
theorem IsBst.congr {A B : List Int → Prop} {p : List Int} (h : IsBst A p) (e : ∀ p, A p ↔ B p) : IsBst B p := ⟨(e p).1 h.1, fun p' h' => h.2 p' ((e p').2 h')⟩
/-- Payments and sums of single coins. -/
theorem PayU.rch {cs : List Int} : ∀ {s : Int} {p : List Int}, PayU cs s p → Rch cs (tot p).toNat s := by
  induction cs with
  | nil => intro s p h; rw [h.1, h.2]; rfl
  | cons c cs ih =>
    intro s p ⟨n, p', h1, h2, h4⟩
    have h5 := (ih h4).mono (ds := c :: cs) (fun x h => by simp [h])
    have key : ∀ k : Nat, Rch (c :: cs) k ((k : Int) * c) := by
      intro k
      induction k with
      | zero => show (0 : Int) * c = 0; simp
      | succ k ih => exact ⟨c, by simp, by rw [show ((k + 1 : Nat) : Int) * c - c = (k : Int) * c by rw [Int.natCast_add, Int.add_mul]; omega]; exact ih⟩
    have h6 := key n.toNat
    rw [Int.toNat_of_nonneg h2] at h6
    have h7 := h5.add h6
    have ht : 0 ≤ tot p' := by
      have : ∀ {cs : List Int} {s : Int} {p : List Int}, PayU cs s p → 0 ≤ tot p := by
        intro cs
        induction cs with
        | nil => intro s p h; rw [h.2]; exact Int.le_refl _
        | cons c cs ih => intro s p ⟨n, p', h1, h2, h4⟩; have := ih h4; rw [h1]; simp only [tot]; omega
      exact this h4
    rw [h1]
    simp only [tot]
    rw [show (n + tot p').toNat = n.toNat + (tot p').toNat by omega]
    rwa [show n * c + (s - n * c) = s by omega] at h7
theorem PayU.zero : ∀ cs : List Int, ∃ p, PayU cs 0 p ∧ tot p = 0
  | [] => ⟨[], ⟨rfl, rfl⟩, rfl⟩
  | c :: cs => by
    obtain ⟨p, h1, h2⟩ := PayU.zero cs
    exact ⟨0 :: p, ⟨0, p, rfl, Int.le_refl _, by simpa using h1⟩, by simp only [tot]; omega⟩
theorem PayU.bump {c : Int} : ∀ {cs : List Int} {s : Int} {p : List Int}, PayU cs s p → c ∈ cs → ∃ p', PayU cs (s + c) p' ∧ tot p' = tot p + 1
  | [], _, _, _, h => by cases h
  | d :: cs, s, p, ⟨n, p', h1, h2, h4⟩, h => by
    rcases List.mem_cons.1 h with rfl | h
    · exact ⟨(n + 1) :: p', ⟨n + 1, p', rfl, by omega, by rw [Int.add_mul, show s + c - (n * c + 1 * c) = s - n * c by omega]; exact h4⟩, by rw [h1]; simp only [tot]; omega⟩
    · obtain ⟨p'', h5, h6⟩ := h4.bump h
      exact ⟨n :: p'', ⟨n, p'', rfl, h2, by rw [show s + c - n * d = s - n * d + c by omega]; exact h5⟩, by rw [h1]; simp only [tot]; omega⟩
theorem Rch.payU {cs : List Int} : ∀ {n : Nat} {s : Int}, Rch cs n s → ∃ p, PayU cs s p ∧ tot p = n
  | 0, s, h => by
    have h : s = 0 := h
    subst h
    obtain ⟨p, h1, h2⟩ := PayU.zero cs
    exact ⟨p, h1, by rw [h2]; rfl⟩
  | n + 1, s, ⟨c, hc, h⟩ => by
    obtain ⟨p, h1, h2⟩ := h.payU
    obtain ⟨p', h3, h4⟩ := h1.bump hc
    exact ⟨p', by rwa [show s - c + c = s by omega] at h3, by omega⟩
theorem opt_pay {cs : List Int} (hc : Mnt cs) {s : Int} (hs : 0 ≤ s) : ∃ p, PayU cs s p ∧ tot p = opt cs s := by
  obtain ⟨n, h1, h2, _⟩ := opt_spec hc hs
  obtain ⟨p, h3, h4⟩ := h2.payU
  exact ⟨p, h3, by omega⟩
theorem opt_pay_le {cs : List Int} (hc : Mnt cs) {s : Int} {p : List Int} (h : PayU cs s p) : opt cs s ≤ tot p := by
  have h1 := opt_le hc h.rch
  have h2 := (PayU.sum hc.pos h).1
  omega
/-- The first best payment has the fewest coins. -/
theorem IsBst.opt {cs : List Int} (hc : Mnt cs) {s : Int} (hs : 0 ≤ s) {p : List Int} (h : IsBst (PayU cs s) p) : tot p = opt cs s := by
  obtain ⟨q, h1, h2⟩ := opt_pay hc hs
  have h3 := opt_pay_le hc h.1
  rcases h.2 q h1 with h4 | ⟨h4, _⟩ <;> omega
end Go.Proofs.Ytjgmfdgpgdaclaa
set_option linter.unusedVariables false
set_option linter.unusedSimpArgs false
namespace Go.Proofs.Ytjgmfdgpgdaclaa
open Go.Vi
theorem wr_ok {x : Int} (h1 : -9223372036854775808 ≤ x) (h2 : x ≤ 9223372036854775807) : wr .i64 x = x := by
  have : wr .i64 x = (x + 9223372036854775808) % 18446744073709551616 - 9223372036854775808 := by
    simp only [wr, IntKind.wrap, IntKind.signed, IntKind.bits]
    simp
    split <;> omega
  rw [this]
  omega
theorem idx_nat {α : Type} {l : List α} {k : Nat} (h : k < l.length) : idx l (k : Int) = some l[k] := by
  unfold idx
  rw [if_pos (by omega), Int.toNat_natCast, List.getElem?_eq_getElem h]
theorem idx_int {α : Type} {l : List α} {k : Nat} {i : Int} (hi : i = k) (h : k < l.length) : idx l i = some l[k] := by
  subst hi
  exact idx_nat h
theorem drop_cons {α : Type} {l : List α} {k : Nat} (h : k < l.length) : l.drop k = l[k] :: l.drop (k + 1) := List.drop_eq_getElem_cons h
theorem inB_nat {k n : Nat} (h : k < n) : inB (k : Int) n = true := by
  unfold inB
  simp [h]
/-- What is checked, behind a coin. -/
def chkl : Option Int → List Int → Int
  | _, [] => 0
  | p, c :: l => if c < 1 ∨ 40 < c then 1 else if c ≤ p.getD 0 then 7 else chkl (some c) l
def chk (cs : List Int) : Int := if cs.length = 0 then 4 else if 6 < cs.length then 3 else if chkl none cs = 0 then (if cs.headD 0 = 1 then 0 else 5) else chkl none cs
def lst (cs : List Int) (k : Nat) : Option Int := if k = 0 then none else cs[k - 1]?
theorem chk_loop (n : Nat × Nat) (cs : List Int) (hl : cs.length ≤ 6) (h0 : 0 < cs.length) : ∀ (m k : Nat), k ≤ cs.length → cs.length - k < m → (∀ j (h : j < cs.length), j < k → 1 ≤ cs[j]) →
    DL25_1 n m cs cs (cs.length : Int) (k : Int) = some (if chkl (lst cs k) (cs.drop k) = 0 then (if cs.headD 0 = 1 then 0 else 5) else chkl (lst cs k) (cs.drop k))
  | 0, k, _, h, _ => by omega
  | m + 1, k, hk, h, hp => by
    rw [DL25_1_succ]
    unfold DF25_1
    by_cases hlt : k < cs.length
    · rw [decide_eq_true (show (k : Int) < (cs.length : Int) by omega), cond_true, idx_nat hlt, drop_cons hlt]
      simp only [Option.bind_some, chkl]
      generalize hc : cs[k] = c
      by_cases h1 : c < 1
      · simp [h1]
      by_cases h2 : c > 40
      · simp [h1, h2]
      have ih := chk_loop n cs hl h0 m (k + 1) (by omega) (by omega) (fun j hj hjk => by
        by_cases e : j = k
        · subst e; rw [hc]; omega
        · exact hp j hj (by omega))
      rw [show ((k + 1 : Nat) : Int) = wr .i64 ((k : Int) + 1) by rw [wr_ok (by omega) (by omega)]; omega] at ih
      have hlst : lst cs (k + 1) = some c := by
        unfold lst
        rw [if_neg (by omega), show k + 1 - 1 = k by omega, List.getElem?_eq_getElem hlt, hc]
      rw [hlst] at ih
      simp only [decide_eq_false h1, decide_eq_false h2, beq_self_eq_true, cond_true, cond_false, Option.bind_some, if_neg (show ¬ (c < 1 ∨ 40 < c) by omega)]
      by_cases hk0 : k = 0
      · subst hk0
        simp only [lst, if_pos, Option.getD_none, if_neg (show ¬ c ≤ 0 by omega)]
        simp only [show decide (((0 : Nat) : Int) > 0) = false by decide, show (false == true) = false from rfl, cond_false, Option.bind_some, if_false]
        exact ih
      · have hlk : lst cs k = some cs[k - 1] := by
          unfold lst
          rw [if_neg hk0, List.getElem?_eq_getElem (by omega)]
        rw [hlk, Option.getD_some, decide_eq_true (show (k : Int) > 0 by omega), show (true == true) = true from rfl, cond_true, idx_int (k := k - 1) (by rw [wr_ok (by omega) (by omega)]; omega) (by omega)]
        simp only [Option.bind_some]
        by_cases h7 : c ≤ cs[k - 1]
        · simp [h7]
        · simp only [decide_eq_false h7, cond_false, if_neg h7]
          exact ih
    · rw [decide_eq_false (show ¬ (k : Int) < (cs.length : Int) by omega), cond_false, List.drop_of_length_le (by omega), show idx cs 0 = some cs[0] from idx_int (k := 0) rfl h0]
      simp only [Option.bind_some, chkl, if_true]
      have hh : cs.headD 0 = cs[0] := by cases cs with | nil => simp at h0 | cons a l => rfl
      have h1 := hp 0 h0 (by omega)
      rw [hh]
      by_cases h5 : cs[0] > 1
      · rw [decide_eq_true h5, cond_true, if_neg (by omega)]
      · rw [decide_eq_false h5, cond_false, if_pos (by omega)]
theorem chk_eq {n : Nat × Nat} (hn : 1000 ≤ n.1) (cs : List Int) : D25 n cs = some (chk cs) := by
  unfold D25 chk
  by_cases h0 : cs.length = 0
  · simp [h0]
  rw [show (((cs.length : Int)) == 0) = false by simpa using h0, cond_false, if_neg h0]
  by_cases h8 : 6 < cs.length
  · rw [decide_eq_true (show (cs.length : Int) > 6 by omega), cond_true, if_pos h8]
  · rw [decide_eq_false (show ¬ (cs.length : Int) > 6 by omega), cond_false, if_neg h8]
    have := chk_loop n cs (by omega) (by omega) n.1 0 (by omega) (by omega) (fun j hj hjk => by omega)
    simpa [lst] using this
/-- Good coins to pay with. -/
structure Vld (cs : List Int) : Prop where
  pos : 0 < cs.length
  len : cs.length ≤ 6
  rng : ∀ c ∈ cs, 1 ≤ c ∧ c ≤ 40
  inc : cs.Pairwise (· < ·)
  one : cs.headD 0 = 1
theorem chkl_spec : ∀ (l : List Int) (p : Option Int), chkl p l = 0 → (∀ c ∈ l, 1 ≤ c ∧ c ≤ 40) ∧ l.Pairwise (· < ·) ∧ ∀ q, p = some q → ∀ c ∈ l, q < c
  | [], p, _ => ⟨by simp, List.Pairwise.nil, by simp⟩
  | c :: l, p, h => by
    simp only [chkl] at h
    split at h
    · cases h
    rename_i h1
    split at h
    · cases h
    rename_i h2
    obtain ⟨a, b, d⟩ := chkl_spec l (some c) h
    refine ⟨fun x hx => ?_, List.pairwise_cons.2 ⟨fun x hx => d c rfl x hx, b⟩, fun q hq x hx => ?_⟩
    · rcases List.mem_cons.1 hx with rfl | hx
      · omega
      · exact a x hx
    · subst hq
      rw [Option.getD_some] at h2
      rcases List.mem_cons.1 hx with rfl | hx
      · omega
      · have := d c rfl x hx; omega
theorem chkl_zero : ∀ (l : List Int) (p : Option Int), (∀ c ∈ l, 1 ≤ c ∧ c ≤ 40) → l.Pairwise (· < ·) → (∀ q, p = some q → ∀ c ∈ l, q < c) → chkl p l = 0
  | [], _, _, _, _ => rfl
  | c :: l, p, a, b, d => by
    have h1 := a c (by simp)
    have h2 := List.pairwise_cons.1 b
    have ih := chkl_zero l (some c) (fun x hx => a x (by simp [hx])) h2.2 (fun q hq x hx => by cases hq; exact h2.1 x hx)
    simp only [chkl]
    rw [if_neg (by omega)]
    have : ¬ c ≤ p.getD 0 := by
      cases p with
      | none => simp; omega
      | some q => have := d q rfl c (by simp); simp; omega
    rw [if_neg this]
    exact ih
theorem chk_vld {cs : List Int} (h : chk cs = 0) : Vld cs := by
  unfold chk at h
  split at h
  · cases h
  split at h
  · cases h
  split at h
  · rename_i h3
    split at h
    · rename_i h4
      obtain ⟨a, b, _⟩ := chkl_spec cs none h3
      exact ⟨by omega, by omega, a, b, h4⟩
    · cases h
  · rename_i h3
    exact absurd h h3
theorem vld_chk {cs : List Int} (h : Vld cs) : chk cs = 0 := by
  unfold chk
  have h1 := h.pos
  have h2 := h.len
  rw [if_neg (by omega), if_neg (by omega), chkl_zero cs none h.rng h.inc (fun q hq => by cases hq), if_pos rfl, if_pos h.one]
theorem Vld.mnt {cs : List Int} (h : Vld cs) : Mnt cs := by
  refine ⟨?_, fun c hc => (h.rng c hc).1⟩
  have h1 := h.one
  have h2 := h.pos
  cases cs with
  | nil => simp at h2
  | cons a l => simp at h1; simp [h1]
def smd (cs : List Int) (s : Int) : Int := if chk cs = 0 then (if s < 0 ∨ 200 < s then 1 else 0) else chk cs
theorem smd_eq {n : Nat × Nat} (hn : 1000 ≤ n.1) (cs : List Int) (s : Int) : D56 n cs s = some (smd cs s) := by
  unfold D56 smd
  rw [chk_eq hn]
  simp only [Option.bind_some]
  by_cases h : chk cs = 0
  · by_cases h1 : s < 0
    · simp [h, h1]
    · by_cases h2 : s > 200
      · simp [h, h1, h2]
      · simp [h, h1, h2]
  · rw [show (chk cs == 0) = false by simpa using h]; simp [h]
theorem smd_zero {cs : List Int} {s : Int} (h : smd cs s = 0) : Vld cs ∧ 0 ≤ s ∧ s ≤ 200 := by
  unfold smd at h
  split at h
  · rename_i h1
    split at h
    · cases h
    · exact ⟨chk_vld h1, by omega, by omega⟩
  · rename_i h1; exact absurd h h1
theorem smd_ok {cs : List Int} {s : Int} (h : Vld cs) (h1 : 0 ≤ s) (h2 : s ≤ 200) : smd cs s = 0 := by
  unfold smd
  rw [if_pos (vld_chk h), if_neg (by omega)]
/-! ### The fewest coins of each sum -/
noncomputable def ftab (cs : List Int) (M : Nat) : List Int := (List.range (M + 1)).map fun i => opt cs (i : Nat)
theorem ftab_length (cs : List Int) (M : Nat) : (ftab cs M).length = M + 1 := by simp [ftab]
theorem ftab_get (cs : List Int) (M : Nat) {i : Nat} (h : i < (ftab cs M).length) : (ftab cs M)[i] = opt cs (i : Nat) := by simp [ftab]
theorem ftab_succ (cs : List Int) (M : Nat) : ftab cs (M + 1) = ftab cs M ++ [opt cs ((M + 1 : Nat) : Int)] := by
  unfold ftab
  rw [List.range_succ, List.map_append]
  rfl
/-- The fewest coins, so far. -/
noncomputable def mnf (cs : List Int) (s : Int) : List Int → Int → Int
  | [], v => v
  | c :: l, v => mnf cs s l (if c ≤ s then (if 1 + opt cs (s - c) < v then 1 + opt cs (s - c) else v) else v)
theorem mnf_ge {cs : List Int} (hc : Mnt cs) {s : Int} : ∀ (l : List Int), (∀ c ∈ l, c ∈ cs) → ∀ v, opt cs s ≤ v → opt cs s ≤ mnf cs s l v
  | [], _, v, h => h
  | c :: l, hl, v, h => by
    refine mnf_ge hc l (fun x hx => hl x (by simp [hx])) _ ?_
    split
    · have := opt_less hc (hl c (by simp)) (s := s) (by assumption)
      split <;> omega
    · exact h
theorem mnf_le {cs : List Int} {s : Int} : ∀ (l : List Int) (v : Int), mnf cs s l v ≤ v
  | [], v => Int.le_refl v
  | c :: l, v => by
    refine Int.le_trans (mnf_le l _) ?_
    split
    · split <;> omega
    · exact Int.le_refl v
theorem mnf_hit {cs : List Int} {s c : Int} : ∀ (l : List Int) (v : Int), c ∈ l → c ≤ s → mnf cs s l v ≤ 1 + opt cs (s - c)
  | [], v, h, _ => by cases h
  | d :: l, v, h, hs => by
    rcases List.mem_cons.1 h with rfl | h
    · refine Int.le_trans (mnf_le l _) ?_
      rw [if_pos hs]
      split <;> omega
    · exact mnf_hit l _ h hs
theorem mnf_eq {cs : List Int} (hc : Mnt cs) {s : Int} (hs : 0 < s) : mnf cs s cs s = opt cs s := by
  obtain ⟨c, h1, h2, h3⟩ := opt_step hc hs
  have a := mnf_ge hc cs (fun c h => h) s (opt_self hc (by omega))
  have b := mnf_hit (cs := cs) cs s h1 h2
  omega
theorem few_inner (n : Nat × Nat) {cs : List Int} (hv : Vld cs) (f1 : List Int → Int → Int → List Int → Option R57) (M : Int) (s : Nat) (hs : 0 < s) (hsM : s ≤ 1000) : ∀ (m k : Nat) (v : Int), k ≤ cs.length → cs.length - k < m → 0 ≤ v → v ≤ s →
    DL57_2 n f1 m cs M (s : Int) v cs (cs.length : Int) (k : Int) (ftab cs (s - 1)) = f1 cs M ((s : Int) + 1) (ftab cs (s - 1) ++ [mnf cs s (cs.drop k) v])
  | 0, k, v, _, h, _, _ => by omega
  | m + 1, k, v, hk, h, hv0, hvs => by
    have hl := hv.len
    rw [DL57_2_succ]
    unfold DF57_2
    by_cases hlt : k < cs.length
    · obtain ⟨hc1, hc2⟩ := hv.rng cs[k] (List.getElem_mem _)
      rw [decide_eq_true (show (k : Int) < (cs.length : Int) by omega), cond_true, idx_nat hlt, drop_cons hlt]
      simp only [Option.bind_some, mnf]
      generalize cs[k] = c at hc1 hc2
      have ih := few_inner n hv f1 M s hs hsM m (k + 1)
      rw [show ((k + 1 : Nat) : Int) = wr .i64 ((k : Int) + 1) by rw [wr_ok (by omega) (by omega)]; omega] at ih
      by_cases hcs : c ≤ (s : Int)
      · obtain ⟨d, hd⟩ : ∃ d : Nat, (s : Int) - c = d := ⟨((s : Int) - c).toNat, by omega⟩
        have hd1 : wr .i64 ((s : Int) - c) = d := by rw [wr_ok (by omega) (by omega)]; exact hd
        have hdl : d < (ftab cs (s - 1)).length := by rw [ftab_length]; omega
        have ho0 := opt_nonneg hv.mnt (s := (d : Int)) (by omega)
        have ho1 := opt_self hv.mnt (s := (d : Int)) (by omega)
        rw [decide_eq_true hcs, cond_true, hd1, inB_nat hdl, cond_true, idx_nat hdl, ftab_get]
        simp only [Option.bind_some, DL57_3]
        rw [wr_ok (x := 1 + opt cs (d : Nat)) (by omega) (by omega), if_pos hcs, hd]
        exact ih _ (by omega) (by omega) (by split <;> omega) (by split <;> omega)
      · rw [decide_eq_false hcs, cond_false, if_neg hcs]
        simp only [DL57_3]
        exact ih _ (by omega) (by omega) hv0 hvs
    · rw [decide_eq_false (show ¬ (k : Int) < (cs.length : Int) by omega), cond_false, List.drop_of_length_le (by omega), decide_eq_true (by rw [ftab_length]; simp [lim]; omega), cond_true, wr_ok (by omega) (by omega)]
      rfl
theorem few_loop (n : Nat × Nat) (hn : 1000 ≤ n.1) {cs : List Int} (hv : Vld cs) (M : Nat) (hM : M ≤ 900) : ∀ (m s : Nat), 0 < s → s ≤ M + 1 → M + 1 - s < m → DL57_1 n m cs (M : Int) (s : Int) (ftab cs (s - 1)) = some (ftab cs M)
  | 0, s, _, _, h => by omega
  | m + 1, s, hs, hsM, h => by
    have hl := hv.len
    rw [DL57_1_succ]
    unfold DF57_1
    by_cases hlt : s ≤ M
    · rw [decide_eq_true (show (s : Int) ≤ (M : Int) by omega), cond_true]
      have hi := few_inner n hv (DL57_1 n m) (M : Int) s hs (by omega) n.1 0 s (by omega) (by omega) (by omega) (by omega)
      rw [show ((0 : Nat) : Int) = 0 from rfl, List.drop_zero, mnf_eq hv.mnt (by omega)] at hi
      have ih := few_loop n hn hv M hM m (s + 1) (by omega) (by omega) (by omega)
      have ht : ftab cs (s + 1 - 1) = ftab cs (s - 1) ++ [opt cs (s : Nat)] := by
        have := ftab_succ cs (s - 1)
        rw [show s - 1 + 1 = s by omega] at this
        exact this
      rw [ht] at ih
      rw [hi]
      exact ih
    · rw [decide_eq_false (show ¬ (s : Int) ≤ (M : Int) by omega), cond_false, show s - 1 = M by omega]
theorem few_eq {n : Nat × Nat} (hn : 1000 ≤ n.1) {cs : List Int} (hv : Vld cs) (M : Nat) (hM : M ≤ 900) : D57 n cs (M : Int) = some (ftab cs M) := by
  unfold D57
  have := few_loop n hn hv M hM n.1 1 (by omega) (by omega) (by omega)
  rw [show ftab cs (1 - 1) = [0] by simp [ftab, opt_zero hv.mnt]] at this
  exact this
end Go.Proofs.Ytjgmfdgpgdaclaa
/-
  Coins: the reference's table of the fewest coins.
-/
set_option linter.unusedVariables false
set_option linter.unusedSimpArgs false
namespace Go.Proofs.Ytjgmfdgpgdaclaa
open Go.Vi
/-- Reached in this round: from smaller sums, or from this one by the first coins. -/
def Qd (cs : List Int) (k s i : Nat) (x : Nat) : Prop := (∃ s' : Nat, s' < s ∧ opt cs s' = k ∧ ∃ c ∈ cs, (x : Int) = s' + c) ∨ (opt cs s = k ∧ ∃ c ∈ cs.take i, (x : Int) = s + c)
open Classical in
noncomputable def lay (cs : List Int) (k s i : Nat) (x : Nat) : Int := if opt cs x ≤ k then opt cs x else if Qd cs k s i x then (k : Int) + 1 else -1
theorem Qd.opt {cs : List Int} (hv : Vld cs) {k s i x : Nat} (h : Qd cs k s i x) : opt cs x ≤ (k : Int) + 1 := by
  rcases h with ⟨s', _, h1, c, hc, hx⟩ | ⟨h1, c, hc, hx⟩
  · have := opt_more hv.mnt hc (s := (s' : Int)) (by omega)
    rw [hx]; omega
  · have := opt_more hv.mnt (List.mem_of_mem_take hc) (s := (s : Int)) (by omega)
    rw [hx]; omega
end Go.Proofs.Ytjgmfdgpgdaclaa
set_option linter.unusedVariables false
namespace Go.Proofs.Ytjgmfdgpgdaclaa
open Go.Vi
abbrev N : Nat × Nat := (10000, 1)
end Go.Proofs.Ytjgmfdgpgdaclaa
set_option linter.unusedVariables false
set_option linter.unusedSimpArgs false
namespace Go.Proofs.Ytjgmfdgpgdaclaa
open Go.Vi
/-- What the coins add to the next round's sums. -/
def adds (M : Nat) (s : Nat) (l : List Int) : List Int := (l.map fun c => (s : Int) + c).filter fun t => decide (t ≤ (M : Int))
/-- In round k: sums with fewer coins are known, and those of k coins that were met. -/
structure Rd (cs : List Int) (M k : Nat) (F : Nat → Int) : Prop where
  val : ∀ x, x ≤ M → F x = opt cs x ∨ F x = -1
  low : ∀ x, x ≤ M → opt cs x < k → F x = opt cs x
  top : ∀ x, x ≤ M → F x = opt cs x → opt cs x ≤ k
theorem gr_cons (c : Int) (l : List Int) (s : Int) : gr (c :: l) s = ((gr l s).2.2 / c :: (gr l s).1, (gr l s).2.1 + (gr l s).2.2 / c, (gr l s).2.2 - (gr l s).2.2 / c * c) := rfl
theorem gr_length : ∀ (l : List Int) (s : Int), (gr l s).1.length = l.length
  | [], s => rfl
  | c :: l, s => by rw [gr_cons]; simp [gr_length l s]
theorem gr_rest {l : List Int} : ∀ (hp : ∀ c ∈ l, 1 ≤ c) {s : Int}, 0 ≤ s → 0 ≤ (gr l s).2.2 ∧ (gr l s).2.2 ≤ s := by
  induction l with
  | nil => intro hp s hs; exact ⟨hs, Int.le_refl s⟩
  | cons c l ih =>
    intro hp s hs
    obtain ⟨h1, h2⟩ := ih (fun c h => hp c (by simp [h])) hs
    have hc := hp c (by simp)
    have h3 := Int.emod_nonneg (gr l s).2.2 (show c ≠ 0 by omega)
    have h4 := Int.mul_ediv_add_emod (gr l s).2.2 c
    have h5 := Int.ediv_nonneg h1 (show 0 ≤ c by omega)
    have h6 : 0 ≤ (gr l s).2.2 / c * c := Int.mul_nonneg h5 (by omega)
    rw [Int.mul_comm] at h4
    rw [gr_cons]
    simp only
    omega
theorem gr_tot : ∀ (l : List Int) (s : Int), tot (gr l s).1 = (gr l s).2.1
  | [], s => rfl
  | c :: l, s => by rw [gr_cons]; simp only [tot]; rw [gr_tot l s]; omega
theorem gr_zero : ∀ (l : List Int), (gr l 0).1 = List.replicate l.length 0 ∧ (gr l 0).2 = (0, 0)
  | [] => ⟨rfl, rfl⟩
  | c :: l => by
    obtain ⟨h1, h2⟩ := gr_zero l
    rw [gr_cons, h1, h2]
    simp [List.replicate_succ]
theorem gr_over {l : List Int} {s : Int} (h0 : 0 ≤ s) : (∀ c ∈ l, s < c) → gr l s = (List.replicate l.length 0, 0, s) := by
  induction l with
  | nil => intro _; rfl
  | cons c l ih =>
    intro h
    rw [gr_cons, ih (fun x hx => h x (by simp [hx]))]
    simp only
    rw [Int.ediv_eq_zero_of_lt h0 (h c (by simp))]
    simp [List.replicate_succ]
theorem Vld.cons {cs : List Int} (h : Vld cs) : ∃ l, cs = 1 :: l := by
  have h1 := h.one
  have h2 := h.pos
  cases cs with
  | nil => simp at h2
  | cons a l => simp at h1; exact ⟨l, by rw [h1]⟩
theorem gr_done {cs : List Int} (h : Vld cs) (s : Int) : (gr cs s).2.2 = 0 := by
  obtain ⟨l, rfl⟩ := h.cons
  rw [gr_cons]
  simp only [Int.ediv_one]
  omega
theorem gr_sub {l : List Int} : ∀ (hp : ∀ c ∈ l, 1 ≤ c) {s : Int}, 0 ≤ s → PayU l (s - (gr l s).2.2) (gr l s).1 := by
  induction l with
  | nil => intro hp s hs; exact ⟨by show s - s = 0; omega, rfl⟩
  | cons c l ih =>
    intro hp s hs
    have hr := gr_rest (l := l) (fun c h => hp c (by simp [h])) hs
    have hc := hp c (by simp)
    have h5 := Int.ediv_nonneg hr.1 (show 0 ≤ c by omega)
    rw [gr_cons]
    refine ⟨_, _, rfl, h5, ?_⟩
    have := ih (fun c h => hp c (by simp [h])) hs
    simp only
    rwa [show s - ((gr l s).2.2 - (gr l s).2.2 / c * c) - (gr l s).2.2 / c * c = s - (gr l s).2.2 by omega]
theorem gr_payU {cs : List Int} (h : Vld cs) {s : Int} (hs : 0 ≤ s) : PayU cs s (gr cs s).1 := by
  have := gr_sub (fun c hc => (h.rng c hc).1) hs
  rwa [gr_done h s, Int.sub_zero] at this
theorem great_eq {n : Nat × Nat} {cs : List Int} (h : Vld cs) {s : Int} (h0 : 0 ≤ s) (h1 : s ≤ 1000000) : D63 n cs s = some ((gr cs s).1, (gr cs s).2.1) := by
  unfold D63 HF63
  have hl := h.len
  have hp := h.pos
  have hb : ((cs.all fun c => decide (1 ≤ c) && decide (c ≤ 1073741824)) && (decide (0 ≤ s) && decide (s ≤ 1073741824)) && (decide (0 < cs.length) && decide (cs.length ≤ 1048576))) = true := by
    simp only [Bool.and_eq_true, decide_eq_true_eq, List.all_eq_true]
    exact ⟨⟨fun c hc => by have := h.rng c hc; omega, h0, by omega⟩, hp, by omega⟩
  rw [hb, cond_true]
/-! ### Greatest coins, one by one -/
def bump (l : List Int) (i : Nat) : List Int := l.set i (l[i]?.getD 0 + 1)
theorem gr_step : ∀ {l : List Int} (hp : ∀ c ∈ l, 1 ≤ c) {s : Int} {i : Nat} (hi : i < l.length), l[i] ≤ s → (∀ j (hj : j < l.length), i < j → s < l[j]) →
    (gr l s).1 = bump (gr l (s - l[i])).1 i ∧ (gr l s).2.1 = (gr l (s - l[i])).2.1 + 1 ∧ (gr l s).2.2 = (gr l (s - l[i])).2.2
  | [], _, _, _, hi, _, _ => by simp at hi
  | c :: l, hp, s, 0, hi, hle, hov => by
    have hc := hp c (by simp)
    simp only [List.getElem_cons_zero] at hle ⊢
    have ho : ∀ x ∈ l, s < x := fun x hx => by
      obtain ⟨j, hj, rfl⟩ := List.getElem_of_mem hx
      have := hov (j + 1) (by simp; omega) (by omega)
      simpa using this
    have e1 := gr_over (l := l) (s := s) (by omega) ho
    have e2 := gr_over (l := l) (s := s - c) (by omega) (fun x hx => by have := ho x hx; omega)
    rw [gr_cons, gr_cons, e1, e2]
    have h2 : (s - c) / c = s / c - 1 := by
      have := Int.add_mul_ediv_right s (-1) (show c ≠ 0 by omega)
      rw [show s + -1 * c = s - c by omega] at this
      omega
    simp only [bump, h2]
    refine ⟨?_, by omega, ?_⟩
    · simp
    · rw [Int.sub_mul]; omega
  | c :: l, hp, s, i + 1, hi, hle, hov => by
    have hc := hp c (by simp)
    simp only [List.getElem_cons_succ] at hle ⊢
    obtain ⟨h1, h2, h3⟩ := gr_step (l := l) (fun x hx => hp x (by simp [hx])) (s := s) (i := i) (by simpa using hi) hle (fun j hj hij => by
      have := hov (j + 1) (by simp; omega) (by omega)
      simpa using this)
    rw [gr_cons, gr_cons, h1, h2, h3]
    simp only [bump]
    refine ⟨?_, by omega, trivial⟩
    simp
def zad (a b : List Int) : List Int := List.zipWith (· + ·) a b
theorem zad_zero : ∀ (a : List Int) (k : Nat), k = a.length → zad a (List.replicate k 0) = a
  | [], k, h => by subst h; rfl
  | x :: a, k, h => by
    subst h
    have := zad_zero a a.length rfl
    unfold zad at *
    simp only [List.length_cons, List.replicate_succ, List.zipWith_cons_cons, this, Int.add_zero]
theorem zero_zad : ∀ (a : List Int) (k : Nat), k = a.length → zad (List.replicate k 0) a = a
  | [], k, h => by subst h; rfl
  | x :: a, k, h => by
    subst h
    have := zero_zad a a.length rfl
    unfold zad at *
    simp only [List.length_cons, List.replicate_succ, List.zipWith_cons_cons, this, Int.zero_add]
theorem zad_bump : ∀ (a b : List Int) (i : Nat), a.length = b.length → i < a.length → zad (bump a i) b = zad a (bump b i)
  | [], _, i, _, h => by simp at h
  | x :: a, [], i, h, _ => by simp at h
  | x :: a, y :: b, 0, h, hi => by
    simp only [zad, bump, List.set_cons_zero, List.getElem?_cons_zero, Option.getD_some, List.zipWith_cons_cons]
    congr 1
    omega
  | x :: a, y :: b, i + 1, h, hi => by
    have := zad_bump a b i (by simpa using h) (by simpa using hi)
    simp only [zad, bump, List.set_cons_succ, List.getElem?_cons_succ, List.zipWith_cons_cons] at this ⊢
    rw [this]
theorem og_find (n : Nat × Nat) {cs : List Int} (h : Vld cs) (f1 : List Int → Int → Int → List Int → Option R45) (r v : Int) (out : List Int) (hr : 1 ≤ r) (hr2 : r ≤ 1000000) (hol : out.length = cs.length) (hob : ∀ x ∈ out, 0 ≤ x ∧ x ≤ 1000000) (hv0 : 0 ≤ v) (hv1 : v ≤ 1000000) :
    ∀ (m i : Nat) (hi : i < cs.length), i < m → (∀ j (hj : j < cs.length), i < j → r < cs[j]) →
    ∃ i' : Nat, ∃ hi' : i' < cs.length, cs[i'] ≤ r ∧ (∀ j (hj : j < cs.length), i' < j → r < cs[j]) ∧ DL45_2 n f1 m cs r v (i : Int) out = f1 cs (r - cs[i']) (v + 1) (bump out i')
  | 0, i, _, hm, _ => by omega
  | m + 1, i, hi, hm, hov => by
    have hl := h.len
    rw [DL45_2_succ]
    unfold DF45_2
    rw [idx_nat hi]
    simp only [Option.bind_some]
    have hc := h.rng cs[i] (List.getElem_mem _)
    by_cases hgt : cs[i] > r
    · rw [decide_eq_true hgt, cond_true]
      have hi0 : i ≠ 0 := by
        rintro rfl
        obtain ⟨l, hcl⟩ := h.cons
        have : cs[0] = 1 := by simp [hcl]
        omega
      obtain ⟨i', hi', a, b, c⟩ := og_find n h f1 r v out hr hr2 hol hob hv0 hv1 m (i - 1) (by omega) (by omega) (fun j hj hij => by
        by_cases e : j = i
        · subst e; omega
        · exact hov j hj (by omega))
      rw [show wr .i64 ((i : Int) - 1) = ((i - 1 : Nat) : Int) by rw [wr_ok (by omega) (by omega)]; omega]
      exact ⟨i', hi', a, b, c⟩
    · rw [decide_eq_false hgt, cond_false]
      have hio : i < out.length := by omega
      have hx := hob out[i] (List.getElem_mem _)
      rw [inB_nat hio, cond_true, idx_nat hio]
      simp only [Option.bind_some]
      rw [wr_ok (x := r - cs[i]) (by omega) (by omega), wr_ok (x := v + 1) (by omega) (by omega), wr_ok (x := out[i] + 1) (by omega) (by omega), Int.toNat_natCast]
      refine ⟨i, hi, by omega, hov, ?_⟩
      unfold bump
      rw [List.getElem?_eq_getElem hio]
      rfl
theorem og_loop (n : Nat × Nat) (hn : 1000 ≤ n.1) {cs : List Int} (h : Vld cs) (S : Int) (hS : S ≤ 1000000) : ∀ (m : Nat) (r v : Int) (out : List Int), 0 ≤ r → r < m → out.length = cs.length → (∀ x ∈ out, 0 ≤ x ∧ x + r ≤ S) → 0 ≤ v → v + r ≤ S →
    DL45_1 n m cs r v out = some (zad out (gr cs r).1, v + (gr cs r).2.1)
  | 0, r, v, out, h0, hm, _, _, _, _ => by omega
  | m + 1, r, v, out, h0, hm, hol, hob, hv0, hv1 => by
    have hl := h.len
    have hp := h.pos
    rw [DL45_1_succ]
    unfold DF45_1
    by_cases hr : r > 0
    · rw [decide_eq_true hr, cond_true]
      obtain ⟨i, hi, a, b, c⟩ := og_find n h (DL45_1 n m) r v out (by omega) (by omega) hol (fun x hx => by have := hob x hx; omega) hv0 (by omega) n.1 (cs.length - 1) (by omega) (by omega) (fun j hj hij => by omega)
      have hci := h.rng cs[i] (List.getElem_mem _)
      rw [show wr .i64 ((cs.length : Int) - 1) = ((cs.length - 1 : Nat) : Int) by rw [wr_ok (by omega) (by omega)]; omega, c]
      obtain ⟨h1, h2, h3⟩ := gr_step (fun c hc => (h.rng c hc).1) hi a b
      have hio : i < out.length := by omega
      rw [og_loop n hn h S hS m (r - cs[i]) (v + 1) (bump out i) (by omega) (by omega) (by simp [bump, hol]) (fun x hx => by
        unfold bump at hx
        rcases List.mem_or_eq_of_mem_set hx with hx | rfl
        · have := hob x hx; omega
        · rw [List.getElem?_eq_getElem hio]
          have := hob out[i] (List.getElem_mem _)
          simp only [Option.getD_some]
          omega) (by omega) (by omega)]
      rw [h1, h2, zad_bump _ _ _ (by rw [gr_length]; exact hol) hio]
      congr 2
      omega
    · rw [decide_eq_false hr, cond_false, show r = 0 by omega]
      obtain ⟨h1, h2⟩ := gr_zero cs
      rw [h1, h2, zad_zero out cs.length hol.symm]
      simp
theorem ogreat_eq {n : Nat × Nat} (hn : 1000 ≤ n.1) {cs : List Int} (h : Vld cs) {s : Int} (h0 : 0 ≤ s) (h1 : s < n.1) (h2 : s ≤ 1000000) : D45 n cs s = some ((gr cs s).1, (gr cs s).2.1) := by
  unfold D45
  have hl := h.len
  rw [decide_eq_true (show (0 : Int) ≤ (cs.length : Int) by omega), decide_eq_true (Int.le_refl _), decide_eq_true (show (cs.length : Int) ≤ lim by simp [lim]; omega), Bool.and_self, Bool.and_self, cond_true, Int.toNat_natCast]
  rw [og_loop n hn h s h2 n.1 s 0 (List.replicate cs.length 0) h0 h1 (by simp) (fun x hx => by
    have := List.eq_of_mem_replicate hx
    omega) (Int.le_refl 0) (by omega), zero_zad _ _ (gr_length cs s).symm]
  simp
/-! ### One coin more -/
theorem Vld.snoc {cs : List Int} (h : Vld cs) (h6 : cs.length < 6) {c : Int} (hc : cs[cs.length - 1]?.getD 0 < c) (h40 : c ≤ 40) : Vld (cs ++ [c]) := by
  have hp := h.pos
  have hlt : cs.length - 1 < cs.length := by omega
  rw [List.getElem?_eq_getElem hlt, Option.getD_some] at hc
  have hall : ∀ x ∈ cs, x ≤ cs[cs.length - 1] := fun x hx => by
    obtain ⟨j, hj, rfl⟩ := List.getElem_of_mem hx
    by_cases e : j = cs.length - 1
    · subst e; exact Int.le_refl _
    · have := List.pairwise_iff_getElem.1 h.inc j (cs.length - 1) hj hlt (by omega)
      omega
  have hl1 := h.rng cs[cs.length - 1] (List.getElem_mem _)
  refine ⟨by simp, by simp; omega, fun x hx => ?_, ?_, ?_⟩
  · rcases List.mem_append.1 hx with hx | hx
    · exact h.rng x hx
    · simp at hx; omega
  · rw [List.pairwise_append]
    exact ⟨h.inc, by simp, fun a ha b hb => by simp at hb; have := hall a ha; omega⟩
  · obtain ⟨l, rfl⟩ := h.cons
    rfl
theorem works_eq : D17 N = some true := by kernel_rfl
/-! ### Payments that prove it -/
def cnt (cs l : List Int) : Int := if l.length ≠ cs.length then 5 else if (∀ x ∈ l, 0 ≤ x ∧ x ≤ 200) then 0 else 1
end Go.Proofs.Ytjgmfdgpgdaclaa
