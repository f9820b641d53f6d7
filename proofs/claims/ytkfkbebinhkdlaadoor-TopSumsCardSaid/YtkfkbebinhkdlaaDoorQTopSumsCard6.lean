/- Texts of this claim, joined: Fl to G107. -/
import Derived.BigRegion
import Derived.ChangeAlike
import Derived.Deep.RegionWith
import Derived.KernelRfl
import Derived.Lib.Hide
import Derived.LoopTactic
import Derived.Outline
import Derived.RegionTactic
import Derived.StillTailTactics
import Derived.Test.YtkfkbebinhkdlaaDoorProg
import Derived.WalkKit
import Derived.Test.YtkfkbebinhkdlaaDoorQTopSumsCard5
set_option linter.unusedVariables false
namespace Go.Proofs.YtkfkbebinhkdlaaDoor
/-- How many pages stand. -/
def cntF (f : Nat) : Nat := ((List.range 6).filter fun p => f.testBit p).length
/-- Which pages stand. -/
def bitsF (f : Nat) : List Nat := (List.range 6).filter fun p => f.testBit p
def addF (f p : Nat) : Nat := f ||| 2 ^ p
def swF (f p g : Nat) : Nat := (bif f.testBit g then f - 2 ^ g else f) ||| 2 ^ p
/-- The smallest value. -/
def mnl (v : Nat → Int) : List Nat → Int
  | [] => 0
  | g :: l => l.foldl (fun m g => bif decide (v g < m) then v g else m) (v g)
theorem mnl_snoc (v : Nat → Int) (l : List Nat) (g : Nat) (h : l ≠ []) : mnl v (l ++ [g]) = bif decide (v g < mnl v l) then v g else mnl v l := by
  cases l with
  | nil => exact absurd rfl h
  | cons x l =>
    show List.foldl _ _ (l ++ [g]) = _
    rw [List.foldl_append]
    rfl
theorem mnl_mem (v : Nat → Int) (l : List Nat) (h : l ≠ []) : ∃ g ∈ l, mnl v l = v g := by
  have key : ∀ (l : List Nat) (m : Int), l.foldl (fun m g => bif decide (v g < m) then v g else m) m = m ∨ ∃ g ∈ l, l.foldl (fun m g => bif decide (v g < m) then v g else m) m = v g := by
    intro l
    induction l with
    | nil => intro m; exact .inl rfl
    | cons x l ih =>
      intro m
      simp only [List.foldl_cons]
      rcases ih (bif decide (v x < m) then v x else m) with h | ⟨g, hg, h⟩
      · by_cases hx : v x < m
        · rw [h, decide_eq_true hx, cond_true]
          exact .inr ⟨x, by simp, rfl⟩
        · rw [h, decide_eq_false hx, cond_false]
          exact .inl rfl
      · exact .inr ⟨g, by simp [hg], h⟩
  cases l with
  | nil => exact absurd rfl h
  | cons x l =>
    rcases key l (v x) with h | ⟨g, hg, h⟩
    · exact ⟨x, by simp, h⟩
    · exact ⟨g, by simp [hg], h⟩
/-- The fewest settings, from a floor on. -/
def lst (room : Nat) : List Nat → Nat → Int
  | [], _ => 0
  | p :: ps, f => bif f.testBit p then lst room ps f else bif decide (cntF f < room) then 1 + lst room ps (addF f p) else mnl (fun g => 1 + lst room ps (swF f p g)) (bitsF f)
def all6 (q : Nat → Bool) : Bool := (List.range 6).all q
def all64 (q : Nat → Bool) : Bool := (List.range 64).all q
theorem all6_get {q : Nat → Bool} (h : all6 q = true) {p : Nat} (hp : p < 6) : q p = true := List.all_eq_true.1 h p (List.mem_range.2 hp)
theorem all64_get {q : Nat → Bool} (h : all64 q = true) {p : Nat} (hp : p < 64) : q p = true := List.all_eq_true.1 h p (List.mem_range.2 hp)
theorem floors_ok : (all64 fun f => all6 fun p => Nat.blt (addF f p) 64 && (addF f p).testBit p && all6 fun g => Nat.blt (swF f p g) 64 && (swF f p g).testBit p) = true := by decide +kernel
theorem addF_lt {f p : Nat} (hf : f < 64) (hp : p < 6) : addF f p < 64 := by
  have := all6_get (all64_get floors_ok hf) hp
  simp only [Bool.and_eq_true, Nat.blt_eq] at this
  exact this.1.1
theorem swF_lt {f p g : Nat} (hf : f < 64) (hp : p < 6) (hg : g < 6) : swF f p g < 64 := by
  have := all6_get (all64_get floors_ok hf) hp
  simp only [Bool.and_eq_true] at this
  have := all6_get this.2 hg
  simp only [Bool.and_eq_true, Nat.blt_eq] at this
  exact this.1
theorem bitsF_lt {f g : Nat} (hg : g ∈ bitsF f) : g < 6 := by
  unfold bitsF at hg
  exact List.mem_range.1 (List.mem_filter.1 hg).1
theorem cntF_bits (f : Nat) : cntF f = (bitsF f).length := rfl
theorem lst_bd (room : Nat) (hr : 0 < room) : ∀ (ps : List Nat) (f : Nat), 0 ≤ lst room ps f ∧ lst room ps f ≤ ps.length
  | [], f => ⟨Int.le_refl _, Int.le_refl _⟩
  | p :: ps, f => by
    simp only [lst, List.length_cons]
    have hi := lst_bd room hr ps
    cases f.testBit p with
    | true => have := hi f; rw [cond_true]; omega
    | false =>
      rw [cond_false]
      cases hc : decide (cntF f < room) with
      | true => have := hi (addF f p); rw [cond_true]; omega
      | false =>
        rw [cond_false]
        have hne : bitsF f ≠ [] := fun e => by
          have : ¬ cntF f < room := of_decide_eq_false hc
          rw [cntF_bits, e] at this
          exact this hr
        obtain ⟨g, _, e⟩ := mnl_mem (fun g => 1 + lst room ps (swF f p g)) (bitsF f) hne
        rw [e]
        have := hi (swF f p g)
        omega
theorem lst_step {room : Nat} {ps : List Nat} {p f : Nat} (h : f.testBit p = true) : lst room (p :: ps) f = lst room ps f := by simp [lst, h]
theorem lst_add {room : Nat} {ps : List Nat} {p f : Nat} (h : f.testBit p = false) (hc : cntF f < room) : lst room (p :: ps) f = 1 + lst room ps (addF f p) := by simp [lst, h, hc]
theorem lst_sw {room : Nat} {ps : List Nat} {p f : Nat} (h : f.testBit p = false) (hc : ¬ cntF f < room) : lst room (p :: ps) f = mnl (fun g => 1 + lst room ps (swF f p g)) (bitsF f) := by simp [lst, h, hc]
end Go.Proofs.YtkfkbebinhkdlaaDoor
set_option linter.unusedVariables false
set_option linter.unusedSimpArgs false
set_option maxRecDepth 100000
namespace Go.Proofs.YtkfkbebinhkdlaaDoor
open Go.RowKit Go.Shelf
/-- What is known: the job, and for each time and floor nothing, or the fewest settings. -/
def Known (V : Nat → Nat → Int) (cur : Array Value) : Prop :=
  ∀ t f, t < 12 → f < 64 → ∃ s p : Int, cur[2 + t * 128 + f * 2]? = some (.int .i64 s) ∧ cur[2 + t * 128 + f * 2 + 1]? = some (.int .i64 p) ∧ (s = 0 ∧ p = 0 ∨ s = V t f)
structure Tbl (V : Nat → Nat → Int) (room : Nat) (a : Option Addr) (L cap b : Nat) (cur : Array Value) (W : World) : Prop where
  blk : Blk W b cur 106
  size : cur.size = 1538
  room : cur[0]? = some (.int .i64 room)
  pages : cur[1]? = some (.slice a L cap)
  known : Known V cur
/-- The fewest settings from a time on. -/
def Vs (room : Nat) (zs : List Int) (t f : Nat) : Int := lst room ((zs.drop t).map Int.toNat) f
set_option maxHeartbeats 4000000 in
theorem least_end (V : Nat → Nat → Int) (room : Nat) (a : Option Addr) (L cap b f : Nat) (cur : Array Value) (w : World) (hL : L ≤ 12) (hT : Tbl V room a L cap b cur w) :
    Calls Tryd.prog 47 #[.pointer (some ⟨b, 0, none⟩), .int .i64 L, .agg #[.int .u64 f]] w fun e W' => e = .returned (.agg #[.int .i64 0, .int .i64 1]) ∧ Below w.heap.size w W' := by
  have hb := hT.blk.lt
  have c1 := hT.blk.cell 1 hT.pages
  go_enter Tryd.func47, Tryd.ntmps47
  go_wp2
  refine bodyPost_ret (v := .agg #[.int .i64 0, .int .i64 1]) (by simp [results, Tryd.results47, go_sem]) rfl ⟨rfl, ?_⟩
  exact ((Below.refl _ w).alloc (Nat.le_refl _) _).alloc (by simp) _
/-- The boxes of a call. -/
structure Bx (w : World) (f : Nat) (o : Array Value) (W : World) : Prop where
  fl : Blk W w.heap.size #[.int .u64 f] 109
  out : Blk W (w.heap.size + 1) o 102
  size : W.heap.size = w.heap.size + 2
  low : Below w.heap.size w W
theorem Bx.start (w : World) (f : Nat) : Bx w f #[.int .i64 0, .int .i64 0] ((w.alloc (.cells #[.int .u64 f] 109)).alloc (.cells #[.int .i64 0, .int .i64 0] 102)) := by
  refine ⟨(Blk.new w _ _).alloc _, ?_, by simp, ((Below.refl _ w).alloc (Nat.le_refl _) _).alloc (by simp) _⟩
  have := Blk.new (w.alloc (.cells #[.int .u64 f] 109)) #[.int .i64 0, .int .i64 0] 102
  rwa [World.size_alloc] at this
theorem Blk.drew {W : World} {b : Nat} {cur : Array Value} {t : TypeId} (h : Blk W b cur t) : Blk W.drew b cur t := h
theorem least_res {tmps : Array Value} {W : World} {g : Nat} {s p : Int} (hp : tmps.getD 6 undef = .pointer (some ⟨g, 0, none⟩)) (hb : Blk W g #[.int .i64 s, .int .i64 p] 102) :
    (results Tryd.f47 tmps).run Tryd.prog W = .ok (.agg #[.int .i64 s, .int .i64 p]) W :=
  results_cell_row Tryd.results47 tmps W g 102 _ (0, 0) _ hp hb Tryd.underlying102 rfl (by kernel_rfl)
set_option maxHeartbeats 4000000 in
theorem least_known (V : Nat → Nat → Int) (room : Nat) (a : Option Addr) (L cap b t f : Nat) (s p : Int) (cur : Array Value) (w : World) (hL : L ≤ 12) (ht : t < L) (hf : f < 64) (hT : Tbl V room a L cap b cur w)
    (k1 : cur[2 + t * 128 + f * 2]? = some (.int .i64 s)) (k2 : cur[2 + t * 128 + f * 2 + 1]? = some (.int .i64 p)) (hn : ¬ (s = 0 ∧ p = 0)) :
    Calls Tryd.prog 47 #[.pointer (some ⟨b, 0, none⟩), .int .i64 t, .agg #[.int .u64 f]] w fun e W' => e = .returned (.agg #[.int .i64 s, .int .i64 p]) ∧ Below w.heap.size w W' := by
  have hb := hT.blk.lt
  have c1 := hT.blk.cell 1 hT.pages
  have ht1 : (t : Int) < 12 := by omega
  have ht2 : (t : Int) ≠ L := by omega
  have hf1 : (f : Int) < 64 := by omega
  have hbx := Bx.start w f
  go_enter Tryd.func47, Tryd.ntmps47
  go_wp2
  generalize World.alloc (World.alloc w _) _ = W1 at hbx ⊢
  have hb1 : b < W1.heap.size := by rw [hbx.size]; omega
  have c2 : W1.cell? ⟨b, 2 + t * 128 + f * 2, none⟩ = some (.int .i64 s) := (hbx.low.cell (p := ⟨b, _, none⟩) hb).trans (hT.blk.cell _ k1)
  have c3 : W1.cell? ⟨b, 2 + t * 128 + f * 2 + 1, none⟩ = some (.int .i64 p) := (hbx.low.cell (p := ⟨b, _, none⟩) hb).trans (hT.blk.cell _ k2)
  have c4 := hbx.fl.cell 0 rfl
  have c5 := hbx.out.cell 0 rfl
  have c6 := hbx.out.cell 1 rfl
  have c7 := hbx.out.frozen 0
  have c8 := hbx.out.frozen 1
  have n1 : w.heap.size < W1.heap.size := by rw [hbx.size]; omega
  have n2 : w.heap.size + 1 < W1.heap.size := by rw [hbx.size]; omega
  clear c1
  by_cases hs : s = 0
  · have hp : (p == 0) = false := by simpa using fun e => hn ⟨hs, e⟩
    subst hs
    clear hn k1 k2
    go_region
    go_wp2
    refine bodyPost_ret (v := .agg #[.int .i64 0, .int .i64 p]) (least_res rfl ?_) rfl ⟨rfl, ?_⟩
    · exact ((((hbx.out.set 0 _).set 1 _).alloc _).drew)
    · exact (((((hbx.low.setCell (p := ⟨_, _, none⟩) (Nat.le_succ _) _).setCell (p := ⟨_, _, none⟩) (Nat.le_succ _) _)).alloc (by simp; omega) _).drew)
  · have hs' : (s == 0) = false := by simpa using hs
    clear hn hs k1 k2
    go_region
    go_wp2
    refine bodyPost_ret (v := .agg #[.int .i64 s, .int .i64 p]) (least_res rfl ?_) rfl ⟨rfl, ?_⟩
    · exact ((((hbx.out.set 0 _).set 1 _).alloc _).drew)
    · exact (((((hbx.low.setCell (p := ⟨_, _, none⟩) (Nat.le_succ _) _).setCell (p := ⟨_, _, none⟩) (Nat.le_succ _) _)).alloc (by simp; omega) _).drew)
/-- The pages that are asked for. -/
def PgOK (zs : List Int) (a : Option Addr) (b : Nat) (W : World) : Prop :=
  ∀ j (h : j < zs.length), ∃ pb off, a = some ⟨pb, off, none⟩ ∧ pb ≠ b ∧ pb < W.heap.size ∧ W.cell? ⟨pb, off + j, none⟩ = some (.int .i64 zs[j])
theorem PgOK.grown {zs : List Int} {a : Option Addr} {b : Nat} {W W' : World} (h : PgOK zs a b W) (hg : W.grownBy W' (some b)) : PgOK zs a b W' := fun j hj => by
  obtain ⟨pb, off, h1, h2, h3, h4⟩ := h j hj
  exact ⟨pb, off, h1, h2, Nat.lt_of_lt_of_le h3 hg.size, (World.cell?_of_block (a := ⟨pb, off + j, none⟩) (hg.block pb h3 (by simpa using h2))).trans h4⟩
/-- What the search from a time and a floor gives. -/
def LeastAt (V : Nat → Nat → Int) (room : Nat) (a : Option Addr) (L cap b t f : Nat) (W : World) (e : Ending) (W' : World) : Prop :=
  ∃ (pl : Int) (cur : Array Value), e = .returned (.agg #[.int .i64 (V t f), .int .i64 pl]) ∧ Tbl V room a L cap b cur W' ∧ W.grownBy W' (some b)
theorem gb_below {W W' : World} {r : Option Nat} (h : Below W.heap.size W W') : W.grownBy W' r := ⟨h.os, h.tape, h.output, h.size, fun k hk _ => h.block k hk⟩
theorem gb_trans {W W1 W2 : World} {r : Option Nat} (h : W.grownBy W1 r) (h' : W1.grownBy W2 r) : W.grownBy W2 r :=
  ⟨h'.os.trans h.os, h'.tape.trans h.tape, h'.output.trans h.output, Nat.le_trans h.size h'.size, fun k hk hr => (h'.block k (Nat.lt_of_lt_of_le hk h.size) hr).trans (h.block k hk hr)⟩
theorem gb_alloc (W : World) (o : Obj) (r : Option Nat) : W.grownBy (W.alloc o) r := World.grownBy_alloc W o r
theorem gb_drew (W : World) (r : Option Nat) : W.grownBy W.drew r := ⟨rfl, rfl, rfl, Nat.le_refl _, fun _ _ _ => rfl⟩
theorem gb_set {W W1 : World} {b g j : Nat} {v : Value} (h : W.grownBy W1 (some b)) (hg : W.heap.size ≤ g ∨ g = b) : W.grownBy (W1.setCell ⟨g, j, none⟩ v) (some b) :=
  ⟨h.os, h.tape, h.output, Nat.le_trans h.size (KeepsWalks.setCell W1 _ _).size, fun k hk hr => (heap_setCell_other W1 ⟨g, j, none⟩ k v (by
    rcases hg with hg | hg
    · show k ≠ g
      omega
    · show k ≠ g
      rintro rfl
      exact hr (by rw [hg]))).trans (h.block k hk hr)⟩
theorem Tbl.other {V : Nat → Nat → Int} {room : Nat} {a : Option Addr} {L cap b : Nat} {cur : Array Value} {W W' : World} (h : Tbl V room a L cap b cur W) (hb : Blk W' b cur 106) : Tbl V room a L cap b cur W' := ⟨hb, h.size, h.room, h.pages, h.known⟩
theorem Tbl.store {V : Nat → Nat → Int} {room : Nat} {a : Option Addr} {L cap b : Nat} {cur : Array Value} {W : World} (h : Tbl V room a L cap b cur W) {t f : Nat} (ht : t < 12) (hf : f < 64) (p : Int) :
    Tbl V room a L cap b ((cur.setIfInBounds (2 + t * 128 + f * 2) (.int .i64 (V t f))).setIfInBounds (2 + t * 128 + f * 2 + 1) (.int .i64 p))
      ((W.setCell ⟨b, 2 + t * 128 + f * 2, none⟩ (.int .i64 (V t f))).setCell ⟨b, 2 + t * 128 + f * 2 + 1, none⟩ (.int .i64 p)) := by
  have hs := h.size
  refine ⟨(h.blk.set _ _).set _ _, by simpa using h.size, ?_, ?_, fun t' f' ht' hf' => ?_⟩
  · rw [Array.getElem?_setIfInBounds_ne (by omega), Array.getElem?_setIfInBounds_ne (by omega)]; exact h.room
  · rw [Array.getElem?_setIfInBounds_ne (by omega), Array.getElem?_setIfInBounds_ne (by omega)]; exact h.pages
  · by_cases e : t' = t ∧ f' = f
    · obtain ⟨rfl, rfl⟩ := e
      refine ⟨V t' f', p, ?_, ?_, .inr rfl⟩
      · rw [Array.getElem?_setIfInBounds_ne (by omega), Array.getElem?_setIfInBounds_self_of_lt (by omega)]
      · rw [Array.getElem?_setIfInBounds_self_of_lt (by simp; omega)]
    · obtain ⟨s, q, h1, h2, h3⟩ := h.known t' f' ht' hf'
      have hne : t' * 64 + f' ≠ t * 64 + f := by omega
      refine ⟨s, q, ?_, ?_, h3⟩
      · rw [Array.getElem?_setIfInBounds_ne (by omega), Array.getElem?_setIfInBounds_ne (by omega)]; exact h1
      · rw [Array.getElem?_setIfInBounds_ne (by omega), Array.getElem?_setIfInBounds_ne (by omega)]; exact h2
/-- Behind the look at what is known: nothing is known. -/
structure Bx2 (w : World) (b f n7 : Nat) (W : World) : Prop where
  fl : Blk W w.heap.size #[.int .u64 f] 109
  out : Blk W (w.heap.size + 1) #[.int .i64 0, .int .i64 0] 102
  size : w.heap.size + 1 < W.heap.size
  low : Below w.heap.size w W
theorem Bx.next {w W : World} {b f : Nat} (h : Bx w f #[.int .i64 0, .int .i64 0] W) (o : Obj) : Bx2 w b f W.heap.size (W.alloc o).drew :=
  ⟨(h.fl.alloc o).drew, (h.out.alloc o).drew, by have := h.size; simp; omega, (h.low.alloc (by rw [h.size]; omega) o).drew⟩
/-- What each of the walks is given. -/
structure Job (V : Nat → Nat → Int) (room : Nat) (zs : List Int) (a : Option Addr) (L cap b t f : Nat) (cur : Array Value) (w : World) : Prop where
  len : zs.length = L
  big : L ≤ 12
  time : t < L
  floor : f < 64
  tbl : Tbl V room a L cap b cur w
  pgs : PgOK zs a b w
  k1 : cur[2 + t * 128 + f * 2]? = some (.int .i64 0)
  k2 : cur[2 + t * 128 + f * 2 + 1]? = some (.int .i64 0)
  pag : ∀ z ∈ zs, 0 ≤ z ∧ z < 6
/-- What is left to do: what came out is known, too. -/
structure Rest (V : Nat → Nat → Int) (room : Nat) (a : Option Addr) (L cap b t f n9 : Nat) (pl : Int) (cur : Array Value) (w W : World) : Prop where
  fl : Blk W w.heap.size #[.int .u64 f] 109
  out : Blk W (w.heap.size + 1) #[.int .i64 0, .int .i64 0] 102
  res : Blk W n9 #[.int .i64 (V t f), .int .i64 pl] 102
  tbl : Tbl V room a L cap b cur W
  low : w.grownBy W (some b)
theorem Rest.fin {V : Nat → Nat → Int} {room : Nat} {a : Option Addr} {L cap b t f n9 : Nat} {pl : Int} {cur : Array Value} {w W : World} (h : Rest V room a L cap b t f n9 pl cur w W) (ht : t < 12) (hf : f < 64) (hb : b < w.heap.size) :
    Blk ((((((W.setCell ⟨b, 2 + t * 128 + f * 2, none⟩ (.int .i64 (V t f))).setCell ⟨b, 2 + t * 128 + f * 2 + 1, none⟩ (.int .i64 pl))).setCell ⟨w.heap.size + 1, 0, none⟩ (.int .i64 (V t f))).setCell ⟨w.heap.size + 1, 1, none⟩ (.int .i64 pl))) (w.heap.size + 1) #[.int .i64 (V t f), .int .i64 pl] 102 ∧
      ∃ cur', Tbl V room a L cap b cur' ((((((W.setCell ⟨b, 2 + t * 128 + f * 2, none⟩ (.int .i64 (V t f))).setCell ⟨b, 2 + t * 128 + f * 2 + 1, none⟩ (.int .i64 pl))).setCell ⟨w.heap.size + 1, 0, none⟩ (.int .i64 (V t f))).setCell ⟨w.heap.size + 1, 1, none⟩ (.int .i64 pl))) ∧
        w.grownBy ((((((W.setCell ⟨b, 2 + t * 128 + f * 2, none⟩ (.int .i64 (V t f))).setCell ⟨b, 2 + t * 128 + f * 2 + 1, none⟩ (.int .i64 pl))).setCell ⟨w.heap.size + 1, 0, none⟩ (.int .i64 (V t f))).setCell ⟨w.heap.size + 1, 1, none⟩ (.int .i64 pl))) (some b) := by
  have h1 := h.tbl.store ht hf pl
  refine ⟨(((h.out.other _ _ (by omega)).other _ _ (by omega)).set 0 _).set 1 _, _, h1.other ((h1.blk.other _ _ (by omega)).other _ _ (by omega)), ?_⟩
  exact gb_set (gb_set (gb_set (gb_set h.low (.inr rfl)) (.inr rfl)) (.inl (by omega))) (.inl (by omega))
set_option maxHeartbeats 4000000 in
theorem least_stand (V : Nat → Nat → Int) (room : Nat) (a : Option Addr) (L cap b t f : Nat) (zs : List Int) (cur : Array Value) (w : World) (h : Job V room zs a L cap b t f cur w) (hV : V t f = V (t + 1) f)
    (hbit : ∀ h : t < zs.length, (bits BinOp.and IntKind.u64 ((f : Int) / 2 ^ (zs[t]'h).toNat) 1 == 1) = true)
    (G : World → Prop) (hG : ∀ W, w.grownBy W (some b) → G W)
    (hrec : ∀ W cur, G W → Tbl V room a L cap b cur W → PgOK zs a b W → Calls Tryd.prog 47 #[.pointer (some ⟨b, 0, none⟩), .int .i64 ((t : Int) + 1), .agg #[.int .u64 f]] W (LeastAt V room a L cap b (t + 1) f W)) :
    Calls Tryd.prog 47 #[.pointer (some ⟨b, 0, none⟩), .int .i64 t, .agg #[.int .u64 f]] w (LeastAt V room a L cap b t f w) := by
  obtain ⟨hzl, hL, ht, hf, hT, hP, k1, k2, hp⟩ := h
  have hb := hT.blk.lt
  have c1 := hT.blk.cell 1 hT.pages
  have ht1 : (t : Int) < 12 := by omega
  have ht2 : (t : Int) ≠ L := by omega
  have ht3 : (t : Int) < L := by omega
  have hf1 : (f : Int) < 64 := by omega
  have htz : t < zs.length := by omega
  have hbit := hbit htz
  obtain ⟨hp0, hp1⟩ := hp zs[t] (List.getElem_mem _)
  have hbx := Bx.start w f
  obtain ⟨pb, off, rfl, hpb, hpw, hpc⟩ := hP t (by omega)
  go_enter Tryd.func47, Tryd.ntmps47
  go_wp2
  generalize World.alloc (World.alloc w _) _ = W1 at hbx ⊢
  have hb1 : b < W1.heap.size := by rw [hbx.size]; omega
  have c2 : W1.cell? ⟨b, 2 + t * 128 + f * 2, none⟩ = some (.int .i64 0) := (hbx.low.cell (p := ⟨b, _, none⟩) hb).trans (hT.blk.cell _ k1)
  have c3 : W1.cell? ⟨b, 2 + t * 128 + f * 2 + 1, none⟩ = some (.int .i64 0) := (hbx.low.cell (p := ⟨b, _, none⟩) hb).trans (hT.blk.cell _ k2)
  have c4 := hbx.fl.cell 0 rfl
  have n1 : w.heap.size < W1.heap.size := by rw [hbx.size]; omega
  have n2 : w.heap.size + 1 < W1.heap.size := by rw [hbx.size]; omega
  clear c1 k1 k2
  go_region
  have hbx2 := hbx.next (b := b) (.cells #[.int .i64 0, .int .i64 0] 102)
  have h7 : Blk ((W1.alloc (.cells #[.int .i64 0, .int .i64 0] 102)).drew) W1.heap.size #[.int .i64 0, .int .i64 0] 102 := (Blk.new W1 _ _).drew
  generalize World.drew (World.alloc W1 _) = W2 at hbx2 h7 ⊢
  clear c2 c3 c4 n1 n2 hb1
  have hb2 : b < W2.heap.size := Nat.lt_of_lt_of_le hb hbx2.low.size
  have hg2 : w.grownBy W2 (some b) := gb_below hbx2.low
  have hT2 : Tbl V room (some ⟨pb, off, none⟩) L cap b cur W2 := hT.other ((hbx2.low.block b hb).trans hT.blk)
  have hP2 := hP.grown hg2
  have d1 := hT2.blk.cell 1 hT2.pages
  have d2 : W2.cell? ⟨pb, off + t, none⟩ = some (.int .i64 zs[t]) := (hbx2.low.cell (p := ⟨pb, _, none⟩) hpw).trans hpc
  have d3 := hbx2.fl.cell 0 rfl
  have d4 := h7.cell 0 rfl
  have d5 := h7.cell 1 rfl
  have n1 : w.heap.size < W2.heap.size := by have := hbx2.size; omega
  have n2 : w.heap.size + 1 < W2.heap.size := by have := hbx2.size; omega
  have n3 : pb < W2.heap.size := by omega
  have n4 := h7.lt
  have hrec' : ∀ o, Calls Tryd.prog 47 #[.pointer (some ⟨b, 0, none⟩), .int .i64 ((t : Int) + 1), .agg #[.int .u64 f]] (W2.alloc o) (LeastAt V room (some ⟨pb, off, none⟩) L cap b (t + 1) f (W2.alloc o)) :=
    fun o => hrec (W2.alloc o) cur (hG _ (gb_trans hg2 (gb_alloc _ _ _))) (hT2.other (hT2.blk.alloc o)) (hP2.grown (gb_alloc _ _ _))
  have h9 := fun o => Blk.new W2 o 102
  go_wp2_with (go_at_call 47; refine (hrec' _).mono ?_; rintro e W3 ⟨pl, cur3, rfl, hT3, hg3⟩; have h9' := (h9 _).kept hg3 (by simp; omega); have e1 := h9'.cell 0 rfl; have e2 := h9'.cell 1 rfl; have e3 := h9'.frozen 0; have e4 := h9'.frozen 1; have hfl := (hbx2.fl.alloc _).kept hg3 (by simp; omega); have hout := (hbx2.out.alloc _).kept hg3 (by simp; omega); have e5 := hfl.cell 0 rfl)
  have hlt : W2.heap.size < W3.heap.size := h9'.lt
  have hR : Rest V room (some ⟨pb, off, none⟩) L cap b t f W2.heap.size pl cur3 w ((W3.setCell ⟨W2.heap.size, 0, none⟩ (.int .i64 (V (t + 1) f))).setCell ⟨W2.heap.size, 1, none⟩ (.int .i64 pl)) := by
    refine ⟨(hfl.other _ _ (by omega)).other _ _ (by omega), (hout.other _ _ (by omega)).other _ _ (by omega), ?_, hT3.other ((hT3.blk.other _ _ (by omega)).other _ _ (by omega)), ?_⟩
    · rw [hV]; exact (h9'.set 0 _).set 1 _
    · exact gb_set (gb_set (gb_trans (gb_trans hg2 (gb_alloc _ _ _)) hg3) (.inl (by omega))) (.inl (by omega))
  generalize World.setCell (World.setCell W3 _ _) _ _ = W4 at hR ⊢
  clear e1 e2 e3 e4 e5 h9' hfl hout hT3 hlt hg3 h9 hrec' n1 n2 n3 n4 d1 d2 d3 d4 d5 hT2 hP2 hb2 hg2 hbx2 h7
  have r1 := hR.fl.cell 0 rfl
  have r2 := hR.res.cell 0 rfl
  have r3 := hR.res.cell 1 rfl
  obtain ⟨s0, q0, k1, k2, k3⟩ := hR.tbl.known t f (by omega) hf
  have r4 := hR.tbl.blk.cell _ k1
  have r5 := hR.tbl.blk.cell _ k2
  have r6 := fun j => hR.tbl.blk.frozen j
  have r7 := hR.out.cell 0 rfl
  have r8 := hR.out.cell 1 rfl
  have r9 := hR.out.frozen 0
  have r10 := hR.out.frozen 1
  have m1 := hR.res.lt
  have m2 := hR.out.lt
  obtain ⟨f1, cur', f2, f3⟩ := hR.fin (by omega) hf hb
  clear k1 k2 k3 hbit hrec hT hP hp hpc hV hR
  go_region
  go_wp2
  exact bodyPost_ret (v := .agg #[.int .i64 (V t f), .int .i64 pl]) (least_res rfl f1.drew) rfl ⟨pl, cur', rfl, f2.other f2.blk.drew, gb_trans f3 (gb_drew _ _)⟩
/-- In the midst of a call: its boxes, the table and the pages. -/
structure Mid (V : Nat → Nat → Int) (room : Nat) (zs : List Int) (a : Option Addr) (L cap b f n9 : Nat) (r : Array Value) (cur : Array Value) (w W : World) : Prop where
  fl : Blk W w.heap.size #[.int .u64 f] 109
  out : Blk W (w.heap.size + 1) #[.int .i64 0, .int .i64 0] 102
  res : Blk W n9 r 102
  tbl : Tbl V room a L cap b cur W
  pgs : PgOK zs a b w
  low : w.grownBy W (some b)
  nlo : w.heap.size + 1 < n9
  blo : b < w.heap.size
theorem Mid.call {V : Nat → Nat → Int} {room : Nat} {zs : List Int} {a : Option Addr} {L cap b f n9 : Nat} {r cur cur' : Array Value} {w W W' : World} (h : Mid V room zs a L cap b f n9 r cur w W) (hg : W.grownBy W' (some b)) (hT : Tbl V room a L cap b cur' W') :
    Mid V room zs a L cap b f n9 r cur' w W' := by
  have h1 := h.nlo
  have h2 := h.blo
  exact ⟨h.fl.kept hg (by simp; omega), h.out.kept hg (by simp; omega), h.res.kept hg (by simp; omega), hT, h.pgs, gb_trans h.low hg, h.nlo, h.blo⟩
theorem Mid.below {V : Nat → Nat → Int} {room : Nat} {zs : List Int} {a : Option Addr} {L cap b f n9 : Nat} {r cur : Array Value} {w W W' : World} (h : Mid V room zs a L cap b f n9 r cur w W) (hB : Below W.heap.size W W') :
    Mid V room zs a L cap b f n9 r cur w W' := h.call (gb_below hB) (h.tbl.other ((hB.block b h.tbl.blk.lt).trans h.tbl.blk))
theorem Mid.alloc {V : Nat → Nat → Int} {room : Nat} {zs : List Int} {a : Option Addr} {L cap b f n9 : Nat} {r cur : Array Value} {w W : World} (h : Mid V room zs a L cap b f n9 r cur w W) (o : Obj) :
    Mid V room zs a L cap b f n9 r cur w (W.alloc o) := h.below ((Below.refl _ _).alloc (Nat.le_refl _) _)
theorem Mid.drew {V : Nat → Nat → Int} {room : Nat} {zs : List Int} {a : Option Addr} {L cap b f n9 : Nat} {r cur : Array Value} {w W : World} (h : Mid V room zs a L cap b f n9 r cur w W) :
    Mid V room zs a L cap b f n9 r cur w W.drew := h.below (Below.refl _ _).drew
theorem Mid.set {V : Nat → Nat → Int} {room : Nat} {zs : List Int} {a : Option Addr} {L cap b f n9 : Nat} {r cur : Array Value} {w W : World} (h : Mid V room zs a L cap b f n9 r cur w W) (j : Nat) (v : Value) :
    Mid V room zs a L cap b f n9 (r.setIfInBounds j v) cur w (W.setCell ⟨n9, j, none⟩ v) := by
  have h1 := h.nlo
  have h2 := h.blo
  refine ⟨h.fl.other _ _ (by omega), h.out.other _ _ (by omega), h.res.set _ _, h.tbl.other (h.tbl.blk.other _ _ (by omega)), h.pgs, gb_set h.low (.inl (by omega)), h.nlo, h.blo⟩
theorem Mid.pgsW {V : Nat → Nat → Int} {room : Nat} {zs : List Int} {a : Option Addr} {L cap b f n9 : Nat} {r cur : Array Value} {w W : World} (h : Mid V room zs a L cap b f n9 r cur w W) : PgOK zs a b W := h.pgs.grown h.low
theorem Mid.rest {V : Nat → Nat → Int} {room : Nat} {zs : List Int} {a : Option Addr} {L cap b t f n9 : Nat} {s pl : Int} {cur : Array Value} {w W : World} (h : Mid V room zs a L cap b f n9 #[.int .i64 s, .int .i64 pl] cur w W) (hs : V t f = s) :
    Rest V room a L cap b t f n9 pl cur w W := ⟨h.fl, h.out, by rw [hs]; exact h.res, h.tbl, h.low⟩
set_option maxHeartbeats 8000000 in
theorem least_add (V : Nat → Nat → Int) (room : Nat) (a : Option Addr) (L cap b t f f' : Nat) (zs : List Int) (cur : Array Value) (w : World) (h : Job V room zs a L cap b t f cur w) (hV : V t f = V (t + 1) f' + 1) (hVb : 0 ≤ V (t + 1) f' ∧ V (t + 1) f' ≤ 12)
    (hbit : ∀ h : t < zs.length, (bits BinOp.and IntKind.u64 ((f : Int) / 2 ^ (zs[t]'h).toNat) 1 == 1) = false)
    (G : World → Prop) (hG : ∀ W, w.grownBy W (some b) → G W)
    (hfull : ∀ (W : World) (_ : G W) (h : t < zs.length), Calls Tryd.prog 79 #[.agg #[.int .u64 f], .int .i64 (zs[t]'h), .int .i64 room] W fun e W' => e = .returned (.bool false) ∧ Below W.heap.size W W')
    (hwith : ∀ (W : World) (_ : G W) (h : t < zs.length), Calls Tryd.prog 80 #[.agg #[.int .u64 f], .int .i64 (zs[t]'h), .int .i64 (-1)] W fun e W' => e = .returned (.agg #[.int .u64 f']) ∧ Below W.heap.size W W')
    (hrec : ∀ W cur, G W → Tbl V room a L cap b cur W → PgOK zs a b W → Calls Tryd.prog 47 #[.pointer (some ⟨b, 0, none⟩), .int .i64 ((t : Int) + 1), .agg #[.int .u64 f']] W (LeastAt V room a L cap b (t + 1) f' W)) :
    Calls Tryd.prog 47 #[.pointer (some ⟨b, 0, none⟩), .int .i64 t, .agg #[.int .u64 f]] w (LeastAt V room a L cap b t f w) := by
  obtain ⟨hzl, hL, ht, hf, hT, hP, k1, k2, hp⟩ := h
  have hb := hT.blk.lt
  have c1 := hT.blk.cell 1 hT.pages
  have ht1 : (t : Int) < 12 := by omega
  have ht2 : (t : Int) ≠ L := by omega
  have ht3 : (t : Int) < L := by omega
  have hf1 : (f : Int) < 64 := by omega
  have htz : t < zs.length := by omega
  have hbit := hbit htz
  have hfull := fun W hW => hfull W hW htz
  have hwith := fun W hW => hwith W hW htz
  obtain ⟨hp0, hp1⟩ := hp zs[t] (List.getElem_mem _)
  have hbx := Bx.start w f
  obtain ⟨pb, off, rfl, hpb, hpw, hpc⟩ := hP t (by omega)
  go_enter Tryd.func47, Tryd.ntmps47
  go_wp2
  generalize World.alloc (World.alloc w _) _ = W1 at hbx ⊢
  have hb1 : b < W1.heap.size := by rw [hbx.size]; omega
  have c2 : W1.cell? ⟨b, 2 + t * 128 + f * 2, none⟩ = some (.int .i64 0) := (hbx.low.cell (p := ⟨b, _, none⟩) hb).trans (hT.blk.cell _ k1)
  have c3 : W1.cell? ⟨b, 2 + t * 128 + f * 2 + 1, none⟩ = some (.int .i64 0) := (hbx.low.cell (p := ⟨b, _, none⟩) hb).trans (hT.blk.cell _ k2)
  have c4 := hbx.fl.cell 0 rfl
  have n1 : w.heap.size < W1.heap.size := by rw [hbx.size]; omega
  have n2 : w.heap.size + 1 < W1.heap.size := by rw [hbx.size]; omega
  clear c1 k1 k2
  go_region
  have hbx2 := hbx.next (b := b) (.cells #[.int .i64 0, .int .i64 0] 102)
  have h7 : Blk ((W1.alloc (.cells #[.int .i64 0, .int .i64 0] 102)).drew) W1.heap.size #[.int .i64 0, .int .i64 0] 102 := (Blk.new W1 _ _).drew
  generalize World.drew (World.alloc W1 _) = W2 at hbx2 h7 ⊢
  clear c2 c3 c4 n1 n2 hb1
  have hb2 : b < W2.heap.size := Nat.lt_of_lt_of_le hb hbx2.low.size
  have hT2 : Tbl V room (some ⟨pb, off, none⟩) L cap b cur W2 := hT.other ((hbx2.low.block b hb).trans hT.blk)
  have d1 := hT2.blk.cell 1 hT2.pages
  have d2 : W2.cell? ⟨pb, off + t, none⟩ = some (.int .i64 zs[t]) := (hbx2.low.cell (p := ⟨pb, _, none⟩) hpw).trans hpc
  have d3 := hbx2.fl.cell 0 rfl
  have d4 := h7.cell 0 rfl
  have d5 := h7.cell 1 rfl
  have n1 : w.heap.size < W2.heap.size := by have := hbx2.size; omega
  have n2 : w.heap.size + 1 < W2.heap.size := hbx2.size
  have n3 : pb < W2.heap.size := by omega
  have n4 := h7.lt
  have hM3 : Mid V room zs (some ⟨pb, off, none⟩) L cap b f W2.heap.size #[.int .i64 0, .int .i64 0] cur w (W2.alloc (.cells #[.int .i64 0, .int .i64 0] 102)) :=
    ⟨hbx2.fl.alloc _, hbx2.out.alloc _, Blk.new W2 _ _, hT2.other (hT2.blk.alloc _), hP, gb_trans (gb_below hbx2.low) (gb_alloc _ _ _), n2, hb⟩
  go_wp2
  generalize World.alloc W2 _ = W3 at hM3 ⊢
  clear n1 n2 n3 n4 d1 d2 d3 d4 d5 h7 hT2 hb2 hbx2 hbx
  have d1 := hM3.tbl.blk.cell 0 hM3.tbl.room
  have d3 := hM3.fl.cell 0 rfl
  go_region_with (go_at_call 79; refine (hfull _ (hG _ hM3.drew.low)).mono ?_; rintro e W4 ⟨rfl, hB4⟩; have hM4 := hM3.drew.below hB4)
  all_goals
    have e0 := hM4.fl.cell 0 rfl
    have n9 := hM4.res.lt
    go_wp2_with (first | (go_at_call 80; refine (hwith _ (hG _ hM4.low)).mono ?_; rintro e W5 ⟨rfl, hB5⟩; have hM5 := hM4.below hB5) | (go_at_call 47; refine (hrec _ _ (hG _ hM5.low) hM5.tbl hM5.pgsW).mono ?_; rintro e W6 ⟨pl, cur6, rfl, hT6, hg6⟩; have hM6 := hM5.call hg6 hT6; have e1 := hM6.res.cell 0 rfl; have e2 := hM6.res.cell 1 rfl; have e3 := hM6.res.frozen 0; have e4 := hM6.res.frozen 1))
    have hR := (((hM6.set 0 (.int .i64 (V (t + 1) f'))).set 1 (.int .i64 pl)).set 0 (.int .i64 (V (t + 1) f' + 1))).rest hV
    generalize World.setCell (World.setCell (World.setCell W6 _ _) _ _) _ _ = W7 at hR ⊢
    clear e0 e1 e2 e3 e4 n9 hM6 hM5 hM4 hM3 hB4 hB5 hT6 hg6 hwith hfull d1 d3 hbit hrec hT hP hp hpc hV hVb
    have r1 := hR.fl.cell 0 rfl
    have r2 := hR.res.cell 0 rfl
    have r3 := hR.res.cell 1 rfl
    obtain ⟨s0, q0, k1, k2, k3⟩ := hR.tbl.known t f (by omega) hf
    have r4 := hR.tbl.blk.cell _ k1
    have r5 := hR.tbl.blk.cell _ k2
    have r6 := fun j => hR.tbl.blk.frozen j
    have r7 := hR.out.cell 0 rfl
    have r8 := hR.out.cell 1 rfl
    have r9 := hR.out.frozen 0
    have r10 := hR.out.frozen 1
    have m1 := hR.res.lt
    have m2 := hR.out.lt
    obtain ⟨f1, cur', f2, f3⟩ := hR.fin (by omega) hf hb
    clear k1 k2 k3 hR
    go_region
    go_wp2
    exact bodyPost_ret (v := .agg #[.int .i64 (V t f), .int .i64 pl]) (least_res rfl f1.drew) rfl ⟨pl, cur', rfl, f2.other f2.blk.drew, gb_trans f3 (gb_drew _ _)⟩
/-- Pages in a slice of the call's own. -/
def Lst (l : List Nat) (b2 : Nat) (W : World) : Prop := ∃ cur ty, Blk W b2 cur ty ∧ ∀ i (h : i < l.length), cur[i]? = some (.int .i64 (l[i] : Int))
theorem Lst.kept {l : List Nat} {b2 : Nat} {W W' : World} {r : Option Nat} (h : Lst l b2 W) (hg : W.grownBy W' r) (hne : some b2 ≠ r) : Lst l b2 W' := by
  obtain ⟨cur, ty, h1, h2⟩ := h
  exact ⟨cur, ty, h1.kept hg hne, h2⟩
theorem Lst.cell {l : List Nat} {b2 : Nat} {W : World} (h : Lst l b2 W) {i : Nat} (hi : i < l.length) : W.cell? ⟨b2, i, none⟩ = some (.int .i64 (l[i] : Int)) := by
  obtain ⟨cur, ty, h1, h2⟩ := h
  exact h1.cell i (h2 i hi)
theorem Lst.lt {l : List Nat} {b2 : Nat} {W : World} (h : Lst l b2 W) : b2 < W.heap.size := by
  obtain ⟨cur, ty, h1, h2⟩ := h
  exact h1.lt
theorem Lst.other {l : List Nat} {b2 : Nat} {W : World} (h : Lst l b2 W) {b' : Nat} (j : Nat) (v : Value) (hne : b2 ≠ b') : Lst l b2 (W.setCell ⟨b', j, none⟩ v) := by
  obtain ⟨cur, ty, h1, h2⟩ := h
  exact ⟨cur, ty, h1.other j v hne, h2⟩
/-- What has come out behind k pages. -/
def Out (v : Nat → Int) (l : List Nat) (k : Nat) (r : Array Value) : Prop :=
  (k = 0 ∧ r = #[.int .i64 0, .int .i64 0]) ∨ (0 < k ∧ ∃ p : Int, r = #[.int .i64 (mnl v (l.take k)), .int .i64 p])
/-- A round's head. -/
def Head (V : Nat → Nat → Int) (room : Nat) (zs : List Int) (a : Option Addr) (L cap b f n9 b2 : Nat) (v : Nat → Int) (l : List Nat) (k : Nat) (w W : World) : Prop :=
  ∃ r cur, Mid V room zs a L cap b f n9 r cur w W ∧ Lst l b2 W ∧ Out v l k r ∧ n9 < b2
theorem Head.next {V : Nat → Nat → Int} {room : Nat} {zs : List Int} {a : Option Addr} {L cap b f n9 b2 : Nat} {v : Nat → Int} {l : List Nat} {k : Nat} {r cur : Array Value} {w W : World} (hM : Mid V room zs a L cap b f n9 r cur w W) (hL : Lst l b2 W) (hn : n9 < b2) (ho : Out v l (k + 1) r) :
    Head V room zs a L cap b f n9 b2 v l (k + 1) w W := ⟨r, cur, hM, hL, ho, hn⟩
theorem out_first {v : Nat → Int} {l : List Nat} (h : 0 < l.length) (p : Int) : Out v l 1 #[.int .i64 (v l[0]), .int .i64 p] := by
  right
  refine ⟨Nat.one_pos, p, ?_⟩
  rw [List.take_succ_eq_append_getElem h]
  rfl
theorem mnl_take {v : Nat → Int} {l : List Nat} {k : Nat} (h : k < l.length) (h0 : 0 < k) : mnl v (l.take (k + 1)) = bif decide (v l[k] < mnl v (l.take k)) then v l[k] else mnl v (l.take k) := by
  rw [List.take_succ_eq_append_getElem h]
  exact mnl_snoc v _ _ (by
    intro e
    have := congrArg List.length e
    rw [List.length_take, List.length_nil] at this
    omega)
theorem out_less {v : Nat → Int} {l : List Nat} {k : Nat} (h : k < l.length) (h0 : 0 < k) (hl : v l[k] < mnl v (l.take k)) (p : Int) : Out v l (k + 1) #[.int .i64 (v l[k]), .int .i64 p] := by
  right
  refine ⟨Nat.succ_pos _, p, ?_⟩
  rw [mnl_take h h0, decide_eq_true hl]
  rfl
theorem out_more {v : Nat → Int} {l : List Nat} {k : Nat} (h : k < l.length) (h0 : 0 < k) (hl : ¬ v l[k] < mnl v (l.take k)) (p : Int) : Out v l (k + 1) #[.int .i64 (mnl v (l.take k)), .int .i64 p] := by
  right
  refine ⟨Nat.succ_pos _, p, ?_⟩
  rw [mnl_take h h0, decide_eq_false hl]
  rfl
theorem mnl_bd (v : Nat → Int) (l : List Nat) (h : l ≠ []) (hb : ∀ g ∈ l, 1 ≤ v g ∧ v g ≤ 13) : 1 ≤ mnl v l ∧ mnl v l ≤ 13 := by
  obtain ⟨g, hg, e⟩ := mnl_mem v l h
  rw [e]
  exact hb g hg
set_option maxHeartbeats 16000000 in
theorem least_swap (V : Nat → Nat → Int) (room : Nat) (a : Option Addr) (L cap b t f : Nat) (l : List Nat) (sw : Nat → Nat) (zs : List Int) (cur : Array Value) (w : World) (h : Job V room zs a L cap b t f cur w) (hl0 : 0 < l.length) (hl6 : l.length ≤ 6) (hlg : ∀ g ∈ l, g < 6) (hV : V t f = mnl (fun g => V (t + 1) (sw g) + 1) l)
    (hVb : ∀ g ∈ l, 0 ≤ V (t + 1) (sw g) ∧ V (t + 1) (sw g) ≤ 12)
    (hbit : ∀ h : t < zs.length, (bits BinOp.and IntKind.u64 ((f : Int) / 2 ^ (zs[t]'h).toNat) 1 == 1) = false)
    (G : World → Prop) (hG : ∀ W, w.grownBy W (some b) → G W)
    (hfull : ∀ (W : World) (_ : G W) (h : t < zs.length), Calls Tryd.prog 79 #[.agg #[.int .u64 f], .int .i64 (zs[t]'h), .int .i64 room] W fun e W' => e = .returned (.bool true) ∧ Below W.heap.size W W')
    (hlist : ∀ W : World, G W → Calls Tryd.prog 81 #[.int .u64 f] W fun e W' => ∃ b2 cap2, e = .returned (.slice (some ⟨b2, 0, none⟩) l.length cap2) ∧ W.heap.size ≤ b2 ∧ Lst l b2 W' ∧ Below W.heap.size W W')
    (hwith : ∀ (W : World) (_ : G W) (h : t < zs.length), ∀ g ∈ l, Calls Tryd.prog 80 #[.agg #[.int .u64 f], .int .i64 (zs[t]'h), .int .i64 (g : Int)] W fun e W' => e = .returned (.agg #[.int .u64 (sw g)]) ∧ Below W.heap.size W W')
    (hrec : ∀ g ∈ l, ∀ W cur, G W → Tbl V room a L cap b cur W → PgOK zs a b W → Calls Tryd.prog 47 #[.pointer (some ⟨b, 0, none⟩), .int .i64 ((t : Int) + 1), .agg #[.int .u64 (sw g)]] W (LeastAt V room a L cap b (t + 1) (sw g) W)) :
    Calls Tryd.prog 47 #[.pointer (some ⟨b, 0, none⟩), .int .i64 t, .agg #[.int .u64 f]] w (LeastAt V room a L cap b t f w) := by
  obtain ⟨hzl, hL, ht, hf, hT, hP, k1, k2, hp⟩ := h
  have hb := hT.blk.lt
  have c1 := hT.blk.cell 1 hT.pages
  have ht1 : (t : Int) < 12 := by omega
  have ht2 : (t : Int) ≠ L := by omega
  have ht3 : (t : Int) < L := by omega
  have hf1 : (f : Int) < 64 := by omega
  have htz : t < zs.length := by omega
  have hbit := hbit htz
  have hfull := fun W hW => hfull W hW htz
  have hwith := fun W hW => hwith W hW htz
  obtain ⟨hp0, hp1⟩ := hp zs[t] (List.getElem_mem _)
  have hbx := Bx.start w f
  obtain ⟨pb, off, rfl, hpb, hpw, hpc⟩ := hP t (by omega)
  go_enter Tryd.func47, Tryd.ntmps47
  go_wp2
  generalize World.alloc (World.alloc w _) _ = W1 at hbx ⊢
  have hb1 : b < W1.heap.size := by rw [hbx.size]; omega
  have c2 : W1.cell? ⟨b, 2 + t * 128 + f * 2, none⟩ = some (.int .i64 0) := (hbx.low.cell (p := ⟨b, _, none⟩) hb).trans (hT.blk.cell _ k1)
  have c3 : W1.cell? ⟨b, 2 + t * 128 + f * 2 + 1, none⟩ = some (.int .i64 0) := (hbx.low.cell (p := ⟨b, _, none⟩) hb).trans (hT.blk.cell _ k2)
  have c4 := hbx.fl.cell 0 rfl
  have n1 : w.heap.size < W1.heap.size := by rw [hbx.size]; omega
  have n2 : w.heap.size + 1 < W1.heap.size := by rw [hbx.size]; omega
  clear c1 k1 k2
  go_region
  have hbx2 := hbx.next (b := b) (.cells #[.int .i64 0, .int .i64 0] 102)
  have h7 : Blk ((W1.alloc (.cells #[.int .i64 0, .int .i64 0] 102)).drew) W1.heap.size #[.int .i64 0, .int .i64 0] 102 := (Blk.new W1 _ _).drew
  generalize World.drew (World.alloc W1 _) = W2 at hbx2 h7 ⊢
  clear c2 c3 c4 n1 n2 hb1
  have hb2 : b < W2.heap.size := Nat.lt_of_lt_of_le hb hbx2.low.size
  have hT2 : Tbl V room (some ⟨pb, off, none⟩) L cap b cur W2 := hT.other ((hbx2.low.block b hb).trans hT.blk)
  have d1 := hT2.blk.cell 1 hT2.pages
  have d2 : W2.cell? ⟨pb, off + t, none⟩ = some (.int .i64 zs[t]) := (hbx2.low.cell (p := ⟨pb, _, none⟩) hpw).trans hpc
  have d3 := hbx2.fl.cell 0 rfl
  have d4 := h7.cell 0 rfl
  have d5 := h7.cell 1 rfl
  have n1 : w.heap.size < W2.heap.size := by have := hbx2.size; omega
  have n2 : w.heap.size + 1 < W2.heap.size := hbx2.size
  have n3 : pb < W2.heap.size := by omega
  have n4 := h7.lt
  have hM3 : Mid V room zs (some ⟨pb, off, none⟩) L cap b f W2.heap.size #[.int .i64 0, .int .i64 0] cur w (W2.alloc (.cells #[.int .i64 0, .int .i64 0] 102)) :=
    ⟨hbx2.fl.alloc _, hbx2.out.alloc _, Blk.new W2 _ _, hT2.other (hT2.blk.alloc _), hP, gb_trans (gb_below hbx2.low) (gb_alloc _ _ _), n2, hb⟩
  go_wp2
  generalize World.alloc W2 _ = W3 at hM3 ⊢
  clear n1 n2 n3 n4 d1 d2 d3 d4 d5 h7 hT2 hb2 hbx2 hbx hpc hP hT
  have d1 := hM3.tbl.blk.cell 0 hM3.tbl.room
  have d3 := hM3.fl.cell 0 rfl
  go_region_with (go_at_call 79; refine (hfull _ (hG _ hM3.drew.low)).mono ?_; rintro e W4 ⟨rfl, hB4⟩; have hM4 := hM3.drew.below hB4)
  all_goals
    have e0 := hM4.fl.cell 0 rfl
    have n9 := hM4.res.lt
    go_wp2_with (go_at_call 81; refine (hlist _ (hG _ hM4.low)).mono ?_; rintro e W5 ⟨b2, cap2, rfl, hb2, hL5, hB5⟩; have hM5 := hM4.below hB5)
    clear e0 d1 d3 hfull hlist hB4 hB5 hM3
    have hH5 : Head V room zs (some ⟨pb, off, none⟩) L cap b f W2.heap.size b2 (fun g => V (t + 1) (sw g) + 1) l 0 w W5 := ⟨_, _, hM5, hL5, .inl ⟨rfl, rfl⟩, by omega⟩
    clear hM5 hL5 hM4 n9 hb2
    go_loopw [47] (fun i wr => ∃ k : Nat, i = .int .i64 k ∧ k ≤ l.length ∧ Head V room zs (some ⟨pb, off, none⟩) L cap b f W2.heap.size b2 (fun g => V (t + 1) (sw g) + 1) l k w wr) (fun i _ => l.length - (intOf i).toNat)
    case atStart => exact ⟨0, rfl, Nat.zero_le _, hH5⟩
    case round =>
      obtain ⟨k, rfl, hk, r, cur5, hM, hLs, hO, hn9⟩ := hrel
      obtain ⟨wi, rfl⟩ : ∃ wi, wi = wr := ⟨wr, rfl⟩
      clear hH5
      by_cases hkl : k < l.length
      · have cl := hLs.cell hkl
        have hg6 := hlg l[k] (List.getElem_mem _)
        obtain ⟨hx0, hx1⟩ := hVb l[k] (List.getElem_mem _)
        have hwk := fun W hW => hwith W hW l[k] (List.getElem_mem _)
        have hrk := hrec l[k] (List.getElem_mem _)
        have e0 := hM.fl.cell 0 rfl
        rcases hO with ⟨hk0, rfl⟩ | ⟨hk0, p, rfl⟩
        · have hk1 : k < 1 := by omega
          clear hk0
          go_wp2_with (first | (go_at_call 80; refine (hwk _ (hG _ hM.low)).mono ?_; rintro e W5 ⟨rfl, hB5⟩; have hM5 := hM.below hB5; have hL5 := hLs.kept (gb_below hB5 (r := none)) (by simp)) | (go_at_call 47; refine (hrk _ _ (hG _ hM5.low) hM5.tbl hM5.pgsW).mono ?_; rintro e W6 ⟨pl, cur6, rfl, hT6, hg6⟩; have hM6 := hM5.call hg6 hT6; have hL6 := hL5.kept hg6 (by have := hM5.blo; have := hM5.nlo; simp; omega); have e1 := hM6.res.cell 0 rfl; have e2 := hM6.res.cell 1 rfl; have e3 := hM6.res.frozen 0; have e4 := hM6.res.frozen 1; have e5 := hM6.res.lt))
          refine ⟨⟨k + 1, by simp, by omega, Head.next (r := #[.int .i64 (V (t + 1) (sw l[k]) + 1), .int .i64 pl]) (((hM6.set 0 _).set 1 _).alloc _) (((hL6.other _ _ (by omega)).other _ _ (by omega)).kept (gb_alloc _ _ none) (by simp)) hn9 ?_⟩, by simp [intOf]; omega⟩
          obtain rfl : k = 0 := by omega
          exact out_first (v := fun g => V (t + 1) (sw g) + 1) hkl pl
        · have hm := mnl_bd (fun g => V (t + 1) (sw g) + 1) (l.take k) (by intro e; have := congrArg List.length e; rw [List.length_take, List.length_nil] at this; omega) (fun g hg => by have := hVb g (List.mem_of_mem_take hg); omega)
          have o1 := out_less (v := fun g => V (t + 1) (sw g) + 1) hkl hk0
          have o2 := out_more (v := fun g => V (t + 1) (sw g) + 1) hkl hk0
          have O1 := Lib.hid o1
          have O2 := Lib.hid o2
          clear o1 o2
          obtain ⟨m, hmm⟩ : ∃ m, m = mnl (fun g => V (t + 1) (sw g) + 1) (l.take k) := ⟨_, rfl⟩
          rw [← hmm] at hm hM O1 O2
          clear hmm
          have hm0 : (m == 0) = false := by simp; omega
          by_cases hlm : V (t + 1) (sw l[k]) + 1 < m
          · go_wp2_with (first | (go_at_call 80; refine (hwk _ (hG _ hM.low)).mono ?_; rintro e W5 ⟨rfl, hB5⟩; have hM5 := hM.below hB5; have hL5 := hLs.kept (gb_below hB5 (r := none)) (by simp)) | (go_at_call 47; refine (hrk _ _ (hG _ hM5.low) hM5.tbl hM5.pgsW).mono ?_; rintro e W6 ⟨pl, cur6, rfl, hT6, hg6⟩; have hM6 := hM5.call hg6 hT6; have hL6 := hL5.kept hg6 (by have := hM5.blo; have := hM5.nlo; simp; omega); have e1 := hM6.res.cell 0 rfl; have e2 := hM6.res.cell 1 rfl; have e3 := hM6.res.frozen 0; have e4 := hM6.res.frozen 1; have e5 := hM6.res.lt))
            exact ⟨⟨k + 1, by simp, by omega, Head.next (r := #[.int .i64 (V (t + 1) (sw l[k]) + 1), .int .i64 pl]) (((hM6.set 0 _).set 1 _).alloc _) (((hL6.other _ _ (by omega)).other _ _ (by omega)).kept (gb_alloc _ _ none) (by simp)) hn9 (O1.out hlm pl)⟩, by simp [intOf]; omega⟩
          · by_cases heq : V (t + 1) (sw l[k]) + 1 = m
            · have heq' : (V (t + 1) (sw l[k]) + 1 == m) = true := by simp [heq]
              have HE := Lib.hid heq
              clear heq
              go_wp2_with (first | (go_at_call 80; refine (hwk _ (hG _ hM.low)).mono ?_; rintro e W5 ⟨rfl, hB5⟩; have hM5 := hM.below hB5; have hL5 := hLs.kept (gb_below hB5 (r := none)) (by simp)) | (go_at_call 47; refine (hrk _ _ (hG _ hM5.low) hM5.tbl hM5.pgsW).mono ?_; rintro e W6 ⟨pl, cur6, rfl, hT6, hg6⟩; have hM6 := hM5.call hg6 hT6; have hL6 := hL5.kept hg6 (by have := hM5.blo; have := hM5.nlo; simp; omega); have e1 := hM6.res.cell 0 rfl; have e2 := hM6.res.cell 1 rfl; have e3 := hM6.res.frozen 0; have e4 := hM6.res.frozen 1; have e5 := hM6.res.lt))
              exact ⟨⟨k + 1, by simp, by omega, Head.next (r := #[.int .i64 m, .int .i64 _]) ((hM6.set 1 _).alloc _) ((hL6.other _ _ (by omega)).kept (gb_alloc _ _ none) (by simp)) hn9 (O2.out hlm _)⟩, by simp [intOf]; omega⟩
            · have heq' : (V (t + 1) (sw l[k]) + 1 == m) = false := by simp [heq]
              go_wp2_with (first | (go_at_call 80; refine (hwk _ (hG _ hM.low)).mono ?_; rintro e W5 ⟨rfl, hB5⟩; have hM5 := hM.below hB5; have hL5 := hLs.kept (gb_below hB5 (r := none)) (by simp)) | (go_at_call 47; refine (hrk _ _ (hG _ hM5.low) hM5.tbl hM5.pgsW).mono ?_; rintro e W6 ⟨pl, cur6, rfl, hT6, hg6⟩; have hM6 := hM5.call hg6 hT6; have hL6 := hL5.kept hg6 (by have := hM5.blo; have := hM5.nlo; simp; omega); have e1 := hM6.res.cell 0 rfl; have e2 := hM6.res.cell 1 rfl; have e3 := hM6.res.frozen 0; have e4 := hM6.res.frozen 1; have e5 := hM6.res.lt))
              exact ⟨⟨k + 1, by simp, by omega, Head.next (r := #[.int .i64 m, .int .i64 p]) (hM6.alloc _) (hL6.kept (gb_alloc _ _ none) (by simp)) hn9 (O2.out hlm p)⟩, by simp [intOf]; omega⟩
      · obtain rfl : k = l.length := by omega
        rcases hO with ⟨hk0, _⟩ | ⟨hk0, p, rfl⟩
        · omega
        rw [List.take_length] at hM
        have hR := hM.rest hV
        clear hM hV hVb hlg hwith hrec hbit hLs hp
        go_wp2
        have r1 := hR.fl.cell 0 rfl
        have r2 := hR.res.cell 0 rfl
        have r3 := hR.res.cell 1 rfl
        obtain ⟨s0, q0, k1, k2, k3⟩ := hR.tbl.known t f (by omega) hf
        have r4 := hR.tbl.blk.cell _ k1
        have r5 := hR.tbl.blk.cell _ k2
        have r6 := fun j => hR.tbl.blk.frozen j
        have r7 := hR.out.cell 0 rfl
        have r8 := hR.out.cell 1 rfl
        have r9 := hR.out.frozen 0
        have r10 := hR.out.frozen 1
        have m1 := hR.res.lt
        have m2 := hR.out.lt
        obtain ⟨f1, cur', f2, f3⟩ := hR.fin (by omega) hf hb
        clear k1 k2 k3 hR
        go_region
        go_wp2
        exact bodyPost_ret (v := .agg #[.int .i64 (V t f), .int .i64 p]) (least_res rfl f1.drew) rfl ⟨p, cur', rfl, f2.other f2.blk.drew, gb_trans f3 (gb_drew _ _)⟩
end Go.Proofs.YtkfkbebinhkdlaaDoor
set_option linter.unusedVariables false
set_option linter.unusedSimpArgs false
set_option maxRecDepth 100000
namespace Go.Proofs.YtkfkbebinhkdlaaDoor
open Go.Vi
abbrev R78 := Bool
noncomputable def c78 : Code := bodyOf Tryd.f78
noncomputable def an78 : Ann := .l
def pk78 : List PK := [.c (.int .i64)]
def rk78 : List RK := [.c .bool 2]
noncomputable def rt78 (st : St) : Option R78 := rtG rk78 st
noncomputable def E78 (n : Nat × Nat) : Env := { T := tab, phi := noPhi, eff := fun _ => false, fuel := n.1, hold := n.2 }
noncomputable def S78 (n : Nat × Nat) (p0 : Int) : Option R78 := run (E78 n) c78 an78 rt78 (fun _ _ => none) rt78 { tm := [.c (.int .i64 p0), uu, uu, uu, uu, uu, uu, uu, uu], hp := emp }
theorem S78_eq (n : Nat × Nat) (p0 : Int) : S78 n p0 =
 ((bif (decide (p0 < 0) == false) then some (decide (p0 ≥ 6))
 else some true)).bind fun b1' =>
 some b1' := by kernel_rfl
theorem S78_run (n : Nat × Nat) (xs : pksDen pk78) : S78 n xs.1 = runG (E78 n) noScope c78 an78 (rtG rk78) (fun _ _ => none) (rtG rk78) (st0 pk78 xs Tryd.f78.ntmps) := by kernel_rfl
noncomputable def P78 (n : Nat × Nat) := phiOf pk78 rk78 (fun xs => S78 n xs.1)
theorem call78 : CallOK Tryd.prog 78 := callOK_of Tryd.func78 (by kernel_rfl) (by kernel_rfl)
theorem env78 (n : Nat × Nat) : EnvOK Tryd.prog (E78 n) := envOK0 noPhi_ok rfl rfl
theorem par78 (n : Nat × Nat) : EnvPar (E78 n) := envPar0 noPhi_par rfl
theorem FC78 (n : Nat × Nat) : FCs Tryd.prog 78 (P78 n) := phiOf_FCs fun xs r h vs hv => FC.of_runG tabOK eqsOK (env78 n) (par78 n) mixed (fun _ p _ => noScope_ok p.1 p.2) Tryd.func78 (c := c78) (an := an78) (pks := pk78) (rks := rk78) (by kernel_rfl) (by kernel_rfl) hv ((S78_run n xs).symm.trans h)
/- slices.IndexFunc[[]int,int] -/
abbrev R108c78 := Int
noncomputable def c108c78 : Code := bodyOf Tryd.f108
noncomputable def an108c78 : Ann := (.s .l (.s (.s .l (.j [] (.j [0, 1, 7, 8] (.s .l (.s (.j [0, 1, 7, 8] .l .l) (.s (.j [0, 1, 7, 8] (.s .l (.s .l (.j [0, 1, 7, 8] .l .l))) .l) .l))) .l) .l)) .l))
def pk108c78 : List PK := [.c (.sl (.int .i64)), .f 78 []]
def rk108c78 : List RK := [.c (.int .i64) 4]
noncomputable def rt108c78 (st : St) : Option R108c78 := rtG rk108c78 st
noncomputable def E108c78 (n : Nat × Nat) : Env := { T := tab, phi := (consPhi 78 (fun _ => true) (P78 n) noPhi), eff := fun _ => false, fuel := n.1, hold := n.2, pcl := [11] }
noncomputable def kq108c78_1 (n : Nat × Nat) : St → Option R108c78 := run (E108c78 n) (cB (cB c108c78)) (Ann.snd (Ann.snd an108c78)) rt108c78 (fun _ _ => none) rt108c78
noncomputable def xb108c78_3 (n : Nat × Nat) : Nat → St → Option R108c78 := fun j s => bif Nat.beq j 0 then normC [] s (kq108c78_1 n) else (fun _ _ => none) j s
noncomputable def F108c78_4 (n : Nat × Nat) : (St → Option R108c78) → St → Option R108c78 := fun K s => run (E108c78 n) (cA (cA (cB (cA (cB c108c78))))) (Ann.fst (Ann.fst (Ann.snd (Ann.fst (Ann.snd an108c78))))) (fun s => normC [0, 1, 7, 8] s K) (xb108c78_3 n) rt108c78 s
noncomputable def L108c78_1 (n : Nat × Nat) (m : Nat) (s0 : List Int) (v7 : Int) (v8 : Int) : Option R108c78 := loopN (F108c78_4 n) m { tm := [.c (.sl (.int .i64) s0 false), .fn 78 [], uu, uu, uu, uu, uu, .c (.int .i64 v7), .c (.int .i64 v8), uu, uu, uu, uu, uu, uu, uu, uu, uu, uu], hp := emp }
theorem L108c78_1_eq (n : Nat × Nat) (m1 : Nat) (s0 : List Int) (v7 : Int) (v8 : Int) : L108c78_1 n (m1 + 1) s0 v7 v8 =
 (bif decide (v8 < v7) then (idx s0 v8).bind fun x1' =>
 (S78 n x1').bind fun r2' =>
 (bif r2' then some v8
 else L108c78_1 n m1 s0 v7 (wr .i64 (v8 + 1)))
 else some (-1)) := by kernel_rfl
noncomputable def S108c78 (n : Nat × Nat) (s0 : List Int) : Option R108c78 := run (E108c78 n) c108c78 an108c78 rt108c78 (fun _ _ => none) rt108c78 { tm := [.c (.sl (.int .i64) s0 false), .fn 78 [], uu, uu, uu, uu, uu, uu, uu, uu, uu, uu, uu, uu, uu, uu, uu, uu, uu], hp := emp }
theorem S108c78_eq (n : Nat × Nat) (s0 : List Int) : S108c78 n s0 =
    L108c78_1 n n.1 s0 (s0.length : Int) 0 := by kernel_rfl
theorem S108c78_run (n : Nat × Nat) (xs : pksDen pk108c78) : S108c78 n xs.1 = runG (E108c78 n) noScope c108c78 an108c78 (rtG rk108c78) (fun _ _ => none) (rtG rk108c78) (st0 pk108c78 xs Tryd.f108.ntmps) := by kernel_rfl
noncomputable def P108c78 (n : Nat × Nat) := phiOf pk108c78 rk108c78 (fun xs => S108c78 n xs.1)
theorem call108 : CallOK Tryd.prog 108 := callOK_of Tryd.func108 (by kernel_rfl) (by kernel_rfl)
theorem env108c78 (n : Nat × Nat) : EnvOK Tryd.prog (E108c78 n) := envOK0 (consPhi_ok (FC78 n) call78 noPhi_ok) rfl rfl
theorem par108c78 (n : Nat × Nat) : EnvPar (E108c78 n) := envPar0 (consPhi_par phiOf_Par1 noPhi_par) rfl
theorem FC108c78 (n : Nat × Nat) : FCs Tryd.prog 108 (P108c78 n) := phiOf_FCs fun xs r h vs hv => FC.of_runG tabOK eqsOK (env108c78 n) (par108c78 n) mixed (fun _ p _ => noScope_ok p.1 p.2) Tryd.func108 (c := c108c78) (an := an108c78) (pks := pk108c78) (rks := rk108c78) (by kernel_rfl) (by kernel_rfl) hv ((S108c78_run n xs).symm.trans h)
/- slices.ContainsFunc[[]int,int] -/
abbrev R77c78 := Bool
noncomputable def c77c78 : Code := bodyOf Tryd.f77
noncomputable def an77c78 : Ann := .l
def pk77c78 : List PK := [.c (.sl (.int .i64)), .f 78 []]
def rk77c78 : List RK := [.c .bool 4]
noncomputable def rt77c78 (st : St) : Option R77c78 := rtG rk77c78 st
noncomputable def E77c78 (n : Nat × Nat) : Env := { T := tab, phi := (consPhi 108 (isFns [none, some 78]) (P108c78 n) noPhi), eff := fun _ => false, fuel := n.1, hold := n.2 }
noncomputable def S77c78 (n : Nat × Nat) (s0 : List Int) : Option R77c78 := run (E77c78 n) c77c78 an77c78 rt77c78 (fun _ _ => none) rt77c78 { tm := [.c (.sl (.int .i64) s0 false), .fn 78 [], uu, uu, uu, uu, uu, uu, uu], hp := emp }
theorem S77c78_eq (n : Nat × Nat) (s0 : List Int) : S77c78 n s0 =
 (S108c78 n s0).bind fun r1' =>
 some (decide (r1' ≥ 0)) := by kernel_rfl
theorem S77c78_run (n : Nat × Nat) (xs : pksDen pk77c78) : S77c78 n xs.1 = runG (E77c78 n) noScope c77c78 an77c78 (rtG rk77c78) (fun _ _ => none) (rtG rk77c78) (st0 pk77c78 xs Tryd.f77.ntmps) := by kernel_rfl
noncomputable def P77c78 (n : Nat × Nat) := phiOf pk77c78 rk77c78 (fun xs => S77c78 n xs.1)
theorem call77 : CallOK Tryd.prog 77 := callOK_of Tryd.func77 (by kernel_rfl) (by kernel_rfl)
theorem env77c78 (n : Nat × Nat) : EnvOK Tryd.prog (E77c78 n) := envOK0 (consPhi_ok (FC108c78 n) call108 noPhi_ok) rfl rfl
theorem par77c78 (n : Nat × Nat) : EnvPar (E77c78 n) := envPar0 (consPhi_par phiOf_Par1 noPhi_par) rfl
theorem FC77c78 (n : Nat × Nat) : FCs Tryd.prog 77 (P77c78 n) := phiOf_FCs fun xs r h vs hv => FC.of_runG tabOK eqsOK (env77c78 n) (par77c78 n) mixed (fun _ p _ => noScope_ok p.1 p.2) Tryd.func77 (c := c77c78) (an := an77c78) (pks := pk77c78) (rks := rk77c78) (by kernel_rfl) (by kernel_rfl) hv ((S77c78_run n xs).symm.trans h)
abbrev R46 := Int
noncomputable def c46 : Code := bodyOf Tryd.f46
noncomputable def an46 : Ann := (.s .l (.s (.j [] (.s .l (.j [] .l (.s .l (.j [] .l (.s .l (.j [] .l .l)))))) .l) .l))
def pk46 : List PK := [.c (.pair (.int .i64) (.sl (.int .i64)))]
def rk46 : List RK := [.c (.int .i64) 2]
noncomputable def rt46 (st : St) : Option R46 := rtG rk46 st
noncomputable def E46 (n : Nat × Nat) : Env := { T := tab, phi := (consPhi 77 (isFns [none, some 78]) (P77c78 n) noPhi), eff := fun _ => false, fuel := n.1, hold := n.2 }
noncomputable def S46 (n : Nat × Nat) (j0 : Int × List Int) : Option R46 := run (E46 n) c46 an46 rt46 (fun _ _ => none) rt46 { tm := [.agg [.int .i64 j0.1, .sl (.int .i64) j0.2 false], uu, uu, uu, uu, uu, uu, uu, uu, uu, uu, uu, uu, uu, uu, uu, uu, uu, uu, uu, uu], hp := emp }
theorem S46_eq (n : Nat × Nat) (j0 : Int × List Int) : S46 n j0 =
 ((bif (decide (j0.1 < 1) == false) then some (decide (j0.1 > 5))
 else some true)).bind fun b1' =>
 (bif b1' then some 1
 else (bif decide ((j0.2.length : Int) > 12) then some 3
 else (S77c78 n j0.2).bind fun r2' =>
 (bif r2' then some 2
 else some 0))) := by kernel_rfl
theorem S46_run (n : Nat × Nat) (xs : pksDen pk46) : S46 n xs.1 = runG (E46 n) noScope c46 an46 (rtG rk46) (fun _ _ => none) (rtG rk46) (st0 pk46 xs Tryd.f46.ntmps) := by kernel_rfl
noncomputable def P46 (n : Nat × Nat) := phiOf pk46 rk46 (fun xs => S46 n xs.1)
theorem env46 (n : Nat × Nat) : EnvOK Tryd.prog (E46 n) := envOK0 (consPhi_ok (FC77c78 n) call77 noPhi_ok) rfl rfl
theorem par46 (n : Nat × Nat) : EnvPar (E46 n) := envPar0 (consPhi_par phiOf_Par1 noPhi_par) rfl
theorem FC46 (n : Nat × Nat) : FCs Tryd.prog 46 (P46 n) := phiOf_FCs fun xs r h vs hv => FC.of_runG tabOK eqsOK (env46 n) (par46 n) mixed (fun _ p _ => noScope_ok p.1 p.2) Tryd.func46 (c := c46) (an := an46) (pks := pk46) (rks := rk46) (by kernel_rfl) (by kernel_rfl) hv ((S46_run n xs).symm.trans h)
/-D 78 -/
noncomputable def D78 (n : Nat × Nat) (p0 : Int) : Option R78 :=
 ((bif (decide (p0 < 0) == false) then some (decide (p0 ≥ 6))
 else some true)).bind fun b1' =>
 some b1'
theorem S78_D (n : Nat × Nat) (hn : n.2 = 1) : S78 n = D78 n := by
  funext p0; refine (S78_eq n p0).trans ?_
  unfold D78
  first | with_reducible rfl | rfl
/-D 108c78 -/
noncomputable def DF108c78_1 (n : Nat × Nat) (f1 : List Int → Int → Int → Option R108c78) (s0 : List Int) (v7 : Int) (v8 : Int) : Option R108c78 :=
 (bif decide (v8 < v7) then (idx s0 v8).bind fun x1' =>
 (D78 n x1').bind fun r2' =>
 (bif r2' then some v8
 else f1 s0 v7 (wr .i64 (v8 + 1)))
 else some (-1))
noncomputable def DL108c78_1 (n : Nat × Nat) (m : Nat) : List Int → Int → Int → Option R108c78 := Nat.rec (motive := fun _ => List Int → Int → Int → Option R108c78) (fun _ _ _ => none) (fun _ ih => DF108c78_1 n ih) m
theorem DL108c78_1_succ (n : Nat × Nat) (m : Nat) : DL108c78_1 n (m + 1) = DF108c78_1 n (DL108c78_1 n m) := rfl
theorem DL108c78_1_eq (n : Nat × Nat) (hn : n.2 = 1) : ∀ m, L108c78_1 n m = DL108c78_1 n m
  | 0 => by funext s0 v7 v8; kernel_rfl
  | m + 1 => by
    have ih := DL108c78_1_eq n hn m
    funext s0 v7 v8; refine (L108c78_1_eq n m s0 v7 v8).trans ?_
    rw [DL108c78_1_succ]
    unfold DF108c78_1
    (try simp only [ih, S78_D n hn]) <;> first | with_reducible rfl | rfl
noncomputable def D108c78 (n : Nat × Nat) (s0 : List Int) : Option R108c78 :=
    DL108c78_1 n n.1 s0 (s0.length : Int) 0
theorem S108c78_D (n : Nat × Nat) (hn : n.2 = 1) : S108c78 n = D108c78 n := by
  funext s0; refine (S108c78_eq n s0).trans ?_
  unfold D108c78
  (try simp only [DL108c78_1_eq n hn, S78_D n hn]) <;> first | with_reducible rfl | rfl
/-D 77c78 -/
noncomputable def D77c78 (n : Nat × Nat) (s0 : List Int) : Option R77c78 :=
 (D108c78 n s0).bind fun r1' =>
 some (decide (r1' ≥ 0))
theorem S77c78_D (n : Nat × Nat) (hn : n.2 = 1) : S77c78 n = D77c78 n := by
  funext s0; refine (S77c78_eq n s0).trans ?_
  unfold D77c78
  (try simp only [S108c78_D n hn]) <;> first | with_reducible rfl | rfl
/-D 46 -/
noncomputable def D46 (n : Nat × Nat) (j0 : Int × List Int) : Option R46 :=
 ((bif (decide (j0.1 < 1) == false) then some (decide (j0.1 > 5))
 else some true)).bind fun b1' =>
 (bif b1' then some 1
 else (bif decide ((j0.2.length : Int) > 12) then some 3
 else (D77c78 n j0.2).bind fun r2' =>
 (bif r2' then some 2
 else some 0)))
theorem S46_D (n : Nat × Nat) (hn : n.2 = 1) : S46 n = D46 n := by
  funext j0; refine (S46_eq n j0).trans ?_
  unfold D46
  (try simp only [S77c78_D n hn]) <;> first | with_reducible rfl | rfl
/- math/bits.OnesCount64 -/
abbrev R124 := Int
noncomputable def c124 : Code := bodyOf Tryd.f124
noncomputable def an124 : Ann := .l
def pk124 : List PK := [.c (.int .u64)]
def rk124 : List RK := [.c (.int .i64) 2]
noncomputable def rt124 (st : St) : Option R124 := rtG rk124 st
noncomputable def E124 (n : Nat × Nat) : Env := { T := tab, phi := noPhi, eff := fun _ => false, fuel := n.1, hold := n.2 }
noncomputable def S124 (n : Nat × Nat) (x0 : Int) : Option R124 := run (E124 n) c124 an124 rt124 (fun _ _ => none) rt124 { tm := [.c (.int .u64 x0), uu, uu, uu, uu, uu, uu, uu, uu, uu, uu, uu, uu, uu, uu, uu, uu, uu, uu, uu, uu, uu, uu, uu, uu, uu, uu, uu, uu, uu, uu, uu, uu, uu, uu], hp := emp }
theorem S124_eq (n : Nat × Nat) (x0 : Int) : S124 n x0 =
 (bif decide (1 < 0) then none
 else (bif decide (2 < 0) then none
 else (bif decide (4 < 0) then none
 else (bif decide (8 < 0) then none
 else (bif decide (16 < 0) then none
 else (bif decide (32 < 0) then none
 else some (wr .i64 (BitVec.ofInt (IntKind.bits .i64) (wr .i64 (wr .u64 ((wr .u64 ((wr .u64 ((wr .u64 (BitVec.ofInt (IntKind.bits .u64) (wr .u64 ((Int.fdiv (wr .u64 ((wr .u64 (BitVec.ofInt (IntKind.bits .u64) (Int.fdiv (wr .u64 ((wr .u64 (BitVec.ofInt (IntKind.bits .u64) (Int.fdiv x0 (2 ^ (min (Int.toNat 1) (IntKind.bits .u64)))) &&& BitVec.ofInt (IntKind.bits .u64) 6148914691236517205).toNat) + (wr .u64 (BitVec.ofInt (IntKind.bits .u64) x0 &&& BitVec.ofInt (IntKind.bits .u64) 6148914691236517205).toNat))) (2 ^ (min (Int.toNat 2) (IntKind.bits .u64)))) &&& BitVec.ofInt (IntKind.bits .u64) 3689348814741910323).toNat) + (wr .u64 (BitVec.ofInt (IntKind.bits .u64) (wr .u64 ((wr .u64 (BitVec.ofInt (IntKind.bits .u64) (Int.fdiv x0 (2 ^ (min (Int.toNat 1) (IntKind.bits .u64)))) &&& BitVec.ofInt (IntKind.bits .u64) 6148914691236517205).toNat) + (wr .u64 (BitVec.ofInt (IntKind.bits .u64) x0 &&& BitVec.ofInt (IntKind.bits .u64) 6148914691236517205).toNat))) &&& BitVec.ofInt (IntKind.bits .u64) 3689348814741910323).toNat))) (2 ^ (min (Int.toNat 4) (IntKind.bits .u64)))) + (wr .u64 ((wr .u64 (BitVec.ofInt (IntKind.bits .u64) (Int.fdiv (wr .u64 ((wr .u64 (BitVec.ofInt (IntKind.bits .u64) (Int.fdiv x0 (2 ^ (min (Int.toNat 1) (IntKind.bits .u64)))) &&& BitVec.ofInt (IntKind.bits .u64) 6148914691236517205).toNat) + (wr .u64 (BitVec.ofInt (IntKind.bits .u64) x0 &&& BitVec.ofInt (IntKind.bits .u64) 6148914691236517205).toNat))) (2 ^ (min (Int.toNat 2) (IntKind.bits .u64)))) &&& BitVec.ofInt (IntKind.bits .u64) 3689348814741910323).toNat) + (wr .u64 (BitVec.ofInt (IntKind.bits .u64) (wr .u64 ((wr .u64 (BitVec.ofInt (IntKind.bits .u64) (Int.fdiv x0 (2 ^ (min (Int.toNat 1) (IntKind.bits .u64)))) &&& BitVec.ofInt (IntKind.bits .u64) 6148914691236517205).toNat) + (wr .u64 (BitVec.ofInt (IntKind.bits .u64) x0 &&& BitVec.ofInt (IntKind.bits .u64) 6148914691236517205).toNat))) &&& BitVec.ofInt (IntKind.bits .u64) 3689348814741910323).toNat))))) &&& BitVec.ofInt (IntKind.bits .u64) 1085102592571150095).toNat) + (Int.fdiv (wr .u64 (BitVec.ofInt (IntKind.bits .u64) (wr .u64 ((Int.fdiv (wr .u64 ((wr .u64 (BitVec.ofInt (IntKind.bits .u64) (Int.fdiv (wr .u64 ((wr .u64 (BitVec.ofInt (IntKind.bits .u64) (Int.fdiv x0 (2 ^ (min (Int.toNat 1) (IntKind.bits .u64)))) &&& BitVec.ofInt (IntKind.bits .u64) 6148914691236517205).toNat) + (wr .u64 (BitVec.ofInt (IntKind.bits .u64) x0 &&& BitVec.ofInt (IntKind.bits .u64) 6148914691236517205).toNat))) (2 ^ (min (Int.toNat 2) (IntKind.bits .u64)))) &&& BitVec.ofInt (IntKind.bits .u64) 3689348814741910323).toNat) + (wr .u64 (BitVec.ofInt (IntKind.bits .u64) (wr .u64 ((wr .u64 (BitVec.ofInt (IntKind.bits .u64) (Int.fdiv x0 (2 ^ (min (Int.toNat 1) (IntKind.bits .u64)))) &&& BitVec.ofInt (IntKind.bits .u64) 6148914691236517205).toNat) + (wr .u64 (BitVec.ofInt (IntKind.bits .u64) x0 &&& BitVec.ofInt (IntKind.bits .u64) 6148914691236517205).toNat))) &&& BitVec.ofInt (IntKind.bits .u64) 3689348814741910323).toNat))) (2 ^ (min (Int.toNat 4) (IntKind.bits .u64)))) + (wr .u64 ((wr .u64 (BitVec.ofInt (IntKind.bits .u64) (Int.fdiv (wr .u64 ((wr .u64 (BitVec.ofInt (IntKind.bits .u64) (Int.fdiv x0 (2 ^ (min (Int.toNat 1) (IntKind.bits .u64)))) &&& BitVec.ofInt (IntKind.bits .u64) 6148914691236517205).toNat) + (wr .u64 (BitVec.ofInt (IntKind.bits .u64) x0 &&& BitVec.ofInt (IntKind.bits .u64) 6148914691236517205).toNat))) (2 ^ (min (Int.toNat 2) (IntKind.bits .u64)))) &&& BitVec.ofInt (IntKind.bits .u64) 3689348814741910323).toNat) + (wr .u64 (BitVec.ofInt (IntKind.bits .u64) (wr .u64 ((wr .u64 (BitVec.ofInt (IntKind.bits .u64) (Int.fdiv x0 (2 ^ (min (Int.toNat 1) (IntKind.bits .u64)))) &&& BitVec.ofInt (IntKind.bits .u64) 6148914691236517205).toNat) + (wr .u64 (BitVec.ofInt (IntKind.bits .u64) x0 &&& BitVec.ofInt (IntKind.bits .u64) 6148914691236517205).toNat))) &&& BitVec.ofInt (IntKind.bits .u64) 3689348814741910323).toNat))))) &&& BitVec.ofInt (IntKind.bits .u64) 1085102592571150095).toNat) (2 ^ (min (Int.toNat 8) (IntKind.bits .u64)))))) + (Int.fdiv (wr .u64 ((wr .u64 (BitVec.ofInt (IntKind.bits .u64) (wr .u64 ((Int.fdiv (wr .u64 ((wr .u64 (BitVec.ofInt (IntKind.bits .u64) (Int.fdiv (wr .u64 ((wr .u64 (BitVec.ofInt (IntKind.bits .u64) (Int.fdiv x0 (2 ^ (min (Int.toNat 1) (IntKind.bits .u64)))) &&& BitVec.ofInt (IntKind.bits .u64) 6148914691236517205).toNat) + (wr .u64 (BitVec.ofInt (IntKind.bits .u64) x0 &&& BitVec.ofInt (IntKind.bits .u64) 6148914691236517205).toNat))) (2 ^ (min (Int.toNat 2) (IntKind.bits .u64)))) &&& BitVec.ofInt (IntKind.bits .u64) 3689348814741910323).toNat) + (wr .u64 (BitVec.ofInt (IntKind.bits .u64) (wr .u64 ((wr .u64 (BitVec.ofInt (IntKind.bits .u64) (Int.fdiv x0 (2 ^ (min (Int.toNat 1) (IntKind.bits .u64)))) &&& BitVec.ofInt (IntKind.bits .u64) 6148914691236517205).toNat) + (wr .u64 (BitVec.ofInt (IntKind.bits .u64) x0 &&& BitVec.ofInt (IntKind.bits .u64) 6148914691236517205).toNat))) &&& BitVec.ofInt (IntKind.bits .u64) 3689348814741910323).toNat))) (2 ^ (min (Int.toNat 4) (IntKind.bits .u64)))) + (wr .u64 ((wr .u64 (BitVec.ofInt (IntKind.bits .u64) (Int.fdiv (wr .u64 ((wr .u64 (BitVec.ofInt (IntKind.bits .u64) (Int.fdiv x0 (2 ^ (min (Int.toNat 1) (IntKind.bits .u64)))) &&& BitVec.ofInt (IntKind.bits .u64) 6148914691236517205).toNat) + (wr .u64 (BitVec.ofInt (IntKind.bits .u64) x0 &&& BitVec.ofInt (IntKind.bits .u64) 6148914691236517205).toNat))) (2 ^ (min (Int.toNat 2) (IntKind.bits .u64)))) &&& BitVec.ofInt (IntKind.bits .u64) 3689348814741910323).toNat) + (wr .u64 (BitVec.ofInt (IntKind.bits .u64) (wr .u64 ((wr .u64 (BitVec.ofInt (IntKind.bits .u64) (Int.fdiv x0 (2 ^ (min (Int.toNat 1) (IntKind.bits .u64)))) &&& BitVec.ofInt (IntKind.bits .u64) 6148914691236517205).toNat) + (wr .u64 (BitVec.ofInt (IntKind.bits .u64) x0 &&& BitVec.ofInt (IntKind.bits .u64) 6148914691236517205).toNat))) &&& BitVec.ofInt (IntKind.bits .u64) 3689348814741910323).toNat))))) &&& BitVec.ofInt (IntKind.bits .u64) 1085102592571150095).toNat) + (Int.fdiv (wr .u64 (BitVec.ofInt (IntKind.bits .u64) (wr .u64 ((Int.fdiv (wr .u64 ((wr .u64 (BitVec.ofInt (IntKind.bits .u64) (Int.fdiv (wr .u64 ((wr .u64 (BitVec.ofInt (IntKind.bits .u64) (Int.fdiv x0 (2 ^ (min (Int.toNat 1) (IntKind.bits .u64)))) &&& BitVec.ofInt (IntKind.bits .u64) 6148914691236517205).toNat) + (wr .u64 (BitVec.ofInt (IntKind.bits .u64) x0 &&& BitVec.ofInt (IntKind.bits .u64) 6148914691236517205).toNat))) (2 ^ (min (Int.toNat 2) (IntKind.bits .u64)))) &&& BitVec.ofInt (IntKind.bits .u64) 3689348814741910323).toNat) + (wr .u64 (BitVec.ofInt (IntKind.bits .u64) (wr .u64 ((wr .u64 (BitVec.ofInt (IntKind.bits .u64) (Int.fdiv x0 (2 ^ (min (Int.toNat 1) (IntKind.bits .u64)))) &&& BitVec.ofInt (IntKind.bits .u64) 6148914691236517205).toNat) + (wr .u64 (BitVec.ofInt (IntKind.bits .u64) x0 &&& BitVec.ofInt (IntKind.bits .u64) 6148914691236517205).toNat))) &&& BitVec.ofInt (IntKind.bits .u64) 3689348814741910323).toNat))) (2 ^ (min (Int.toNat 4) (IntKind.bits .u64)))) + (wr .u64 ((wr .u64 (BitVec.ofInt (IntKind.bits .u64) (Int.fdiv (wr .u64 ((wr .u64 (BitVec.ofInt (IntKind.bits .u64) (Int.fdiv x0 (2 ^ (min (Int.toNat 1) (IntKind.bits .u64)))) &&& BitVec.ofInt (IntKind.bits .u64) 6148914691236517205).toNat) + (wr .u64 (BitVec.ofInt (IntKind.bits .u64) x0 &&& BitVec.ofInt (IntKind.bits .u64) 6148914691236517205).toNat))) (2 ^ (min (Int.toNat 2) (IntKind.bits .u64)))) &&& BitVec.ofInt (IntKind.bits .u64) 3689348814741910323).toNat) + (wr .u64 (BitVec.ofInt (IntKind.bits .u64) (wr .u64 ((wr .u64 (BitVec.ofInt (IntKind.bits .u64) (Int.fdiv x0 (2 ^ (min (Int.toNat 1) (IntKind.bits .u64)))) &&& BitVec.ofInt (IntKind.bits .u64) 6148914691236517205).toNat) + (wr .u64 (BitVec.ofInt (IntKind.bits .u64) x0 &&& BitVec.ofInt (IntKind.bits .u64) 6148914691236517205).toNat))) &&& BitVec.ofInt (IntKind.bits .u64) 3689348814741910323).toNat))))) &&& BitVec.ofInt (IntKind.bits .u64) 1085102592571150095).toNat) (2 ^ (min (Int.toNat 8) (IntKind.bits .u64)))))) (2 ^ (min (Int.toNat 16) (IntKind.bits .u64)))))) + (Int.fdiv (wr .u64 ((wr .u64 ((wr .u64 (BitVec.ofInt (IntKind.bits .u64) (wr .u64 ((Int.fdiv (wr .u64 ((wr .u64 (BitVec.ofInt (IntKind.bits .u64) (Int.fdiv (wr .u64 ((wr .u64 (BitVec.ofInt (IntKind.bits .u64) (Int.fdiv x0 (2 ^ (min (Int.toNat 1) (IntKind.bits .u64)))) &&& BitVec.ofInt (IntKind.bits .u64) 6148914691236517205).toNat) + (wr .u64 (BitVec.ofInt (IntKind.bits .u64) x0 &&& BitVec.ofInt (IntKind.bits .u64) 6148914691236517205).toNat))) (2 ^ (min (Int.toNat 2) (IntKind.bits .u64)))) &&& BitVec.ofInt (IntKind.bits .u64) 3689348814741910323).toNat) + (wr .u64 (BitVec.ofInt (IntKind.bits .u64) (wr .u64 ((wr .u64 (BitVec.ofInt (IntKind.bits .u64) (Int.fdiv x0 (2 ^ (min (Int.toNat 1) (IntKind.bits .u64)))) &&& BitVec.ofInt (IntKind.bits .u64) 6148914691236517205).toNat) + (wr .u64 (BitVec.ofInt (IntKind.bits .u64) x0 &&& BitVec.ofInt (IntKind.bits .u64) 6148914691236517205).toNat))) &&& BitVec.ofInt (IntKind.bits .u64) 3689348814741910323).toNat))) (2 ^ (min (Int.toNat 4) (IntKind.bits .u64)))) + (wr .u64 ((wr .u64 (BitVec.ofInt (IntKind.bits .u64) (Int.fdiv (wr .u64 ((wr .u64 (BitVec.ofInt (IntKind.bits .u64) (Int.fdiv x0 (2 ^ (min (Int.toNat 1) (IntKind.bits .u64)))) &&& BitVec.ofInt (IntKind.bits .u64) 6148914691236517205).toNat) + (wr .u64 (BitVec.ofInt (IntKind.bits .u64) x0 &&& BitVec.ofInt (IntKind.bits .u64) 6148914691236517205).toNat))) (2 ^ (min (Int.toNat 2) (IntKind.bits .u64)))) &&& BitVec.ofInt (IntKind.bits .u64) 3689348814741910323).toNat) + (wr .u64 (BitVec.ofInt (IntKind.bits .u64) (wr .u64 ((wr .u64 (BitVec.ofInt (IntKind.bits .u64) (Int.fdiv x0 (2 ^ (min (Int.toNat 1) (IntKind.bits .u64)))) &&& BitVec.ofInt (IntKind.bits .u64) 6148914691236517205).toNat) + (wr .u64 (BitVec.ofInt (IntKind.bits .u64) x0 &&& BitVec.ofInt (IntKind.bits .u64) 6148914691236517205).toNat))) &&& BitVec.ofInt (IntKind.bits .u64) 3689348814741910323).toNat))))) &&& BitVec.ofInt (IntKind.bits .u64) 1085102592571150095).toNat) + (Int.fdiv (wr .u64 (BitVec.ofInt (IntKind.bits .u64) (wr .u64 ((Int.fdiv (wr .u64 ((wr .u64 (BitVec.ofInt (IntKind.bits .u64) (Int.fdiv (wr .u64 ((wr .u64 (BitVec.ofInt (IntKind.bits .u64) (Int.fdiv x0 (2 ^ (min (Int.toNat 1) (IntKind.bits .u64)))) &&& BitVec.ofInt (IntKind.bits .u64) 6148914691236517205).toNat) + (wr .u64 (BitVec.ofInt (IntKind.bits .u64) x0 &&& BitVec.ofInt (IntKind.bits .u64) 6148914691236517205).toNat))) (2 ^ (min (Int.toNat 2) (IntKind.bits .u64)))) &&& BitVec.ofInt (IntKind.bits .u64) 3689348814741910323).toNat) + (wr .u64 (BitVec.ofInt (IntKind.bits .u64) (wr .u64 ((wr .u64 (BitVec.ofInt (IntKind.bits .u64) (Int.fdiv x0 (2 ^ (min (Int.toNat 1) (IntKind.bits .u64)))) &&& BitVec.ofInt (IntKind.bits .u64) 6148914691236517205).toNat) + (wr .u64 (BitVec.ofInt (IntKind.bits .u64) x0 &&& BitVec.ofInt (IntKind.bits .u64) 6148914691236517205).toNat))) &&& BitVec.ofInt (IntKind.bits .u64) 3689348814741910323).toNat))) (2 ^ (min (Int.toNat 4) (IntKind.bits .u64)))) + (wr .u64 ((wr .u64 (BitVec.ofInt (IntKind.bits .u64) (Int.fdiv (wr .u64 ((wr .u64 (BitVec.ofInt (IntKind.bits .u64) (Int.fdiv x0 (2 ^ (min (Int.toNat 1) (IntKind.bits .u64)))) &&& BitVec.ofInt (IntKind.bits .u64) 6148914691236517205).toNat) + (wr .u64 (BitVec.ofInt (IntKind.bits .u64) x0 &&& BitVec.ofInt (IntKind.bits .u64) 6148914691236517205).toNat))) (2 ^ (min (Int.toNat 2) (IntKind.bits .u64)))) &&& BitVec.ofInt (IntKind.bits .u64) 3689348814741910323).toNat) + (wr .u64 (BitVec.ofInt (IntKind.bits .u64) (wr .u64 ((wr .u64 (BitVec.ofInt (IntKind.bits .u64) (Int.fdiv x0 (2 ^ (min (Int.toNat 1) (IntKind.bits .u64)))) &&& BitVec.ofInt (IntKind.bits .u64) 6148914691236517205).toNat) + (wr .u64 (BitVec.ofInt (IntKind.bits .u64) x0 &&& BitVec.ofInt (IntKind.bits .u64) 6148914691236517205).toNat))) &&& BitVec.ofInt (IntKind.bits .u64) 3689348814741910323).toNat))))) &&& BitVec.ofInt (IntKind.bits .u64) 1085102592571150095).toNat) (2 ^ (min (Int.toNat 8) (IntKind.bits .u64)))))) + (Int.fdiv (wr .u64 ((wr .u64 (BitVec.ofInt (IntKind.bits .u64) (wr .u64 ((Int.fdiv (wr .u64 ((wr .u64 (BitVec.ofInt (IntKind.bits .u64) (Int.fdiv (wr .u64 ((wr .u64 (BitVec.ofInt (IntKind.bits .u64) (Int.fdiv x0 (2 ^ (min (Int.toNat 1) (IntKind.bits .u64)))) &&& BitVec.ofInt (IntKind.bits .u64) 6148914691236517205).toNat) + (wr .u64 (BitVec.ofInt (IntKind.bits .u64) x0 &&& BitVec.ofInt (IntKind.bits .u64) 6148914691236517205).toNat))) (2 ^ (min (Int.toNat 2) (IntKind.bits .u64)))) &&& BitVec.ofInt (IntKind.bits .u64) 3689348814741910323).toNat) + (wr .u64 (BitVec.ofInt (IntKind.bits .u64) (wr .u64 ((wr .u64 (BitVec.ofInt (IntKind.bits .u64) (Int.fdiv x0 (2 ^ (min (Int.toNat 1) (IntKind.bits .u64)))) &&& BitVec.ofInt (IntKind.bits .u64) 6148914691236517205).toNat) + (wr .u64 (BitVec.ofInt (IntKind.bits .u64) x0 &&& BitVec.ofInt (IntKind.bits .u64) 6148914691236517205).toNat))) &&& BitVec.ofInt (IntKind.bits .u64) 3689348814741910323).toNat))) (2 ^ (min (Int.toNat 4) (IntKind.bits .u64)))) + (wr .u64 ((wr .u64 (BitVec.ofInt (IntKind.bits .u64) (Int.fdiv (wr .u64 ((wr .u64 (BitVec.ofInt (IntKind.bits .u64) (Int.fdiv x0 (2 ^ (min (Int.toNat 1) (IntKind.bits .u64)))) &&& BitVec.ofInt (IntKind.bits .u64) 6148914691236517205).toNat) + (wr .u64 (BitVec.ofInt (IntKind.bits .u64) x0 &&& BitVec.ofInt (IntKind.bits .u64) 6148914691236517205).toNat))) (2 ^ (min (Int.toNat 2) (IntKind.bits .u64)))) &&& BitVec.ofInt (IntKind.bits .u64) 3689348814741910323).toNat) + (wr .u64 (BitVec.ofInt (IntKind.bits .u64) (wr .u64 ((wr .u64 (BitVec.ofInt (IntKind.bits .u64) (Int.fdiv x0 (2 ^ (min (Int.toNat 1) (IntKind.bits .u64)))) &&& BitVec.ofInt (IntKind.bits .u64) 6148914691236517205).toNat) + (wr .u64 (BitVec.ofInt (IntKind.bits .u64) x0 &&& BitVec.ofInt (IntKind.bits .u64) 6148914691236517205).toNat))) &&& BitVec.ofInt (IntKind.bits .u64) 3689348814741910323).toNat))))) &&& BitVec.ofInt (IntKind.bits .u64) 1085102592571150095).toNat) + (Int.fdiv (wr .u64 (BitVec.ofInt (IntKind.bits .u64) (wr .u64 ((Int.fdiv (wr .u64 ((wr .u64 (BitVec.ofInt (IntKind.bits .u64) (Int.fdiv (wr .u64 ((wr .u64 (BitVec.ofInt (IntKind.bits .u64) (Int.fdiv x0 (2 ^ (min (Int.toNat 1) (IntKind.bits .u64)))) &&& BitVec.ofInt (IntKind.bits .u64) 6148914691236517205).toNat) + (wr .u64 (BitVec.ofInt (IntKind.bits .u64) x0 &&& BitVec.ofInt (IntKind.bits .u64) 6148914691236517205).toNat))) (2 ^ (min (Int.toNat 2) (IntKind.bits .u64)))) &&& BitVec.ofInt (IntKind.bits .u64) 3689348814741910323).toNat) + (wr .u64 (BitVec.ofInt (IntKind.bits .u64) (wr .u64 ((wr .u64 (BitVec.ofInt (IntKind.bits .u64) (Int.fdiv x0 (2 ^ (min (Int.toNat 1) (IntKind.bits .u64)))) &&& BitVec.ofInt (IntKind.bits .u64) 6148914691236517205).toNat) + (wr .u64 (BitVec.ofInt (IntKind.bits .u64) x0 &&& BitVec.ofInt (IntKind.bits .u64) 6148914691236517205).toNat))) &&& BitVec.ofInt (IntKind.bits .u64) 3689348814741910323).toNat))) (2 ^ (min (Int.toNat 4) (IntKind.bits .u64)))) + (wr .u64 ((wr .u64 (BitVec.ofInt (IntKind.bits .u64) (Int.fdiv (wr .u64 ((wr .u64 (BitVec.ofInt (IntKind.bits .u64) (Int.fdiv x0 (2 ^ (min (Int.toNat 1) (IntKind.bits .u64)))) &&& BitVec.ofInt (IntKind.bits .u64) 6148914691236517205).toNat) + (wr .u64 (BitVec.ofInt (IntKind.bits .u64) x0 &&& BitVec.ofInt (IntKind.bits .u64) 6148914691236517205).toNat))) (2 ^ (min (Int.toNat 2) (IntKind.bits .u64)))) &&& BitVec.ofInt (IntKind.bits .u64) 3689348814741910323).toNat) + (wr .u64 (BitVec.ofInt (IntKind.bits .u64) (wr .u64 ((wr .u64 (BitVec.ofInt (IntKind.bits .u64) (Int.fdiv x0 (2 ^ (min (Int.toNat 1) (IntKind.bits .u64)))) &&& BitVec.ofInt (IntKind.bits .u64) 6148914691236517205).toNat) + (wr .u64 (BitVec.ofInt (IntKind.bits .u64) x0 &&& BitVec.ofInt (IntKind.bits .u64) 6148914691236517205).toNat))) &&& BitVec.ofInt (IntKind.bits .u64) 3689348814741910323).toNat))))) &&& BitVec.ofInt (IntKind.bits .u64) 1085102592571150095).toNat) (2 ^ (min (Int.toNat 8) (IntKind.bits .u64)))))) (2 ^ (min (Int.toNat 16) (IntKind.bits .u64)))))) (2 ^ (min (Int.toNat 32) (IntKind.bits .u64))))))) &&& BitVec.ofInt (IntKind.bits .i64) 127).toNat))))))) := by kernel_rfl
theorem S124_run (n : Nat × Nat) (xs : pksDen pk124) : S124 n xs.1 = runG (E124 n) noScope c124 an124 (rtG rk124) (fun _ _ => none) (rtG rk124) (st0 pk124 xs Tryd.f124.ntmps) := by kernel_rfl
noncomputable def P124 (n : Nat × Nat) := phiOf pk124 rk124 (fun xs => S124 n xs.1)
theorem call124 : CallOK Tryd.prog 124 := callOK_of Tryd.func124 (by kernel_rfl) (by kernel_rfl)
theorem env124 (n : Nat × Nat) : EnvOK Tryd.prog (E124 n) := envOK0 noPhi_ok rfl rfl
theorem par124 (n : Nat × Nat) : EnvPar (E124 n) := envPar0 noPhi_par rfl
theorem FC124 (n : Nat × Nat) : FCs Tryd.prog 124 (P124 n) := phiOf_FCs fun xs r h vs hv => FC.of_runG tabOK eqsOK (env124 n) (par124 n) mixed (fun _ p _ => noScope_ok p.1 p.2) Tryd.func124 (c := c124) (an := an124) (pks := pk124) (rks := rk124) (by kernel_rfl) (by kernel_rfl) hv ((S124_run n xs).symm.trans h)
/- math/bits.OnesCount -/
abbrev R109 := Int
noncomputable def c109 : Code := bodyOf Tryd.f109
noncomputable def an109 : Ann := (.s .l (.s (.j [0] .l .l) .l))
def pk109 : List PK := [.c (.int .u64)]
def rk109 : List RK := [.c (.int .i64) 2]
noncomputable def rt109 (st : St) : Option R109 := rtG rk109 st
noncomputable def E109 (n : Nat × Nat) : Env := { T := tab, phi := (consPhi 124 (fun _ => true) (P124 n) noPhi), eff := fun _ => false, fuel := n.1, hold := n.2 }
noncomputable def S109 (n : Nat × Nat) (x0 : Int) : Option R109 := run (E109 n) c109 an109 rt109 (fun _ _ => none) rt109 { tm := [.c (.int .u64 x0), uu, uu, uu, uu, uu, uu, uu], hp := emp }
theorem S109_eq (n : Nat × Nat) (x0 : Int) : S109 n x0 =
 (S124 n x0).bind fun r1' =>
 some r1' := by kernel_rfl
theorem S109_run (n : Nat × Nat) (xs : pksDen pk109) : S109 n xs.1 = runG (E109 n) noScope c109 an109 (rtG rk109) (fun _ _ => none) (rtG rk109) (st0 pk109 xs Tryd.f109.ntmps) := by kernel_rfl
noncomputable def P109 (n : Nat × Nat) := phiOf pk109 rk109 (fun xs => S109 n xs.1)
theorem call109 : CallOK Tryd.prog 109 := callOK_of Tryd.func109 (by kernel_rfl) (by kernel_rfl)
theorem env109 (n : Nat × Nat) : EnvOK Tryd.prog (E109 n) := envOK0 (consPhi_ok (FC124 n) call124 noPhi_ok) rfl rfl
theorem par109 (n : Nat × Nat) : EnvPar (E109 n) := envPar0 (consPhi_par phiOf_Par1 noPhi_par) rfl
theorem FC109 (n : Nat × Nat) : FCs Tryd.prog 109 (P109 n) := phiOf_FCs fun xs r h vs hv => FC.of_runG tabOK eqsOK (env109 n) (par109 n) mixed (fun _ p _ => noScope_ok p.1 p.2) Tryd.func109 (c := c109) (an := an109) (pks := pk109) (rks := rk109) (by kernel_rfl) (by kernel_rfl) hv ((S109_run n xs).symm.trans h)
/- (headword/stand.floor).full -/
abbrev R79 := Bool
noncomputable def c79 : Code := bodyOf Tryd.f79
noncomputable def an79 : Ann := .l
def pk79 : List PK := [.c (.pair (.int .u64) .unit), .c (.int .i64), .c (.int .i64)]
def rk79 : List RK := [.c .bool 6]
noncomputable def rt79 (st : St) : Option R79 := rtG rk79 st
noncomputable def E79 (n : Nat × Nat) : Env := { T := tab, phi := (consPhi 109 (fun _ => true) (P109 n) noPhi), eff := fun _ => false, fuel := n.1, hold := n.2 }
noncomputable def S79 (n : Nat × Nat) (f0 : Int × Unit) (page1 : Int) (room2 : Int) : Option R79 := run (E79 n) c79 an79 rt79 (fun _ _ => none) rt79 { tm := [.agg [.int .u64 f0.1], .c (.int .i64 page1), .c (.int .i64 room2), uu, uu, uu, uu, uu, uu, uu, uu, uu, uu, uu, uu, uu, uu, uu, uu, uu], hp := emp }
theorem S79_eq (n : Nat × Nat) (f0 : Int × Unit) (page1 : Int) (room2 : Int) : S79 n f0 page1 room2 =
 (bif decide (page1 < 0) then none
 else ((bif (((wr .u64 (BitVec.ofInt (IntKind.bits .u64) (Int.fdiv f0.1 (2 ^ (min (Int.toNat page1) (IntKind.bits .u64)))) &&& BitVec.ofInt (IntKind.bits .u64) 1).toNat) == 0) == true) then (S109 n f0.1).bind fun r1' =>
 some (decide (r1' ≥ room2))
 else some false)).bind fun b2' =>
 some b2') := by kernel_rfl
theorem S79_run (n : Nat × Nat) (xs : pksDen pk79) : S79 n xs.1 xs.2.1 xs.2.2.1 = runG (E79 n) noScope c79 an79 (rtG rk79) (fun _ _ => none) (rtG rk79) (st0 pk79 xs Tryd.f79.ntmps) := by kernel_rfl
noncomputable def P79 (n : Nat × Nat) := phiOf pk79 rk79 (fun xs => S79 n xs.1 xs.2.1 xs.2.2.1)
theorem env79 (n : Nat × Nat) : EnvOK Tryd.prog (E79 n) := envOK0 (consPhi_ok (FC109 n) call109 noPhi_ok) rfl rfl
theorem par79 (n : Nat × Nat) : EnvPar (E79 n) := envPar0 (consPhi_par phiOf_Par1 noPhi_par) rfl
theorem FC79 (n : Nat × Nat) : FCs Tryd.prog 79 (P79 n) := phiOf_FCs fun xs r h vs hv => FC.of_runG tabOK eqsOK (env79 n) (par79 n) mixed (fun _ p _ => noScope_ok p.1 p.2) Tryd.func79 (c := c79) (an := an79) (pks := pk79) (rks := rk79) (by kernel_rfl) (by kernel_rfl) hv ((S79_run n xs).symm.trans h)
/-D 124 -/
noncomputable def D124 (n : Nat × Nat) (x0 : Int) : Option R124 :=
 (bif decide (1 < 0) then none
 else (bif decide (2 < 0) then none
 else (bif decide (4 < 0) then none
 else (bif decide (8 < 0) then none
 else (bif decide (16 < 0) then none
 else (bif decide (32 < 0) then none
 else some (wr .i64 (BitVec.ofInt (IntKind.bits .i64) (wr .i64 (wr .u64 ((wr .u64 ((wr .u64 ((wr .u64 (BitVec.ofInt (IntKind.bits .u64) (wr .u64 ((Int.fdiv (wr .u64 ((wr .u64 (BitVec.ofInt (IntKind.bits .u64) (Int.fdiv (wr .u64 ((wr .u64 (BitVec.ofInt (IntKind.bits .u64) (Int.fdiv x0 (2 ^ (min (Int.toNat 1) (IntKind.bits .u64)))) &&& BitVec.ofInt (IntKind.bits .u64) 6148914691236517205).toNat) + (wr .u64 (BitVec.ofInt (IntKind.bits .u64) x0 &&& BitVec.ofInt (IntKind.bits .u64) 6148914691236517205).toNat))) (2 ^ (min (Int.toNat 2) (IntKind.bits .u64)))) &&& BitVec.ofInt (IntKind.bits .u64) 3689348814741910323).toNat) + (wr .u64 (BitVec.ofInt (IntKind.bits .u64) (wr .u64 ((wr .u64 (BitVec.ofInt (IntKind.bits .u64) (Int.fdiv x0 (2 ^ (min (Int.toNat 1) (IntKind.bits .u64)))) &&& BitVec.ofInt (IntKind.bits .u64) 6148914691236517205).toNat) + (wr .u64 (BitVec.ofInt (IntKind.bits .u64) x0 &&& BitVec.ofInt (IntKind.bits .u64) 6148914691236517205).toNat))) &&& BitVec.ofInt (IntKind.bits .u64) 3689348814741910323).toNat))) (2 ^ (min (Int.toNat 4) (IntKind.bits .u64)))) + (wr .u64 ((wr .u64 (BitVec.ofInt (IntKind.bits .u64) (Int.fdiv (wr .u64 ((wr .u64 (BitVec.ofInt (IntKind.bits .u64) (Int.fdiv x0 (2 ^ (min (Int.toNat 1) (IntKind.bits .u64)))) &&& BitVec.ofInt (IntKind.bits .u64) 6148914691236517205).toNat) + (wr .u64 (BitVec.ofInt (IntKind.bits .u64) x0 &&& BitVec.ofInt (IntKind.bits .u64) 6148914691236517205).toNat))) (2 ^ (min (Int.toNat 2) (IntKind.bits .u64)))) &&& BitVec.ofInt (IntKind.bits .u64) 3689348814741910323).toNat) + (wr .u64 (BitVec.ofInt (IntKind.bits .u64) (wr .u64 ((wr .u64 (BitVec.ofInt (IntKind.bits .u64) (Int.fdiv x0 (2 ^ (min (Int.toNat 1) (IntKind.bits .u64)))) &&& BitVec.ofInt (IntKind.bits .u64) 6148914691236517205).toNat) + (wr .u64 (BitVec.ofInt (IntKind.bits .u64) x0 &&& BitVec.ofInt (IntKind.bits .u64) 6148914691236517205).toNat))) &&& BitVec.ofInt (IntKind.bits .u64) 3689348814741910323).toNat))))) &&& BitVec.ofInt (IntKind.bits .u64) 1085102592571150095).toNat) + (Int.fdiv (wr .u64 (BitVec.ofInt (IntKind.bits .u64) (wr .u64 ((Int.fdiv (wr .u64 ((wr .u64 (BitVec.ofInt (IntKind.bits .u64) (Int.fdiv (wr .u64 ((wr .u64 (BitVec.ofInt (IntKind.bits .u64) (Int.fdiv x0 (2 ^ (min (Int.toNat 1) (IntKind.bits .u64)))) &&& BitVec.ofInt (IntKind.bits .u64) 6148914691236517205).toNat) + (wr .u64 (BitVec.ofInt (IntKind.bits .u64) x0 &&& BitVec.ofInt (IntKind.bits .u64) 6148914691236517205).toNat))) (2 ^ (min (Int.toNat 2) (IntKind.bits .u64)))) &&& BitVec.ofInt (IntKind.bits .u64) 3689348814741910323).toNat) + (wr .u64 (BitVec.ofInt (IntKind.bits .u64) (wr .u64 ((wr .u64 (BitVec.ofInt (IntKind.bits .u64) (Int.fdiv x0 (2 ^ (min (Int.toNat 1) (IntKind.bits .u64)))) &&& BitVec.ofInt (IntKind.bits .u64) 6148914691236517205).toNat) + (wr .u64 (BitVec.ofInt (IntKind.bits .u64) x0 &&& BitVec.ofInt (IntKind.bits .u64) 6148914691236517205).toNat))) &&& BitVec.ofInt (IntKind.bits .u64) 3689348814741910323).toNat))) (2 ^ (min (Int.toNat 4) (IntKind.bits .u64)))) + (wr .u64 ((wr .u64 (BitVec.ofInt (IntKind.bits .u64) (Int.fdiv (wr .u64 ((wr .u64 (BitVec.ofInt (IntKind.bits .u64) (Int.fdiv x0 (2 ^ (min (Int.toNat 1) (IntKind.bits .u64)))) &&& BitVec.ofInt (IntKind.bits .u64) 6148914691236517205).toNat) + (wr .u64 (BitVec.ofInt (IntKind.bits .u64) x0 &&& BitVec.ofInt (IntKind.bits .u64) 6148914691236517205).toNat))) (2 ^ (min (Int.toNat 2) (IntKind.bits .u64)))) &&& BitVec.ofInt (IntKind.bits .u64) 3689348814741910323).toNat) + (wr .u64 (BitVec.ofInt (IntKind.bits .u64) (wr .u64 ((wr .u64 (BitVec.ofInt (IntKind.bits .u64) (Int.fdiv x0 (2 ^ (min (Int.toNat 1) (IntKind.bits .u64)))) &&& BitVec.ofInt (IntKind.bits .u64) 6148914691236517205).toNat) + (wr .u64 (BitVec.ofInt (IntKind.bits .u64) x0 &&& BitVec.ofInt (IntKind.bits .u64) 6148914691236517205).toNat))) &&& BitVec.ofInt (IntKind.bits .u64) 3689348814741910323).toNat))))) &&& BitVec.ofInt (IntKind.bits .u64) 1085102592571150095).toNat) (2 ^ (min (Int.toNat 8) (IntKind.bits .u64)))))) + (Int.fdiv (wr .u64 ((wr .u64 (BitVec.ofInt (IntKind.bits .u64) (wr .u64 ((Int.fdiv (wr .u64 ((wr .u64 (BitVec.ofInt (IntKind.bits .u64) (Int.fdiv (wr .u64 ((wr .u64 (BitVec.ofInt (IntKind.bits .u64) (Int.fdiv x0 (2 ^ (min (Int.toNat 1) (IntKind.bits .u64)))) &&& BitVec.ofInt (IntKind.bits .u64) 6148914691236517205).toNat) + (wr .u64 (BitVec.ofInt (IntKind.bits .u64) x0 &&& BitVec.ofInt (IntKind.bits .u64) 6148914691236517205).toNat))) (2 ^ (min (Int.toNat 2) (IntKind.bits .u64)))) &&& BitVec.ofInt (IntKind.bits .u64) 3689348814741910323).toNat) + (wr .u64 (BitVec.ofInt (IntKind.bits .u64) (wr .u64 ((wr .u64 (BitVec.ofInt (IntKind.bits .u64) (Int.fdiv x0 (2 ^ (min (Int.toNat 1) (IntKind.bits .u64)))) &&& BitVec.ofInt (IntKind.bits .u64) 6148914691236517205).toNat) + (wr .u64 (BitVec.ofInt (IntKind.bits .u64) x0 &&& BitVec.ofInt (IntKind.bits .u64) 6148914691236517205).toNat))) &&& BitVec.ofInt (IntKind.bits .u64) 3689348814741910323).toNat))) (2 ^ (min (Int.toNat 4) (IntKind.bits .u64)))) + (wr .u64 ((wr .u64 (BitVec.ofInt (IntKind.bits .u64) (Int.fdiv (wr .u64 ((wr .u64 (BitVec.ofInt (IntKind.bits .u64) (Int.fdiv x0 (2 ^ (min (Int.toNat 1) (IntKind.bits .u64)))) &&& BitVec.ofInt (IntKind.bits .u64) 6148914691236517205).toNat) + (wr .u64 (BitVec.ofInt (IntKind.bits .u64) x0 &&& BitVec.ofInt (IntKind.bits .u64) 6148914691236517205).toNat))) (2 ^ (min (Int.toNat 2) (IntKind.bits .u64)))) &&& BitVec.ofInt (IntKind.bits .u64) 3689348814741910323).toNat) + (wr .u64 (BitVec.ofInt (IntKind.bits .u64) (wr .u64 ((wr .u64 (BitVec.ofInt (IntKind.bits .u64) (Int.fdiv x0 (2 ^ (min (Int.toNat 1) (IntKind.bits .u64)))) &&& BitVec.ofInt (IntKind.bits .u64) 6148914691236517205).toNat) + (wr .u64 (BitVec.ofInt (IntKind.bits .u64) x0 &&& BitVec.ofInt (IntKind.bits .u64) 6148914691236517205).toNat))) &&& BitVec.ofInt (IntKind.bits .u64) 3689348814741910323).toNat))))) &&& BitVec.ofInt (IntKind.bits .u64) 1085102592571150095).toNat) + (Int.fdiv (wr .u64 (BitVec.ofInt (IntKind.bits .u64) (wr .u64 ((Int.fdiv (wr .u64 ((wr .u64 (BitVec.ofInt (IntKind.bits .u64) (Int.fdiv (wr .u64 ((wr .u64 (BitVec.ofInt (IntKind.bits .u64) (Int.fdiv x0 (2 ^ (min (Int.toNat 1) (IntKind.bits .u64)))) &&& BitVec.ofInt (IntKind.bits .u64) 6148914691236517205).toNat) + (wr .u64 (BitVec.ofInt (IntKind.bits .u64) x0 &&& BitVec.ofInt (IntKind.bits .u64) 6148914691236517205).toNat))) (2 ^ (min (Int.toNat 2) (IntKind.bits .u64)))) &&& BitVec.ofInt (IntKind.bits .u64) 3689348814741910323).toNat) + (wr .u64 (BitVec.ofInt (IntKind.bits .u64) (wr .u64 ((wr .u64 (BitVec.ofInt (IntKind.bits .u64) (Int.fdiv x0 (2 ^ (min (Int.toNat 1) (IntKind.bits .u64)))) &&& BitVec.ofInt (IntKind.bits .u64) 6148914691236517205).toNat) + (wr .u64 (BitVec.ofInt (IntKind.bits .u64) x0 &&& BitVec.ofInt (IntKind.bits .u64) 6148914691236517205).toNat))) &&& BitVec.ofInt (IntKind.bits .u64) 3689348814741910323).toNat))) (2 ^ (min (Int.toNat 4) (IntKind.bits .u64)))) + (wr .u64 ((wr .u64 (BitVec.ofInt (IntKind.bits .u64) (Int.fdiv (wr .u64 ((wr .u64 (BitVec.ofInt (IntKind.bits .u64) (Int.fdiv x0 (2 ^ (min (Int.toNat 1) (IntKind.bits .u64)))) &&& BitVec.ofInt (IntKind.bits .u64) 6148914691236517205).toNat) + (wr .u64 (BitVec.ofInt (IntKind.bits .u64) x0 &&& BitVec.ofInt (IntKind.bits .u64) 6148914691236517205).toNat))) (2 ^ (min (Int.toNat 2) (IntKind.bits .u64)))) &&& BitVec.ofInt (IntKind.bits .u64) 3689348814741910323).toNat) + (wr .u64 (BitVec.ofInt (IntKind.bits .u64) (wr .u64 ((wr .u64 (BitVec.ofInt (IntKind.bits .u64) (Int.fdiv x0 (2 ^ (min (Int.toNat 1) (IntKind.bits .u64)))) &&& BitVec.ofInt (IntKind.bits .u64) 6148914691236517205).toNat) + (wr .u64 (BitVec.ofInt (IntKind.bits .u64) x0 &&& BitVec.ofInt (IntKind.bits .u64) 6148914691236517205).toNat))) &&& BitVec.ofInt (IntKind.bits .u64) 3689348814741910323).toNat))))) &&& BitVec.ofInt (IntKind.bits .u64) 1085102592571150095).toNat) (2 ^ (min (Int.toNat 8) (IntKind.bits .u64)))))) (2 ^ (min (Int.toNat 16) (IntKind.bits .u64)))))) + (Int.fdiv (wr .u64 ((wr .u64 ((wr .u64 (BitVec.ofInt (IntKind.bits .u64) (wr .u64 ((Int.fdiv (wr .u64 ((wr .u64 (BitVec.ofInt (IntKind.bits .u64) (Int.fdiv (wr .u64 ((wr .u64 (BitVec.ofInt (IntKind.bits .u64) (Int.fdiv x0 (2 ^ (min (Int.toNat 1) (IntKind.bits .u64)))) &&& BitVec.ofInt (IntKind.bits .u64) 6148914691236517205).toNat) + (wr .u64 (BitVec.ofInt (IntKind.bits .u64) x0 &&& BitVec.ofInt (IntKind.bits .u64) 6148914691236517205).toNat))) (2 ^ (min (Int.toNat 2) (IntKind.bits .u64)))) &&& BitVec.ofInt (IntKind.bits .u64) 3689348814741910323).toNat) + (wr .u64 (BitVec.ofInt (IntKind.bits .u64) (wr .u64 ((wr .u64 (BitVec.ofInt (IntKind.bits .u64) (Int.fdiv x0 (2 ^ (min (Int.toNat 1) (IntKind.bits .u64)))) &&& BitVec.ofInt (IntKind.bits .u64) 6148914691236517205).toNat) + (wr .u64 (BitVec.ofInt (IntKind.bits .u64) x0 &&& BitVec.ofInt (IntKind.bits .u64) 6148914691236517205).toNat))) &&& BitVec.ofInt (IntKind.bits .u64) 3689348814741910323).toNat))) (2 ^ (min (Int.toNat 4) (IntKind.bits .u64)))) + (wr .u64 ((wr .u64 (BitVec.ofInt (IntKind.bits .u64) (Int.fdiv (wr .u64 ((wr .u64 (BitVec.ofInt (IntKind.bits .u64) (Int.fdiv x0 (2 ^ (min (Int.toNat 1) (IntKind.bits .u64)))) &&& BitVec.ofInt (IntKind.bits .u64) 6148914691236517205).toNat) + (wr .u64 (BitVec.ofInt (IntKind.bits .u64) x0 &&& BitVec.ofInt (IntKind.bits .u64) 6148914691236517205).toNat))) (2 ^ (min (Int.toNat 2) (IntKind.bits .u64)))) &&& BitVec.ofInt (IntKind.bits .u64) 3689348814741910323).toNat) + (wr .u64 (BitVec.ofInt (IntKind.bits .u64) (wr .u64 ((wr .u64 (BitVec.ofInt (IntKind.bits .u64) (Int.fdiv x0 (2 ^ (min (Int.toNat 1) (IntKind.bits .u64)))) &&& BitVec.ofInt (IntKind.bits .u64) 6148914691236517205).toNat) + (wr .u64 (BitVec.ofInt (IntKind.bits .u64) x0 &&& BitVec.ofInt (IntKind.bits .u64) 6148914691236517205).toNat))) &&& BitVec.ofInt (IntKind.bits .u64) 3689348814741910323).toNat))))) &&& BitVec.ofInt (IntKind.bits .u64) 1085102592571150095).toNat) + (Int.fdiv (wr .u64 (BitVec.ofInt (IntKind.bits .u64) (wr .u64 ((Int.fdiv (wr .u64 ((wr .u64 (BitVec.ofInt (IntKind.bits .u64) (Int.fdiv (wr .u64 ((wr .u64 (BitVec.ofInt (IntKind.bits .u64) (Int.fdiv x0 (2 ^ (min (Int.toNat 1) (IntKind.bits .u64)))) &&& BitVec.ofInt (IntKind.bits .u64) 6148914691236517205).toNat) + (wr .u64 (BitVec.ofInt (IntKind.bits .u64) x0 &&& BitVec.ofInt (IntKind.bits .u64) 6148914691236517205).toNat))) (2 ^ (min (Int.toNat 2) (IntKind.bits .u64)))) &&& BitVec.ofInt (IntKind.bits .u64) 3689348814741910323).toNat) + (wr .u64 (BitVec.ofInt (IntKind.bits .u64) (wr .u64 ((wr .u64 (BitVec.ofInt (IntKind.bits .u64) (Int.fdiv x0 (2 ^ (min (Int.toNat 1) (IntKind.bits .u64)))) &&& BitVec.ofInt (IntKind.bits .u64) 6148914691236517205).toNat) + (wr .u64 (BitVec.ofInt (IntKind.bits .u64) x0 &&& BitVec.ofInt (IntKind.bits .u64) 6148914691236517205).toNat))) &&& BitVec.ofInt (IntKind.bits .u64) 3689348814741910323).toNat))) (2 ^ (min (Int.toNat 4) (IntKind.bits .u64)))) + (wr .u64 ((wr .u64 (BitVec.ofInt (IntKind.bits .u64) (Int.fdiv (wr .u64 ((wr .u64 (BitVec.ofInt (IntKind.bits .u64) (Int.fdiv x0 (2 ^ (min (Int.toNat 1) (IntKind.bits .u64)))) &&& BitVec.ofInt (IntKind.bits .u64) 6148914691236517205).toNat) + (wr .u64 (BitVec.ofInt (IntKind.bits .u64) x0 &&& BitVec.ofInt (IntKind.bits .u64) 6148914691236517205).toNat))) (2 ^ (min (Int.toNat 2) (IntKind.bits .u64)))) &&& BitVec.ofInt (IntKind.bits .u64) 3689348814741910323).toNat) + (wr .u64 (BitVec.ofInt (IntKind.bits .u64) (wr .u64 ((wr .u64 (BitVec.ofInt (IntKind.bits .u64) (Int.fdiv x0 (2 ^ (min (Int.toNat 1) (IntKind.bits .u64)))) &&& BitVec.ofInt (IntKind.bits .u64) 6148914691236517205).toNat) + (wr .u64 (BitVec.ofInt (IntKind.bits .u64) x0 &&& BitVec.ofInt (IntKind.bits .u64) 6148914691236517205).toNat))) &&& BitVec.ofInt (IntKind.bits .u64) 3689348814741910323).toNat))))) &&& BitVec.ofInt (IntKind.bits .u64) 1085102592571150095).toNat) (2 ^ (min (Int.toNat 8) (IntKind.bits .u64)))))) + (Int.fdiv (wr .u64 ((wr .u64 (BitVec.ofInt (IntKind.bits .u64) (wr .u64 ((Int.fdiv (wr .u64 ((wr .u64 (BitVec.ofInt (IntKind.bits .u64) (Int.fdiv (wr .u64 ((wr .u64 (BitVec.ofInt (IntKind.bits .u64) (Int.fdiv x0 (2 ^ (min (Int.toNat 1) (IntKind.bits .u64)))) &&& BitVec.ofInt (IntKind.bits .u64) 6148914691236517205).toNat) + (wr .u64 (BitVec.ofInt (IntKind.bits .u64) x0 &&& BitVec.ofInt (IntKind.bits .u64) 6148914691236517205).toNat))) (2 ^ (min (Int.toNat 2) (IntKind.bits .u64)))) &&& BitVec.ofInt (IntKind.bits .u64) 3689348814741910323).toNat) + (wr .u64 (BitVec.ofInt (IntKind.bits .u64) (wr .u64 ((wr .u64 (BitVec.ofInt (IntKind.bits .u64) (Int.fdiv x0 (2 ^ (min (Int.toNat 1) (IntKind.bits .u64)))) &&& BitVec.ofInt (IntKind.bits .u64) 6148914691236517205).toNat) + (wr .u64 (BitVec.ofInt (IntKind.bits .u64) x0 &&& BitVec.ofInt (IntKind.bits .u64) 6148914691236517205).toNat))) &&& BitVec.ofInt (IntKind.bits .u64) 3689348814741910323).toNat))) (2 ^ (min (Int.toNat 4) (IntKind.bits .u64)))) + (wr .u64 ((wr .u64 (BitVec.ofInt (IntKind.bits .u64) (Int.fdiv (wr .u64 ((wr .u64 (BitVec.ofInt (IntKind.bits .u64) (Int.fdiv x0 (2 ^ (min (Int.toNat 1) (IntKind.bits .u64)))) &&& BitVec.ofInt (IntKind.bits .u64) 6148914691236517205).toNat) + (wr .u64 (BitVec.ofInt (IntKind.bits .u64) x0 &&& BitVec.ofInt (IntKind.bits .u64) 6148914691236517205).toNat))) (2 ^ (min (Int.toNat 2) (IntKind.bits .u64)))) &&& BitVec.ofInt (IntKind.bits .u64) 3689348814741910323).toNat) + (wr .u64 (BitVec.ofInt (IntKind.bits .u64) (wr .u64 ((wr .u64 (BitVec.ofInt (IntKind.bits .u64) (Int.fdiv x0 (2 ^ (min (Int.toNat 1) (IntKind.bits .u64)))) &&& BitVec.ofInt (IntKind.bits .u64) 6148914691236517205).toNat) + (wr .u64 (BitVec.ofInt (IntKind.bits .u64) x0 &&& BitVec.ofInt (IntKind.bits .u64) 6148914691236517205).toNat))) &&& BitVec.ofInt (IntKind.bits .u64) 3689348814741910323).toNat))))) &&& BitVec.ofInt (IntKind.bits .u64) 1085102592571150095).toNat) + (Int.fdiv (wr .u64 (BitVec.ofInt (IntKind.bits .u64) (wr .u64 ((Int.fdiv (wr .u64 ((wr .u64 (BitVec.ofInt (IntKind.bits .u64) (Int.fdiv (wr .u64 ((wr .u64 (BitVec.ofInt (IntKind.bits .u64) (Int.fdiv x0 (2 ^ (min (Int.toNat 1) (IntKind.bits .u64)))) &&& BitVec.ofInt (IntKind.bits .u64) 6148914691236517205).toNat) + (wr .u64 (BitVec.ofInt (IntKind.bits .u64) x0 &&& BitVec.ofInt (IntKind.bits .u64) 6148914691236517205).toNat))) (2 ^ (min (Int.toNat 2) (IntKind.bits .u64)))) &&& BitVec.ofInt (IntKind.bits .u64) 3689348814741910323).toNat) + (wr .u64 (BitVec.ofInt (IntKind.bits .u64) (wr .u64 ((wr .u64 (BitVec.ofInt (IntKind.bits .u64) (Int.fdiv x0 (2 ^ (min (Int.toNat 1) (IntKind.bits .u64)))) &&& BitVec.ofInt (IntKind.bits .u64) 6148914691236517205).toNat) + (wr .u64 (BitVec.ofInt (IntKind.bits .u64) x0 &&& BitVec.ofInt (IntKind.bits .u64) 6148914691236517205).toNat))) &&& BitVec.ofInt (IntKind.bits .u64) 3689348814741910323).toNat))) (2 ^ (min (Int.toNat 4) (IntKind.bits .u64)))) + (wr .u64 ((wr .u64 (BitVec.ofInt (IntKind.bits .u64) (Int.fdiv (wr .u64 ((wr .u64 (BitVec.ofInt (IntKind.bits .u64) (Int.fdiv x0 (2 ^ (min (Int.toNat 1) (IntKind.bits .u64)))) &&& BitVec.ofInt (IntKind.bits .u64) 6148914691236517205).toNat) + (wr .u64 (BitVec.ofInt (IntKind.bits .u64) x0 &&& BitVec.ofInt (IntKind.bits .u64) 6148914691236517205).toNat))) (2 ^ (min (Int.toNat 2) (IntKind.bits .u64)))) &&& BitVec.ofInt (IntKind.bits .u64) 3689348814741910323).toNat) + (wr .u64 (BitVec.ofInt (IntKind.bits .u64) (wr .u64 ((wr .u64 (BitVec.ofInt (IntKind.bits .u64) (Int.fdiv x0 (2 ^ (min (Int.toNat 1) (IntKind.bits .u64)))) &&& BitVec.ofInt (IntKind.bits .u64) 6148914691236517205).toNat) + (wr .u64 (BitVec.ofInt (IntKind.bits .u64) x0 &&& BitVec.ofInt (IntKind.bits .u64) 6148914691236517205).toNat))) &&& BitVec.ofInt (IntKind.bits .u64) 3689348814741910323).toNat))))) &&& BitVec.ofInt (IntKind.bits .u64) 1085102592571150095).toNat) (2 ^ (min (Int.toNat 8) (IntKind.bits .u64)))))) (2 ^ (min (Int.toNat 16) (IntKind.bits .u64)))))) (2 ^ (min (Int.toNat 32) (IntKind.bits .u64))))))) &&& BitVec.ofInt (IntKind.bits .i64) 127).toNat)))))))
theorem S124_D (n : Nat × Nat) (hn : n.2 = 1) : S124 n = D124 n := by
  funext x0; refine (S124_eq n x0).trans ?_
  unfold D124
  first | with_reducible rfl | rfl
/-D 109 -/
noncomputable def D109 (n : Nat × Nat) (x0 : Int) : Option R109 :=
 (D124 n x0).bind fun r1' =>
 some r1'
theorem S109_D (n : Nat × Nat) (hn : n.2 = 1) : S109 n = D109 n := by
  funext x0; refine (S109_eq n x0).trans ?_
  unfold D109
  (try simp only [S124_D n hn]) <;> first | with_reducible rfl | rfl
/-D 79 -/
noncomputable def D79 (n : Nat × Nat) (f0 : Int × Unit) (page1 : Int) (room2 : Int) : Option R79 :=
 (bif decide (page1 < 0) then none
 else ((bif (((wr .u64 (BitVec.ofInt (IntKind.bits .u64) (Int.fdiv f0.1 (2 ^ (min (Int.toNat page1) (IntKind.bits .u64)))) &&& BitVec.ofInt (IntKind.bits .u64) 1).toNat) == 0) == true) then (D109 n f0.1).bind fun r1' =>
 some (decide (r1' ≥ room2))
 else some false)).bind fun b2' =>
 some b2')
theorem S79_D (n : Nat × Nat) (hn : n.2 = 1) : S79 n = D79 n := by
  funext f0 page1 room2; refine (S79_eq n f0 page1 room2).trans ?_
  unfold D79
  (try simp only [S109_D n hn]) <;> first | with_reducible rfl | rfl
/- (headword/stand.floor).with -/
abbrev R80 := Int × Unit
noncomputable def c80 : Code := bodyOf Tryd.f80
noncomputable def an80 : Ann := (.s .l (.s (.s .l (.j [1, 3, 6] .l .l)) .l))
def pk80 : List PK := [.c (.pair (.int .u64) .unit), .c (.int .i64), .c (.int .i64)]
def rk80 : List RK := [.box (.pair (.int .u64) .unit) 6]
noncomputable def rt80 (st : St) : Option R80 := rtG rk80 st
noncomputable def E80 (n : Nat × Nat) : Env := { T := tab, phi := noPhi, eff := fun _ => false, fuel := n.1, hold := n.2 }
noncomputable def S80 (n : Nat × Nat) (f0 : Int × Unit) (page1 : Int) (gone2 : Int) : Option R80 := run (E80 n) c80 an80 rt80 (fun _ _ => none) rt80 { tm := [.agg [.int .u64 f0.1], .c (.int .i64 page1), .c (.int .i64 gone2), uu, uu, uu, uu, uu, uu, uu, uu, uu, uu, uu, uu, uu, uu, uu, uu, uu, uu, uu], hp := emp }
theorem S80_eq (n : Nat × Nat) (f0 : Int × Unit) (page1 : Int) (gone2 : Int) : S80 n f0 page1 gone2 =
 (bif decide (gone2 ≥ 0) then (bif decide (gone2 < 0) then none
 else (bif decide (page1 < 0) then none
 else some (wr .u64 (BitVec.ofInt (IntKind.bits .u64) (wr .u64 (BitVec.ofInt (IntKind.bits .u64) f0.1 &&& ~~~BitVec.ofInt (IntKind.bits .u64) (wr .u64 (1 * 2 ^ (min (Int.toNat gone2) (IntKind.bits .u64))))).toNat) ||| BitVec.ofInt (IntKind.bits .u64) (wr .u64 (1 * 2 ^ (min (Int.toNat page1) (IntKind.bits .u64))))).toNat, ())))
 else (bif decide (page1 < 0) then none
 else some (wr .u64 (BitVec.ofInt (IntKind.bits .u64) f0.1 ||| BitVec.ofInt (IntKind.bits .u64) (wr .u64 (1 * 2 ^ (min (Int.toNat page1) (IntKind.bits .u64))))).toNat, ()))) := by kernel_rfl
theorem S80_run (n : Nat × Nat) (xs : pksDen pk80) : S80 n xs.1 xs.2.1 xs.2.2.1 = runG (E80 n) noScope c80 an80 (rtG rk80) (fun _ _ => none) (rtG rk80) (st0 pk80 xs Tryd.f80.ntmps) := by kernel_rfl
noncomputable def P80 (n : Nat × Nat) := phiOf pk80 rk80 (fun xs => S80 n xs.1 xs.2.1 xs.2.2.1)
theorem env80 (n : Nat × Nat) : EnvOK Tryd.prog (E80 n) := envOK0 noPhi_ok rfl rfl
theorem par80 (n : Nat × Nat) : EnvPar (E80 n) := envPar0 noPhi_par rfl
theorem FC80 (n : Nat × Nat) : FCs Tryd.prog 80 (P80 n) := phiOf_FCs fun xs r h vs hv => FC.of_runG tabOK eqsOK (env80 n) (par80 n) mixed (fun _ p _ => noScope_ok p.1 p.2) Tryd.func80 (c := c80) (an := an80) (pks := pk80) (rks := rk80) (by kernel_rfl) (by kernel_rfl) hv ((S80_run n xs).symm.trans h)
/-D 80 -/
noncomputable def D80 (n : Nat × Nat) (f0 : Int × Unit) (page1 : Int) (gone2 : Int) : Option R80 :=
 (bif decide (gone2 ≥ 0) then (bif decide (gone2 < 0) then none
 else (bif decide (page1 < 0) then none
 else some (wr .u64 (BitVec.ofInt (IntKind.bits .u64) (wr .u64 (BitVec.ofInt (IntKind.bits .u64) f0.1 &&& ~~~BitVec.ofInt (IntKind.bits .u64) (wr .u64 (1 * 2 ^ (min (Int.toNat gone2) (IntKind.bits .u64))))).toNat) ||| BitVec.ofInt (IntKind.bits .u64) (wr .u64 (1 * 2 ^ (min (Int.toNat page1) (IntKind.bits .u64))))).toNat, ())))
 else (bif decide (page1 < 0) then none
 else some (wr .u64 (BitVec.ofInt (IntKind.bits .u64) f0.1 ||| BitVec.ofInt (IntKind.bits .u64) (wr .u64 (1 * 2 ^ (min (Int.toNat page1) (IntKind.bits .u64))))).toNat, ())))
theorem S80_D (n : Nat × Nat) (hn : n.2 = 1) : S80 n = D80 n := by
  funext f0 page1 gone2; refine (S80_eq n f0 page1 gone2).trans ?_
  unfold D80
  first | with_reducible rfl | rfl
abbrev R81 := List Int
noncomputable def c81 : Code := bodyOf Tryd.f81
noncomputable def an81 : Ann := (.s .l (.s .l (.s (.j [3] (.j [0, 3] (.s (.s .l (.j [0, 3] .l .l)) (.s (.j [0, 3] .l .l) .l)) .l) .l) .l)))
def pk81 : List PK := [.c (.int .u64)]
def rk81 : List RK := [.own (.int .i64) 2]
noncomputable def rt81 (st : St) : Option R81 := rtG rk81 st
noncomputable def E81 (n : Nat × Nat) : Env := { T := tab, phi := (consPhi 41 (fun _ => true) (P41 n) noPhi), eff := fun _ => false, fuel := n.1, hold := n.2 }
noncomputable def kq81_1 (n : Nat × Nat) : St → Option R81 := run (E81 n) (cB (cB (cB c81))) (Ann.snd (Ann.snd (Ann.snd an81))) rt81 (fun _ _ => none) rt81
noncomputable def xb81_3 (n : Nat × Nat) : Nat → St → Option R81 := fun j s => bif Nat.beq j 0 then normC [3] s (kq81_1 n) else (fun _ _ => none) j s
noncomputable def F81_4 (n : Nat × Nat) : (St → Option R81) → St → Option R81 := fun K s => run (E81 n) (cA (cA (cA (cB (cB c81))))) (Ann.fst (Ann.fst (Ann.fst (Ann.snd (Ann.snd an81))))) (fun s => normC [0, 3] s K) (xb81_3 n) rt81 s
noncomputable def L81_1 (n : Nat × Nat) (m : Nat) (v0 : Int) (out3 : List Int) : Option R81 := loopN (F81_4 n) m { tm := [.c (.int .u64 v0), uu, uu, .own 3 none false, uu, uu, uu, uu, uu, uu, uu, uu, uu, uu, uu, uu], hp := (upd emp 3 (.arr (.int .i64) out3 false)) }
theorem L81_1_eq (n : Nat × Nat) (m1 : Nat) (v0 : Int) (out3 : List Int) : L81_1 n (m1 + 1) v0 out3 =
 (bif (v0 != 0) then (S41 n v0).bind fun r1' =>
 (bif decide (out3.length + [r1'].length ≤ lim) then L81_1 n m1 (wr .u64 (BitVec.ofInt (IntKind.bits .u64) v0 &&& BitVec.ofInt (IntKind.bits .u64) (wr .u64 (v0 - 1))).toNat) (out3 ++ [r1'])
 else none)
 else some out3) := by kernel_rfl
noncomputable def S81 (n : Nat × Nat) (v0 : Int) : Option R81 := run (E81 n) c81 an81 rt81 (fun _ _ => none) rt81 { tm := [.c (.int .u64 v0), uu, uu, uu, uu, uu, uu, uu, uu, uu, uu, uu, uu, uu, uu, uu], hp := emp }
theorem S81_eq (n : Nat × Nat) (v0 : Int) : S81 n v0 =
    L81_1 n n.1 v0 [] := by kernel_rfl
theorem S81_run (n : Nat × Nat) (xs : pksDen pk81) : S81 n xs.1 = runG (E81 n) noScope c81 an81 (rtG rk81) (fun _ _ => none) (rtG rk81) (st0 pk81 xs Tryd.f81.ntmps) := by kernel_rfl
noncomputable def P81 (n : Nat × Nat) := phiOf pk81 rk81 (fun xs => S81 n xs.1)
theorem env81 (n : Nat × Nat) : EnvOK Tryd.prog (E81 n) := envOK0 (consPhi_ok (FC41 n) call41 noPhi_ok) rfl rfl
theorem par81 (n : Nat × Nat) : EnvPar (E81 n) := envPar0 (consPhi_par phiOf_Par1 noPhi_par) rfl
theorem FC81 (n : Nat × Nat) : FCs Tryd.prog 81 (P81 n) := phiOf_FCs fun xs r h vs hv => FC.of_runG tabOK eqsOK (env81 n) (par81 n) mixed (fun _ p _ => noScope_ok p.1 p.2) Tryd.func81 (c := c81) (an := an81) (pks := pk81) (rks := rk81) (by kernel_rfl) (by kernel_rfl) hv ((S81_run n xs).symm.trans h)
/-D 73 -/
noncomputable def D73 (n : Nat × Nat) (x0 : Int) : Option R73 := HF73 x0
theorem S73_D (n : Nat × Nat) (hn : n.2 = 1) : S73 n = D73 n := by unfold S73 D73; rfl
/-D 41 -/
noncomputable def D41 (n : Nat × Nat) (x0 : Int) : Option R41 :=
 (D73 n x0).bind fun r1' =>
 some r1'
theorem S41_D (n : Nat × Nat) (hn : n.2 = 1) : S41 n = D41 n := by
  funext x0; refine (S41_eq n x0).trans ?_
  unfold D41
  (try simp only [S73_D n hn]) <;> first | with_reducible rfl | rfl
/-D 81 -/
noncomputable def DF81_1 (n : Nat × Nat) (f1 : Int → List Int → Option R81) (v0 : Int) (out3 : List Int) : Option R81 :=
 (bif (v0 != 0) then (D41 n v0).bind fun r1' =>
 (bif decide (out3.length + [r1'].length ≤ lim) then f1 (wr .u64 (BitVec.ofInt (IntKind.bits .u64) v0 &&& BitVec.ofInt (IntKind.bits .u64) (wr .u64 (v0 - 1))).toNat) (out3 ++ [r1'])
 else none)
 else some out3)
noncomputable def DL81_1 (n : Nat × Nat) (m : Nat) : Int → List Int → Option R81 := Nat.rec (motive := fun _ => Int → List Int → Option R81) (fun _ _ => none) (fun _ ih => DF81_1 n ih) m
theorem DL81_1_succ (n : Nat × Nat) (m : Nat) : DL81_1 n (m + 1) = DF81_1 n (DL81_1 n m) := rfl
theorem DL81_1_eq (n : Nat × Nat) (hn : n.2 = 1) : ∀ m, L81_1 n m = DL81_1 n m
  | 0 => by funext v0 out3; kernel_rfl
  | m + 1 => by
    have ih := DL81_1_eq n hn m
    funext v0 out3; refine (L81_1_eq n m v0 out3).trans ?_
    rw [DL81_1_succ]
    unfold DF81_1
    (try simp only [ih, S41_D n hn]) <;> first | with_reducible rfl | rfl
noncomputable def D81 (n : Nat × Nat) (v0 : Int) : Option R81 :=
    DL81_1 n n.1 v0 []
theorem S81_D (n : Nat × Nat) (hn : n.2 = 1) : S81 n = D81 n := by
  funext v0; refine (S81_eq n v0).trans ?_
  unfold D81
  (try simp only [DL81_1_eq n hn, S41_D n hn]) <;> first | with_reducible rfl | rfl

def n0 : Nat × Nat := (100, 1)
noncomputable def chkFull (f p r : Nat) : Bool := match D79 n0 ((f : Int), ()) p r with | some b => b == (!f.testBit p && Nat.ble r (cntF f)) | none => false
noncomputable def chkSw (f p g : Nat) : Bool := match D80 n0 ((f : Int), ()) p g with | some b => b.1 == (swF f p g : Int) | none => false
noncomputable def chkAdd (f p : Nat) : Bool := match D80 n0 ((f : Int), ()) p (-1) with | some b => b.1 == (addF f p : Int) | none => false
def eqL : List Int → List Nat → Bool
  | [], [] => true
  | x :: l, y :: m => x == (y : Int) && eqL l m
  | _, _ => false
theorem eqL_eq : ∀ {l : List Int} {m : List Nat}, eqL l m = true → l = m.map fun (y : Nat) => (y : Int)
  | [], [], _ => rfl
  | x :: l, y :: m, h => by
    simp only [eqL, Bool.and_eq_true, beq_iff_eq] at h
    rw [List.map_cons, ← eqL_eq h.2, h.1]
  | [], _ :: _, h => by cases h
  | _ :: _, [], h => by cases h
noncomputable def chkList (f : Nat) : Bool := match D81 n0 (f : Int) with | some l => eqL l (bitsF f) | none => false
def chkBit (f p : Nat) : Bool := (bits BinOp.and IntKind.u64 ((f : Int) / 2 ^ p) 1 == 1) == f.testBit p
theorem full_tab : (all64 fun f => all6 fun p => all6 fun r => chkFull f p r) = true := by kernel_rfl
theorem sw_tab : (all64 fun f => all6 fun p => all6 fun g => chkSw f p g) = true := by kernel_rfl
theorem add_tab : (all64 fun f => all6 fun p => chkAdd f p) = true := by kernel_rfl
theorem list_tab : (all64 fun f => chkList f) = true := by kernel_rfl
theorem bit_tab : (all64 fun f => all6 fun p => chkBit f p) = true := by kernel_rfl
end Go.Proofs.YtkfkbebinhkdlaaDoor
set_option linter.unusedVariables false
set_option linter.unusedSimpArgs false
set_option maxRecDepth 100000
namespace Go.Proofs.YtkfkbebinhkdlaaDoor
open Go.RowKit Go.Shelf
theorem Vs_end (room : Nat) (zs : List Int) (f : Nat) : Vs room zs zs.length f = 0 := by
  unfold Vs
  rw [List.drop_length]
  rfl
theorem Vs_cons {room : Nat} {zs : List Int} {t : Nat} (h : t < zs.length) (f : Nat) : Vs room zs t f = lst room (zs[t].toNat :: (zs.drop (t + 1)).map Int.toNat) f := by
  unfold Vs
  rw [List.drop_eq_getElem_cons h]
  rfl
theorem Vs_bd {room : Nat} (hr : 0 < room) {zs : List Int} (hl : zs.length ≤ 12) (t f : Nat) : 0 ≤ Vs room zs t f ∧ Vs room zs t f ≤ 12 := by
  have := lst_bd room hr ((zs.drop t).map Int.toNat) f
  rw [List.length_map, List.length_drop] at this
  unfold Vs
  omega
theorem bit_eq {f p : Nat} (hf : f < 64) (hp : p < 6) : (bits BinOp.and IntKind.u64 ((f : Int) / 2 ^ p) 1 == 1) = f.testBit p := by
  have := all6_get (all64_get bit_tab hf) hp
  simpa [chkBit] using this
/-- What the search leans on, in each world. -/
structure Calls3 (G : World → Prop) (room : Nat) : Prop where
  full : ∀ (W : World), G W → ∀ f p : Nat, f < 64 → p < 6 → Calls Tryd.prog 79 #[.agg #[.int .u64 f], .int .i64 (p : Int), .int .i64 room] W fun e W' => e = .returned (.bool (!f.testBit p && Nat.ble room (cntF f))) ∧ Below W.heap.size W W'
  add : ∀ (W : World), G W → ∀ f p : Nat, f < 64 → p < 6 → Calls Tryd.prog 80 #[.agg #[.int .u64 f], .int .i64 (p : Int), .int .i64 (-1)] W fun e W' => e = .returned (.agg #[.int .u64 (addF f p)]) ∧ Below W.heap.size W W'
  sw : ∀ (W : World), G W → ∀ f p g : Nat, f < 64 → p < 6 → g < 6 → Calls Tryd.prog 80 #[.agg #[.int .u64 f], .int .i64 (p : Int), .int .i64 (g : Int)] W fun e W' => e = .returned (.agg #[.int .u64 (swF f p g)]) ∧ Below W.heap.size W W'
  list : ∀ (W : World), G W → ∀ f : Nat, f < 64 → 0 < (bitsF f).length → Calls Tryd.prog 81 #[.int .u64 f] W fun e W' => ∃ b2 cap2, e = .returned (.slice (some ⟨b2, 0, none⟩) (bitsF f).length cap2) ∧ W.heap.size ≤ b2 ∧ Lst (bitsF f) b2 W' ∧ Below W.heap.size W W'
theorem least_all {G : World → Prop} {room : Nat} (hC : Calls3 G room) (hr0 : 0 < room) (zs : List Int) (hzl : zs.length ≤ 12) (hz : ∀ z ∈ zs, 0 ≤ z ∧ z < 6) (a : Option Addr) (cap b : Nat) :
    ∀ (m t f : Nat) (cur : Array Value) (w : World), t + m = zs.length → f < 64 → (∀ W, w.grownBy W (some b) → G W) → Tbl (Vs room zs) room a zs.length cap b cur w → PgOK zs a b w →
      Calls Tryd.prog 47 #[.pointer (some ⟨b, 0, none⟩), .int .i64 t, .agg #[.int .u64 f]] w (LeastAt (Vs room zs) room a zs.length cap b t f w)
  | 0, t, f, cur, w, ht, hf, hG, hT, hP => by
    obtain rfl : t = zs.length := by omega
    refine (least_end (Vs room zs) room a zs.length cap b f cur w hzl hT).mono ?_
    rintro e W ⟨rfl, hB⟩
    exact ⟨1, cur, by rw [Vs_end], hT.other ((hB.block b hT.blk.lt).trans hT.blk), gb_below hB⟩
  | m + 1, t, f, cur, w, ht, hf, hG, hT, hP => by
    have htl : t < zs.length := by omega
    obtain ⟨s, p, k1, k2, h3⟩ := hT.known t f (by omega) hf
    by_cases hn : s = 0 ∧ p = 0
    · obtain ⟨rfl, rfl⟩ := hn
      have hJ : Job (Vs room zs) room zs a zs.length cap b t f cur w := ⟨rfl, hzl, htl, hf, hT, hP, k1, k2, hz⟩
      obtain ⟨z0, z1⟩ := hz zs[t] (List.getElem_mem _)
      obtain ⟨q, hq⟩ := Int.eq_ofNat_of_zero_le z0
      have hq6 : q < 6 := by omega
      have hVc := Vs_cons (room := room) htl f
      rw [hq, Int.toNat_natCast] at hVc
      have hbit : ∀ h : t < zs.length, (bits BinOp.and IntKind.u64 ((f : Int) / 2 ^ (zs[t]'h).toNat) 1 == 1) = f.testBit q := fun _ => by
        rw [hq, Int.toNat_natCast]; exact bit_eq hf hq6
      have hrec : ∀ f' : Nat, f' < 64 → ∀ (W : World) (cur : Array Value), (w.grownBy W (some b)) → Tbl (Vs room zs) room a zs.length cap b cur W → PgOK zs a b W → Calls Tryd.prog 47 #[.pointer (some ⟨b, 0, none⟩), .int .i64 ((t : Int) + 1), .agg #[.int .u64 f']] W (LeastAt (Vs room zs) room a zs.length cap b (t + 1) f' W) := fun f' hf' W cur' hW hT' hP' => by
        have := least_all hC hr0 zs hzl hz a cap b m (t + 1) f' cur' W (by omega) hf' (fun W' hW' => hG W' (gb_trans hW hW')) hT' hP'
        simpa using this
      let GW : World → Prop := fun W => w.grownBy W (some b)
      cases hb : f.testBit q with
      | true =>
        exact least_stand (Vs room zs) room a zs.length cap b t f zs cur w hJ (by rw [hVc, lst_step hb]; rfl) (fun h => (hbit h).trans hb) GW (fun W h => h) (fun W cur hW => hrec f hf W cur hW)
      | false =>
        by_cases hc : cntF f < room
        · refine least_add (Vs room zs) room a zs.length cap b t f (addF f q) zs cur w hJ (by rw [hVc, lst_add hb hc, Int.add_comm]; rfl) (Vs_bd hr0 hzl _ _) (fun h => (hbit h).trans hb) GW (fun W h => h) (fun W hW h => ?_) (fun W hW h => ?_)
            (fun W cur hW => hrec _ (addF_lt hf hq6) W cur hW)
          · rw [hq]
            refine (hC.full W (hG W hW) f q hf hq6).mono ?_
            rintro e W' ⟨rfl, hB⟩
            have : Nat.ble room (cntF f) = false := by
              cases h : Nat.ble room (cntF f) with
              | false => rfl
              | true => have := Nat.le_of_ble_eq_true h; omega
            exact ⟨by rw [hb, this]; rfl, hB⟩
          · rw [hq]
            exact hC.add W (hG W hW) f q hf hq6
        · have h6 : (bitsF f).length ≤ 6 := by
            unfold bitsF
            have := List.length_filter_le (fun p => f.testBit p) (List.range 6)
            rw [List.length_range] at this
            exact this
          have h0 : 0 < (bitsF f).length := by rw [← cntF_bits]; omega
          refine least_swap (Vs room zs) room a zs.length cap b t f (bitsF f) (swF f q) zs cur w hJ h0 h6 (fun g hg => bitsF_lt hg) ?_ (fun g hg => Vs_bd hr0 hzl _ _) (fun h => (hbit h).trans hb) GW (fun W h => h) (fun W hW h => ?_) (fun W hW => hC.list W (hG W hW) f hf h0) (fun W hW h g hg => ?_)
            (fun g hg W cur hW => hrec _ (swF_lt hf hq6 (bitsF_lt hg)) W cur hW)
          · rw [hVc, lst_sw hb hc]
            congr 1
            funext g
            rw [Int.add_comm]
            rfl
          · rw [hq]
            refine (hC.full W (hG W hW) f q hf hq6).mono ?_
            rintro e W' ⟨rfl, hB⟩
            have : Nat.ble room (cntF f) = true := by simp only [Nat.ble_eq]; omega
            exact ⟨by rw [hb, this]; rfl, hB⟩
          · rw [hq]
            exact hC.sw W (hG W hW) f q g hf hq6 (bitsF_lt hg)
    · have hs : s = Vs room zs t f := h3.resolve_left hn
      refine (least_known (Vs room zs) room a zs.length cap b t f s p cur w hzl htl hf hT k1 k2 hn).mono ?_
      rintro e W ⟨rfl, hB⟩
      exact ⟨p, cur, by rw [hs], hT.other ((hB.block b hT.blk.lt).trans hT.blk), gb_below hB⟩
/-- The table at the beginning. -/
noncomputable def tblI (room : Int) (a : Option Addr) (L cap : Nat) : Array Value := (Tryd.prog.built 106 [(0, .agg #[.int .i64 room, .slice a L cap])]).getD #[]
def isZ (v : Value) : Bool := match v with | .int .i64 0 => true | _ => false
theorem isZ_eq {v : Value} (h : isZ v = true) : v = .int .i64 0 := by
  unfold isZ at h
  split at h
  · rfl
  · cases h
theorem tblI_some (room : Int) (a : Option Addr) (L cap : Nat) : (Tryd.prog.built 106 [(0, .agg #[.int .i64 room, .slice a L cap])]).isSome = true := by kernel_rfl
theorem tblI_size (room : Int) (a : Option Addr) (L cap : Nat) : (tblI room a L cap).size = 1538 := by kernel_rfl
theorem tblI_0 (room : Int) (a : Option Addr) (L cap : Nat) : (tblI room a L cap)[0]? = some (.int .i64 room) := by kernel_rfl
theorem tblI_1 (room : Int) (a : Option Addr) (L cap : Nat) : (tblI room a L cap)[1]? = some (.slice a L cap) := by kernel_rfl
theorem tblI_zs (room : Int) (a : Option Addr) (L cap : Nat) : ((tblI room a L cap).toList.drop 2).all isZ = true := by kernel_rfl
theorem tblI_built (room : Int) (a : Option Addr) (L cap : Nat) : Tryd.prog.built 106 [(0, .agg #[.int .i64 room, .slice a L cap])] = some (tblI room a L cap) := by
  unfold tblI
  obtain ⟨c, hc⟩ := Option.isSome_iff_exists.1 (tblI_some room a L cap)
  rw [hc]
  rfl
theorem tblI_get (room : Int) (a : Option Addr) (L cap i : Nat) (h : i < 1536) : (tblI room a L cap)[2 + i]? = some (.int .i64 0) := by
  have hs := tblI_size room a L cap
  have hz := tblI_zs room a L cap
  generalize tblI room a L cap = T at hs hz ⊢
  have h1 : (T.toList.drop 2)[i]? = some (T[2 + i]'(by omega)) := by
    rw [List.getElem?_drop, Array.getElem?_toList, Array.getElem?_eq_getElem (by omega)]
  have := isZ_eq (List.all_eq_true.1 hz _ (List.mem_of_getElem? h1))
  rw [Array.getElem?_eq_getElem (by omega), this]
theorem tblI_known (V : Nat → Nat → Int) (room : Int) (a : Option Addr) (L cap : Nat) : Known V (tblI room a L cap) := fun t f ht hf => by
  refine ⟨0, 0, ?_, ?_, .inl ⟨rfl, rfl⟩⟩
  · rw [show 2 + t * 128 + f * 2 = 2 + (t * 128 + f * 2) by omega]
    exact tblI_get room a L cap _ (by omega)
  · rw [show 2 + t * 128 + f * 2 + 1 = 2 + (t * 128 + f * 2 + 1) by omega]
    exact tblI_get room a L cap _ (by omega)
theorem fld102 (x y : Int) (w : World) : (Instr.field 102 (.agg #[.int .i64 x, .int .i64 y]) 0).run Tryd.prog w = .ok (.int .i64 x) w := by kernel_rfl
set_option maxHeartbeats 4000000 in
theorem fewest_in {room : Nat} (a : Option Addr) (L cap : Nat) (v : Int) (Q : World → Prop) (w : World) (h0 : 0 ≤ v) (h1 : v ≤ 12)
    (hck : ∀ W, Below w.heap.size w W → Calls Tryd.prog 46 #[.agg #[.int .i64 room, .slice a L cap]] W fun e W' => e = .returned (.int .i64 0) ∧ Below W.heap.size W W')
    (hls : ∀ W, Below w.heap.size w W → Calls Tryd.prog 47 #[.pointer (some ⟨W.heap.size, 0, none⟩), .int .i64 0, .agg #[.int .u64 0]] (W.alloc (.cells (tblI room a L cap) 106)) fun e W' => ∃ pl : Int, e = .returned (.agg #[.int .i64 v, .int .i64 pl]) ∧ Q W') :
    Calls Tryd.prog 17 #[.agg #[.int .i64 room, .slice a L cap]] w fun e W' => e = .returned (.tuple #[.int .i64 v, .int .i64 0]) ∧ Q W' := by
  have hbd := fun w => run_build (P := Tryd.prog) w 106 #[(0, .agg #[.int .i64 room, .slice a L cap])] _ (tblI_built room a L cap)
  go_enter Tryd.func17, Tryd.ntmps17
  have hfd := fld102
  have hbj := Blk.new w #[.int .i64 room, .slice a L cap] 48
  go_wp2_with (first | (go_at_call 46; refine (hck _ ((Below.refl _ _).alloc (Nat.le_refl _) _)).mono ?_; rintro e W1 ⟨rfl, hB1⟩; have hw1 := ((Below.refl _ w).alloc (Nat.le_refl _) _).trans (hB1.mono (by simp)); have hbk : Blk W1 w.heap.size #[.int .i64 room, .slice a L cap] 48 := (hB1.block w.heap.size (by simp)).trans hbj; have e1 := hbk.cell 0 rfl; have e2 := hbk.cell 1 rfl) | (go_at_call 47; refine (hls _ hw1).mono ?_; rintro e W2 ⟨pl, rfl, hQ⟩))
  go_ret2
  exact ⟨rfl, hQ⟩
end Go.Proofs.YtkfkbebinhkdlaaDoor
set_option linter.unusedVariables false
set_option linter.unusedSimpArgs false
set_option maxRecDepth 100000
namespace Go.Proofs.YtkfkbebinhkdlaaDoor
open Go.RowKit Go.Shelf Go.Vi
theorem fcs_FC {pks : List PK} {rks : List RK} {S : pksDen pks → Option (rksDen rks)} {g : FuncId} (h : FCs Tryd.prog g (phiOf pks rks S)) {xs : pksDen pks} {r : rksDen rks} {vs : List V} (hv : pksArg pks vs = some xs) (hs : S xs = some r) :
    FC Tryd.prog g vs (rets rks r) := by
  obtain ⟨ret, h1, h2⟩ := h vs _ some (rets rks r) (by unfold phiOf; rw [hv]; simp only [Option.bind_some, hs])
  cases h1
  exact h2
/-- A call that gives one thing. -/
theorem fc_one {g : FuncId} {vs : List V} {r1 : Ret1} (h : FC Tryd.prog g vs [r1]) {w : World} {A : Nat → Prop} {args : List Value} (hA : ∀ b, A b → b < w.heap.size) (hv : All2 (VR noGam w A emp) vs args) (hgl : GlobOK w A) :
    Calls Tryd.prog g args.toArray w fun x w2 => ∃ i u A1, x = .returned u ∧ RetR1 w w2 A1 r1 i u ∧ Below w.heap.size w w2 := by
  refine (h w A args hA hv hgl).mono ?_
  intro x w2 hx
  cases x with
  | returned u =>
    obtain ⟨hG, is, us, rfl, hR⟩ := hx
    match is, us, hR with
    | [i], [u], ⟨hu, _, _⟩ => exact ⟨i, u, _, rfl, hu, ⟨hG.os, hG.tape, hG.output, hG.size, hG.blk⟩⟩
    | [], [], hR => exact hR.elim
    | [], _ :: _, hR => exact hR.elim
    | [_], [], hR => exact hR.elim
    | [_], _ :: _ :: _, hR => exact hR.2.2.elim
    | _ :: _ :: _, [], hR => exact hR.elim
    | _ :: _ :: _, [_], hR => exact hR.2.2.elim
    | _ :: _ :: _, _ :: _ :: _, hR => exact hR.2.2.elim
  | _ => exact hx.elim
theorem D79_eq {f p r : Nat} (hf : f < 64) (hp : p < 6) (hr : r < 6) : D79 n0 ((f : Int), ()) p r = some (!f.testBit p && Nat.ble r (cntF f)) := by
  have := all6_get (all6_get (all64_get full_tab hf) hp) hr
  unfold chkFull at this
  cases h : D79 n0 ((f : Int), ()) p r with
  | none => rw [h] at this; cases this
  | some b => rw [h] at this; simp only [beq_iff_eq] at this; rw [this]
theorem D80_sw {f p g : Nat} (hf : f < 64) (hp : p < 6) (hg : g < 6) : D80 n0 ((f : Int), ()) p g = some ((swF f p g : Int), ()) := by
  have := all6_get (all6_get (all64_get sw_tab hf) hp) hg
  unfold chkSw at this
  cases h : D80 n0 ((f : Int), ()) p g with
  | none => rw [h] at this; cases this
  | some b => obtain ⟨b, ⟨⟩⟩ := b; rw [h] at this; simp only [beq_iff_eq] at this; rw [this]
theorem D80_add {f p : Nat} (hf : f < 64) (hp : p < 6) : D80 n0 ((f : Int), ()) p (-1) = some ((addF f p : Int), ()) := by
  have := all6_get (all64_get add_tab hf) hp
  unfold chkAdd at this
  cases h : D80 n0 ((f : Int), ()) p (-1) with
  | none => rw [h] at this; cases this
  | some b => obtain ⟨b, ⟨⟩⟩ := b; rw [h] at this; simp only [beq_iff_eq] at this; rw [this]
theorem D81_eq {f : Nat} (hf : f < 64) : D81 n0 (f : Int) = some ((bitsF f).map fun (y : Nat) => (y : Int)) := by
  have := all64_get list_tab hf
  unfold chkList at this
  cases h : D81 n0 (f : Int) with
  | none => rw [h] at this; cases this
  | some l => rw [h] at this; rw [eqL_eq this]
/-- Pages that are all right. -/
theorem D108_ok (zs : List Int) (hl : zs.length ≤ 12) (hz : ∀ z ∈ zs, 0 ≤ z ∧ z < 6) : ∀ (m i : Nat), zs.length - i < m → i ≤ zs.length → DL108c78_1 n0 m zs (zs.length : Int) (i : Int) = some (-1)
  | 0, i, h, _ => by omega
  | m + 1, i, h, hi => by
    rw [DL108c78_1_succ]
    unfold DF108c78_1
    by_cases hlt : i < zs.length
    · obtain ⟨h1, h2⟩ := hz zs[i] (List.getElem_mem _)
      have e1 : idx zs (i : Int) = some zs[i] := by
        unfold idx
        rw [if_pos (by omega), Int.toNat_natCast, List.getElem?_eq_getElem hlt]
      have e2 : D78 n0 zs[i] = some false := by
        unfold D78
        rw [show decide (zs[i] < 0) = false by simp; omega, show decide (zs[i] ≥ 6) = false by simp; omega]
        rfl
      have e3 : wr .i64 ((i : Int) + 1) = ((i + 1 : Nat) : Int) := by
        show IntKind.i64.wrap _ = _
        rw [IntKind.wrap_i64]
        omega
      rw [show decide ((i : Int) < (zs.length : Int)) = true by simp; omega, cond_true, e1, Option.bind_some, e2, Option.bind_some, cond_false, e3]
      exact D108_ok zs hl hz m (i + 1) (by omega) (by omega)
    · rw [show decide ((i : Int) < (zs.length : Int)) = false by simp; omega]
      rfl
theorem D46_ok (room : Int) (zs : List Int) (h1 : 1 ≤ room) (h2 : room ≤ 5) (hl : zs.length ≤ 12) (hz : ∀ z ∈ zs, 0 ≤ z ∧ z < 6) : D46 n0 (room, zs) = some 0 := by
  have h := D108_ok zs hl hz 100 0 (by omega) (by omega)
  unfold D46 D77c78 D108c78
  rw [show DL108c78_1 n0 n0.1 zs (zs.length : Int) 0 = some (-1) from h, show decide ((room, zs).1 < 1) = false by simp; omega, show decide ((room, zs).1 > 5) = false by simp; omega, show decide (((room, zs).2.length : Int) > 12) = false by simp; omega]
  rfl
def HF17 (j : Int × List Int) : Option (Int × Int) :=
  bif decide (1 ≤ j.1) && decide (j.1 ≤ 5) && decide (j.2.length ≤ 12) && j.2.all (fun z => decide (0 ≤ z) && decide (z < 6)) then some (lst j.1.toNat (j.2.map Int.toNat) 0, 0) else none
theorem calls3 {room : Nat} (hr : room < 6) : Calls3 (fun W => GlobOK W (fun b => b < W.heap.size)) room where
  full W hW f p hf hp := by
    have h := fc_one (fcs_FC (rks := [.c .bool 6]) (FC79 n0) (vs := [.agg [.int .u64 (f : Int)], .c (.int .i64 (p : Int)), .c (.int .i64 (room : Int))]) (xs := (((f : Int), ()), (p : Int), (room : Int), ())) rfl ((congrFun (congrFun (congrFun (S79_D n0 rfl) _) _) _).trans (D79_eq hf hp hr)))
      (args := [.agg #[.int .u64 f], .int .i64 (p : Int), .int .i64 room]) (fun b hb => hb) ⟨⟨[_], rfl, rfl, trivial⟩, rfl, rfl, trivial⟩ hW
    refine h.mono ?_
    rintro e W' ⟨i, u, A1, rfl, hu, hB⟩
    have hu : u = .bool _ := hu
    exact ⟨by rw [hu], hB⟩
  add W hW f p hf hp := by
    have h := fc_one (fcs_FC (rks := [.box (.pair (.int .u64) .unit) 6]) (FC80 n0) (vs := [.agg [.int .u64 (f : Int)], .c (.int .i64 (p : Int)), .c (.int .i64 (-1))]) (xs := (((f : Int), ()), (p : Int), -1, ())) rfl ((congrFun (congrFun (congrFun (S80_D n0 rfl) _) _) _).trans (D80_add hf hp)))
      (args := [.agg #[.int .u64 f], .int .i64 (p : Int), .int .i64 (-1)]) (fun b hb => hb) ⟨⟨[_], rfl, rfl, trivial⟩, rfl, rfl, trivial⟩ hW
    refine h.mono ?_
    rintro e W' ⟨i, u, A1, rfl, ⟨vs, hu, hvs⟩, hB⟩
    match vs, hvs with
    | [u1], ⟨h1, _⟩ =>
      have h1 : u1 = .int .u64 _ := h1
      subst h1
      exact ⟨by rw [hu], hB⟩
  sw W hW f p g hf hp hg := by
    have h := fc_one (fcs_FC (rks := [.box (.pair (.int .u64) .unit) 6]) (FC80 n0) (vs := [.agg [.int .u64 (f : Int)], .c (.int .i64 (p : Int)), .c (.int .i64 (g : Int))]) (xs := (((f : Int), ()), (p : Int), (g : Int), ())) rfl ((congrFun (congrFun (congrFun (S80_D n0 rfl) _) _) _).trans (D80_sw hf hp hg)))
      (args := [.agg #[.int .u64 f], .int .i64 (p : Int), .int .i64 (g : Int)]) (fun b hb => hb) ⟨⟨[_], rfl, rfl, trivial⟩, rfl, rfl, trivial⟩ hW
    refine h.mono ?_
    rintro e W' ⟨i, u, A1, rfl, ⟨vs, hu, hvs⟩, hB⟩
    match vs, hvs with
    | [u1], ⟨h1, _⟩ =>
      have h1 : u1 = .int .u64 _ := h1
      subst h1
      exact ⟨by rw [hu], hB⟩
  list W hW f hf h0 := by
    have h := fc_one (fcs_FC (rks := [.own (.int .i64) 2]) (FC81 n0) (vs := [.c (.int .u64 (f : Int))]) (xs := ((f : Int), ())) rfl ((congrFun (S81_D n0 rfl) _).trans (D81_eq hf)))
      (args := [.int .u64 f]) (fun b hb => hb) ⟨rfl, trivial⟩ hW
    refine h.mono ?_
    rintro e W' ⟨i, u, A1, rfl, ⟨ho, hs, hb⟩, hB⟩
    cases i with
    | emp =>
      have ho : (bitsF f).map (fun (y : Nat) => (y : Int)) = [] := ho
      have := congrArg List.length ho
      rw [List.length_map, List.length_nil] at this
      omega
    | «at» b c =>
      obtain ⟨_, ho1, cur, et, ho2, ho3, ho4⟩ := ho
      obtain ⟨rfl, _, _⟩ := hs
      have e1 : ((bitsF f).map (fun (y : Nat) => (y : Int))).length = (bitsF f).length := List.length_map _
      refine ⟨b, c, by rw [e1], (hb b c rfl).1, ⟨cur, et, ho2, fun i hi => ?_⟩, hB⟩
      have h4 := ho4 i ((bitsF f)[i] : Int) (by simp [List.getElem?_map, hi])
      have h5 : (cur.toList.drop (i * 1)).take 1 = [.int .i64 ((bitsF f)[i] : Int)] := h4
      rw [Nat.mul_one] at h5
      have h6 := congrArg (fun l => l[0]?) h5
      have h7 : cur.toList[i]? = some (.int .i64 ((bitsF f)[i] : Int)) := by simpa [List.getElem?_take, List.getElem?_drop] using h6
      rw [← Array.getElem?_toList, h7]
theorem HC17 (n : Nat × Nat) (xs : pksDen [.c (.pair (.int .i64) (.sl (.int .i64)))]) (r : rksDen [.c (.int .i64) 0, .c (.int .i64) 0]) (h : HF17 xs.1 = some r) (vs : List V) (hv : pksArg [.c (.pair (.int .i64) (.sl (.int .i64)))] vs = some xs) :
    FC Tryd.prog 17 vs (rets [.c (.int .i64) 0, .c (.int .i64) 0] r) := by
  obtain ⟨⟨room, zs⟩, ⟨⟩⟩ := xs
  unfold HF17 at h
  obtain ⟨hd, h⟩ := cond_some h rfl
  simp only [Bool.and_eq_true, decide_eq_true_eq, List.all_eq_true] at hd
  obtain ⟨⟨⟨hr1, hr5⟩, hl⟩, hz⟩ := hd
  have hr1 : 1 ≤ room := hr1
  have hr5 : room ≤ 5 := hr5
  have hl : zs.length ≤ 12 := hl
  have hz : ∀ z ∈ zs, 0 ≤ z ∧ z < 6 := hz
  cases h
  intro w A0 args hA hargs hgl
  have hv2 := pksArg_VR _ _ _ _ hv hargs
  match args, hv2 with
  | [v1], ⟨g0, _⟩ =>
    obtain ⟨us, rfl, hus⟩ := g0
    match us, hus with
    | [u1, u2], ⟨h1, h2, _⟩ =>
      have h1 : u1 = .int .i64 room := h1
      subst h1
      have h2 : CR w A0 (.sl (.int .i64) zs false) u2 := h2
      obtain ⟨a, cap, rfl, hcap, _, hr⟩ := id h2
      obtain ⟨k, rfl⟩ := Int.eq_ofNat_of_zero_le (Int.le_trans (show (0 : Int) ≤ 1 by decide) hr1)
      have hmon : ∀ {W : World}, Below w.heap.size w W → ∀ b, A0 b → A0 b ∧ W.heap[b]? = w.heap[b]? := fun hB b hb => ⟨hb, hB.block b (hA b hb)⟩
      have hk1 : (1 : Int) ≤ (k : Int) := hr1
      have hk5 : (k : Int) ≤ 5 := hr5
      have hk0 : 1 ≤ k ∧ k ≤ 5 := by omega
      have hbd := Vs_bd (room := k) (by omega) hl 0 0
      have key := fewest_in (room := k) a zs.length cap (Vs k zs 0 0) (fun W' => Below w.heap.size w W') w hbd.1 hbd.2
        (fun W hW => by
          have hc := fc_one (fcs_FC (rks := [.c (.int .i64) 2]) (FC46 n0) (vs := [.agg [.int .i64 (k : Int), .sl (.int .i64) zs false]]) (xs := (((k : Int), zs), ())) rfl ((congrFun (S46_D n0 rfl) _).trans (D46_ok k zs hr1 hr5 hl hz)))
            (w := W) (A := A0) (args := [.agg #[.int .i64 k, .slice a zs.length cap]]) (fun b hb => Nat.lt_of_lt_of_le (hA b hb) hW.size) ⟨⟨[_, _], rfl, rfl, CR.mono (hmon hW) _ _ h2, trivial⟩, trivial⟩ (hgl.mono hW.size (hmon hW))
          refine hc.mono ?_
          rintro e W' ⟨i, u, A1, rfl, hu, hB⟩
          have hu : u = .int .i64 0 := hu
          exact ⟨by rw [hu], hB⟩)
        (fun W hW => by
          have hb0 : ∀ b, A0 b → b < W.heap.size := fun b hb => Nat.lt_of_lt_of_le (hA b hb) hW.size
          have hcl := least_all (calls3 (room := k) (by omega)) (by omega) zs hl hz a cap W.heap.size zs.length 0 0 (tblI k a zs.length cap) (W.alloc (.cells (tblI k a zs.length cap) 106)) (by omega) (by omega)
            (fun W' hg => hgl.mono (A' := fun b => b < W'.heap.size) (Nat.le_trans hW.size (Nat.le_trans (by simp) hg.size)) fun b hb => by
              have h3 : b < (W.alloc (.cells (tblI k a zs.length cap) 106)).heap.size := by have := hb0 b hb; simp; omega
              refine ⟨Nat.lt_of_lt_of_le h3 hg.size, ?_⟩
              rw [hg.block b h3 (by have := hb0 b hb; simp; omega)]
              exact ((World.grownBy_alloc W _ none).block b (hb0 b hb) (by simp)).trans (hW.block b (hA b hb)))
            ⟨Blk.new W _ _, tblI_size _ _ _ _, tblI_0 _ _ _ _, tblI_1 _ _ _ _, tblI_known _ _ _ _ _⟩
            (fun j hj => by
              rcases hr with hr | ⟨b, o, cur, et, fz, ha, hb, hc, hlen, hx⟩
              · rw [hr] at hj; simp at hj
              · refine ⟨b, o, ha, by have := hb0 b hb; omega, by have := hb0 b hb; simp; omega, ?_⟩
                have h1 := hx j zs[j] (by simp)
                have h2 : (cur.toList.drop (o + j * 1)).take 1 = [.int .i64 zs[j]] := h1
                have h3 : cur.toList[o + j]? = some (.int .i64 zs[j]) := by
                  rw [Nat.mul_one] at h2
                  have := congrArg (fun l => l[0]?) h2
                  simpa [List.getElem?_take, List.getElem?_drop] using this
                have h4 : cur[o + j]? = some (.int .i64 zs[j]) := by rw [← Array.getElem?_toList]; exact h3
                have h5 : (W.alloc (.cells (tblI k a zs.length cap) 106)).heap[b]? = some (.cells cur et fz) := ((World.grownBy_alloc W _ none).block b (hb0 b hb) (by simp)).trans ((hW.block b (hA b hb)).trans hc)
                show (match (W.alloc (.cells (tblI k a zs.length cap) 106)).heap[b]? with | some (.cells c _ _) => c[o + j]? | _ => none) = _
                rw [h5]
                exact h4)
          refine hcl.mono ?_
          rintro e W' ⟨pl, cur', rfl, hT, hg⟩
          refine ⟨pl, rfl, hW.trans ?_⟩
          have h6 := hW.size
          have h7 : (W.alloc (.cells (tblI k a zs.length cap) 106)).heap.size = W.heap.size + 1 := by simp
          refine Below.mono ?_ h6
          refine ⟨hg.os, hg.tape, hg.output, Nat.le_trans (by omega) hg.size, fun b h3 => by
            rw [hg.block b (by simp; omega) (by simp; omega)]
            exact (World.grownBy_alloc W _ none).block b h3 (by simp)⟩)
      refine key.mono ?_
      rintro e W' ⟨rfl, hB⟩
      exact ⟨Grows.of_below hB, [.emp, .emp], [_, _], rfl, rfl, fun b c h => (by cases h), rfl, fun b c h => (by cases h), trivial⟩
end Go.Proofs.YtkfkbebinhkdlaaDoor
set_option linter.unusedVariables false
set_option linter.unusedSimpArgs false
set_option maxRecDepth 100000
namespace Go.Proofs.YtkfkbebinhkdlaaDoor
open Go.Vi
abbrev R17 := Int × Int
def pk17 : List PK := [.c (.pair (.int .i64) (.sl (.int .i64)))]
def rk17 : List RK := [.c (.int .i64) 0, .c (.int .i64) 0]
noncomputable def S17 (n : Nat × Nat) (j0 : Int × List Int) : Option R17 := HF17 j0
noncomputable def P17 (n : Nat × Nat) := phiOf pk17 rk17 (fun xs => S17 n xs.1)
theorem call17 : CallOK Tryd.prog 17 := callOK_of Tryd.func17 (by kernel_rfl) (by kernel_rfl)
theorem FC17 (n : Nat × Nat) : FCs Tryd.prog 17 (P17 n) := phiOf_FCs fun xs r h vs hv => HC17 n xs r h vs hv
abbrev R126 := Int
noncomputable def c126 : Code := bodyOf Tryd.f126
noncomputable def an126 : Ann := (.s .l (.s (.j [1, 35, 36, 37, 38, 39, 40, 41, 42] (.s .l (.j [1, 35, 36, 37, 38, 39, 40, 41, 42] .l (.s .l (.j [1, 35, 36, 37, 38, 39, 40, 41, 42] .l .l)))) .l) (.s (.s .l (.j [] (.j [1, 20, 21, 22, 35, 36, 37, 38, 39, 40, 41, 42] (.s .l (.s (.j [1, 20, 21, 22, 35, 36, 37, 38, 39, 40, 41, 42] .l .l) (.s (.j [1, 20, 21, 22, 35, 36, 37, 38, 39, 40, 41, 42] (.s .l (.j [1, 20, 21, 22, 35, 36, 37, 38, 39, 40, 41, 42] (.s .l (.j [1, 20, 21, 22, 35, 36, 37, 38, 39, 40, 41, 42] .l (.s .l (.j [1, 20, 21, 22, 35, 36, 37, 38, 39, 40, 41, 42] .l (.s .l (.j [1, 20, 21, 22, 35, 36, 37, 38, 39, 40, 41, 42] .l .l)))))) .l)) .l) .l))) .l) .l)) .l)))
def pk126 : List PK := [.c (.pair (.int .i64) (.sl (.pair (.int .i64) (.int .i64))))]
def rk126 : List RK := [.c (.int .i64) 2]
noncomputable def rt126 (st : St) : Option R126 := rtG rk126 st
noncomputable def E126 (n : Nat × Nat) : Env := { T := tab, phi := (consPhi 90 (fun _ => true) (P90 n) noPhi), eff := fun _ => false, fuel := n.1, hold := n.2 }
noncomputable def kq126_6 (n : Nat × Nat) : St → Option R126 := run (E126 n) (cB (cB (cB c126))) (Ann.snd (Ann.snd (Ann.snd an126))) rt126 (fun _ _ => none) rt126
noncomputable def xb126_8 (n : Nat × Nat) : Nat → St → Option R126 := fun j s => bif Nat.beq j 1 then normC [] s (kq126_6 n) else (fun _ _ => none) j s
noncomputable def F126_9 (n : Nat × Nat) : (St → Option R126) → St → Option R126 := fun K s => run (E126 n) (cA (cA (cB (cA (cB (cB c126)))))) (Ann.fst (Ann.fst (Ann.snd (Ann.fst (Ann.snd (Ann.snd an126)))))) (fun s => normC [1, 20, 21, 22, 35, 36, 37, 38, 39, 40, 41, 42] s K) (xb126_8 n) rt126 s
noncomputable def L126_1 (n : Nat × Nat) (m : Nat) (v20 : List (Int × Int)) (v21 : Int) (v22 : Int) (b1_0 : Int) (b1_1 : List (Int × Int)) : Option R126 := loopN (F126_9 n) m { tm := [uu, .ptr 1 0, uu, uu, uu, uu, uu, uu, uu, uu, uu, uu, uu, uu, uu, uu, uu, uu, uu, uu, .c (.sl (.pair (.int .i64) (.int .i64)) v20 false), .c (.int .i64 v21), .c (.int .i64 v22), uu, uu, uu, uu, uu, uu, uu, uu, uu, uu, uu, uu, uu, uu, uu, uu, uu, uu, uu, uu, uu, uu, uu, uu, uu, uu, uu, uu, uu, uu, uu, uu, uu, uu, uu], hp := (upd emp 1 (.box [.int .i64 b1_0, .sl (.pair (.int .i64) (.int .i64)) b1_1 false])) }
theorem L126_1_eq (n : Nat × Nat) (m1 : Nat) (v20 : List (Int × Int)) (v21 : Int) (v22 : Int) (b1_0 : Int) (b1_1 : List (Int × Int)) : L126_1 n (m1 + 1) v20 v21 v22 b1_0 b1_1 =
 (bif decide (v22 < v21) then (idx v20 v22).bind fun x2' =>
 (bif inB 0 2 then (idx [x2'.1, x2'.2] 0).bind fun x3' =>
 (bif inB 1 2 then (idx [x2'.1, x2'.2] 1).bind fun x4' =>
 ((bif (decide ((if x4' < x3' then x4' else x3') < 0) == false) then (bif inB 0 2 then (idx [x2'.1, x2'.2] 0).bind fun x5' =>
 (bif inB 1 2 then (idx [x2'.1, x2'.2] 1).bind fun x6' =>
 some (decide ((if x6' > x5' then x6' else x5') ≥ b1_0))
 else none)
 else none)
 else some true)).bind fun b7' =>
 (bif b7' then some 2
 else (bif inB 0 2 then (idx [x2'.1, x2'.2] 0).bind fun x8' =>
 (bif inB 1 2 then (idx [x2'.1, x2'.2] 1).bind fun x9' =>
 (bif decide (x8' ≥ x9') then some 7
 else (bif bounds none (some v22) none b1_1.length then (S90 n (b1_1.take (Int.toNat v22)) x2').bind fun r10' =>
 (bif r10' then some 6
 else L126_1 n m1 v20 v21 (wr .i64 (v22 + 1)) b1_0 b1_1)
 else none))
 else none)
 else none))
 else none)
 else none)
 else some 0) := by kernel_rfl
noncomputable def S126 (n : Nat × Nat) (b0 : Int × List (Int × Int)) : Option R126 := run (E126 n) c126 an126 rt126 (fun _ _ => none) rt126 { tm := [.agg [.int .i64 b0.1, .sl (.pair (.int .i64) (.int .i64)) b0.2 false], uu, uu, uu, uu, uu, uu, uu, uu, uu, uu, uu, uu, uu, uu, uu, uu, uu, uu, uu, uu, uu, uu, uu, uu, uu, uu, uu, uu, uu, uu, uu, uu, uu, uu, uu, uu, uu, uu, uu, uu, uu, uu, uu, uu, uu, uu, uu, uu, uu, uu, uu, uu, uu, uu, uu, uu, uu], hp := emp }
theorem S126_eq (n : Nat × Nat) (b0 : Int × List (Int × Int)) : S126 n b0 =
 ((bif (decide (b0.1 < 1) == false) then some (decide (b0.1 > 7))
 else some true)).bind fun b1' =>
 (bif b1' then some 1
 else (bif decide ((b0.2.length : Int) > 10) then some 3
 else L126_1 n n.1 b0.2 (b0.2.length : Int) 0 b0.1 b0.2)) := by kernel_rfl
theorem S126_run (n : Nat × Nat) (xs : pksDen pk126) : S126 n xs.1 = runG (E126 n) noScope c126 an126 (rtG rk126) (fun _ _ => none) (rtG rk126) (st0 pk126 xs Tryd.f126.ntmps) := by kernel_rfl
noncomputable def P126 (n : Nat × Nat) := phiOf pk126 rk126 (fun xs => S126 n xs.1)
theorem call126 : CallOK Tryd.prog 126 := callOK_of Tryd.func126 (by kernel_rfl) (by kernel_rfl)
theorem env126 (n : Nat × Nat) : EnvOK Tryd.prog (E126 n) := envOK0 (consPhi_ok (FC90 n) call90 noPhi_ok) rfl rfl
theorem par126 (n : Nat × Nat) : EnvPar (E126 n) := envPar0 (consPhi_par phiOf_Par1 noPhi_par) rfl
theorem FC126 (n : Nat × Nat) : FCs Tryd.prog 126 (P126 n) := phiOf_FCs fun xs r h vs hv => FC.of_runG tabOK eqsOK (env126 n) (par126 n) mixed (fun _ p _ => noScope_ok p.1 p.2) Tryd.func126 (c := c126) (an := an126) (pks := pk126) (rks := rk126) (by kernel_rfl) (by kernel_rfl) hv ((S126_run n xs).symm.trans h)
abbrev R137 := List Int
noncomputable def c137 : Code := bodyOf Tryd.f137
noncomputable def an137 : Ann := (.s .l (.s .l (.s (.j [3] (.j [0, 3] (.s (.s .l (.j [0, 3] .l .l)) (.s (.j [0, 3] .l .l) .l)) .l) .l) .l)))
def pk137 : List PK := [.c (.int .u64)]
def rk137 : List RK := [.own (.int .i64) 2]
noncomputable def rt137 (st : St) : Option R137 := rtG rk137 st
noncomputable def E137 (n : Nat × Nat) : Env := { T := tab, phi := (consPhi 41 (fun _ => true) (P41 n) noPhi), eff := fun _ => false, fuel := n.1, hold := n.2 }
noncomputable def kq137_1 (n : Nat × Nat) : St → Option R137 := run (E137 n) (cB (cB (cB c137))) (Ann.snd (Ann.snd (Ann.snd an137))) rt137 (fun _ _ => none) rt137
noncomputable def xb137_3 (n : Nat × Nat) : Nat → St → Option R137 := fun j s => bif Nat.beq j 0 then normC [3] s (kq137_1 n) else (fun _ _ => none) j s
noncomputable def F137_4 (n : Nat × Nat) : (St → Option R137) → St → Option R137 := fun K s => run (E137 n) (cA (cA (cA (cB (cB c137))))) (Ann.fst (Ann.fst (Ann.fst (Ann.snd (Ann.snd an137))))) (fun s => normC [0, 3] s K) (xb137_3 n) rt137 s
noncomputable def L137_1 (n : Nat × Nat) (m : Nat) (v0 : Int) (out3 : List Int) : Option R137 := loopN (F137_4 n) m { tm := [.c (.int .u64 v0), uu, uu, .own 3 none false, uu, uu, uu, uu, uu, uu, uu, uu, uu, uu, uu, uu], hp := (upd emp 3 (.arr (.int .i64) out3 false)) }
theorem L137_1_eq (n : Nat × Nat) (m1 : Nat) (v0 : Int) (out3 : List Int) : L137_1 n (m1 + 1) v0 out3 =
 (bif (v0 != 0) then (S41 n v0).bind fun r1' =>
 (bif decide (out3.length + [r1'].length ≤ lim) then L137_1 n m1 (wr .u64 (BitVec.ofInt (IntKind.bits .u64) v0 &&& BitVec.ofInt (IntKind.bits .u64) (wr .u64 (v0 - 1))).toNat) (out3 ++ [r1'])
 else none)
 else some out3) := by kernel_rfl
noncomputable def S137 (n : Nat × Nat) (v0 : Int) : Option R137 := run (E137 n) c137 an137 rt137 (fun _ _ => none) rt137 { tm := [.c (.int .u64 v0), uu, uu, uu, uu, uu, uu, uu, uu, uu, uu, uu, uu, uu, uu, uu], hp := emp }
theorem S137_eq (n : Nat × Nat) (v0 : Int) : S137 n v0 =
    L137_1 n n.1 v0 [] := by kernel_rfl
theorem S137_run (n : Nat × Nat) (xs : pksDen pk137) : S137 n xs.1 = runG (E137 n) noScope c137 an137 (rtG rk137) (fun _ _ => none) (rtG rk137) (st0 pk137 xs Tryd.f137.ntmps) := by kernel_rfl
noncomputable def P137 (n : Nat × Nat) := phiOf pk137 rk137 (fun xs => S137 n xs.1)
theorem call137 : CallOK Tryd.prog 137 := callOK_of Tryd.func137 (by kernel_rfl) (by kernel_rfl)
theorem env137 (n : Nat × Nat) : EnvOK Tryd.prog (E137 n) := envOK0 (consPhi_ok (FC41 n) call41 noPhi_ok) rfl rfl
theorem par137 (n : Nat × Nat) : EnvPar (E137 n) := envPar0 (consPhi_par phiOf_Par1 noPhi_par) rfl
theorem FC137 (n : Nat × Nat) : FCs Tryd.prog 137 (P137 n) := phiOf_FCs fun xs r h vs hv => FC.of_runG tabOK eqsOK (env137 n) (par137 n) mixed (fun _ p _ => noScope_ok p.1 p.2) Tryd.func137 (c := c137) (an := an137) (pks := pk137) (rks := rk137) (by kernel_rfl) (by kernel_rfl) hv ((S137_run n xs).symm.trans h)
/- (headword/fact.Book).explained$1 -/
abbrev R144 := Bool
noncomputable def c144 : Code := bodyOf Tryd.f144
noncomputable def an144 : Ann := .l
def pk144 : List PK := [.c (.pair (.int .i64) (.int .i64)), .p (.int .u64)]
def rk144 : List RK := [.c .bool 3]
noncomputable def rt144 (st : St) : Option R144 := rtG rk144 st
noncomputable def E144 (n : Nat × Nat) : Env := { T := tab, phi := noPhi, eff := fun _ => false, fuel := n.1, hold := n.2 }
noncomputable def S144 (n : Nat × Nat) (p0 : Int × Int) (v1 : Int) : Option R144 := run (E144 n) c144 an144 rt144 (fun _ _ => none) rt144 { tm := [.agg [.int .i64 p0.1, .int .i64 p0.2], .iptr [.int .u64 v1], uu, uu, uu, uu, uu, uu, uu, uu, uu, uu, uu, uu, uu, uu, uu, uu], hp := emp }
theorem S144_eq (n : Nat × Nat) (p0 : Int × Int) (v1 : Int) : S144 n p0 v1 =
 (bif inB 0 2 then (idx [p0.1, p0.2] 0).bind fun x1' =>
 (bif decide (x1' < 0) then none
 else ((bif (((wr .u64 (BitVec.ofInt (IntKind.bits .u64) (Int.fdiv v1 (2 ^ (min (Int.toNat x1') (IntKind.bits .u64)))) &&& BitVec.ofInt (IntKind.bits .u64) 1).toNat) == 0) == true) then (bif inB 1 2 then (idx [p0.1, p0.2] 1).bind fun x2' =>
 (bif decide (x2' < 0) then none
 else some ((wr .u64 (BitVec.ofInt (IntKind.bits .u64) (Int.fdiv v1 (2 ^ (min (Int.toNat x2') (IntKind.bits .u64)))) &&& BitVec.ofInt (IntKind.bits .u64) 1).toNat) == 0))
 else none)
 else some false)).bind fun b3' =>
 some b3')
 else none) := by kernel_rfl
theorem S144_run (n : Nat × Nat) (xs : pksDen pk144) : S144 n xs.1 xs.2.1 = runG (E144 n) noScope c144 an144 (rtG rk144) (fun _ _ => none) (rtG rk144) (st0 pk144 xs Tryd.f144.ntmps) := by kernel_rfl
noncomputable def P144 (n : Nat × Nat) := phiOf pk144 rk144 (fun xs => S144 n xs.1 xs.2.1)
theorem call144 : CallOK Tryd.prog 144 := callOK_of Tryd.func144 (by kernel_rfl) (by kernel_rfl)
theorem env144 (n : Nat × Nat) : EnvOK Tryd.prog (E144 n) := envOK0 noPhi_ok rfl rfl
theorem par144 (n : Nat × Nat) : EnvPar (E144 n) := envPar0 noPhi_par rfl
theorem FC144 (n : Nat × Nat) : FCs Tryd.prog 144 (P144 n) := phiOf_FCs fun xs r h vs hv => FC.of_runG tabOK eqsOK (env144 n) (par144 n) mixed (fun _ p _ => noScope_ok p.1 p.2) Tryd.func144 (c := c144) (an := an144) (pks := pk144) (rks := rk144) (by kernel_rfl) (by kernel_rfl) hv ((S144_run n xs).symm.trans h)
/- slices.IndexFunc[[][2]int,[2]int] -/
abbrev R148c144 := Int
noncomputable def c148c144 : Code := bodyOf Tryd.f148
noncomputable def an148c144 : Ann := (.s .l (.s (.s .l (.j [] (.j [0, 1, 7, 8] (.s .l (.s (.j [0, 1, 7, 8] .l .l) (.s (.j [0, 1, 7, 8] (.s .l (.s .l (.j [0, 1, 7, 8] .l .l))) .l) .l))) .l) .l)) .l))
def pk148c144 : List PK := [.c (.sl (.pair (.int .i64) (.int .i64))), .f 144 [(.int .u64)]]
def rk148c144 : List RK := [.c (.int .i64) 4]
noncomputable def rt148c144 (st : St) : Option R148c144 := rtG rk148c144 st
noncomputable def E148c144 (n : Nat × Nat) : Env := { T := tab, phi := (consPhi 144 (fun _ => true) (P144 n) noPhi), eff := fun _ => false, fuel := n.1, hold := n.2, pcl := [11] }
noncomputable def kq148c144_1 (n : Nat × Nat) : St → Option R148c144 := run (E148c144 n) (cB (cB c148c144)) (Ann.snd (Ann.snd an148c144)) rt148c144 (fun _ _ => none) rt148c144
noncomputable def xb148c144_3 (n : Nat × Nat) : Nat → St → Option R148c144 := fun j s => bif Nat.beq j 0 then normC [] s (kq148c144_1 n) else (fun _ _ => none) j s
noncomputable def F148c144_4 (n : Nat × Nat) : (St → Option R148c144) → St → Option R148c144 := fun K s => run (E148c144 n) (cA (cA (cB (cA (cB c148c144))))) (Ann.fst (Ann.fst (Ann.snd (Ann.fst (Ann.snd an148c144))))) (fun s => normC [0, 1, 7, 8] s K) (xb148c144_3 n) rt148c144 s
noncomputable def L148c144_1 (n : Nat × Nat) (m : Nat) (s0 : List (Int × Int)) (f1_0 : Int) (v7 : Int) (v8 : Int) : Option R148c144 := loopN (F148c144_4 n) m { tm := [.c (.sl (.pair (.int .i64) (.int .i64)) s0 false), .fn 144 [.iptr [.int .u64 f1_0]], uu, uu, uu, uu, uu, .c (.int .i64 v7), .c (.int .i64 v8), uu, uu, uu, uu, uu, uu, uu, uu, uu, uu], hp := emp }
theorem L148c144_1_eq (n : Nat × Nat) (m1 : Nat) (s0 : List (Int × Int)) (f1_0 : Int) (v7 : Int) (v8 : Int) : L148c144_1 n (m1 + 1) s0 f1_0 v7 v8 =
 (bif decide (v8 < v7) then (idx s0 v8).bind fun x1' =>
 (S144 n x1' f1_0).bind fun r2' =>
 (bif r2' then some v8
 else L148c144_1 n m1 s0 f1_0 v7 (wr .i64 (v8 + 1)))
 else some (-1)) := by kernel_rfl
noncomputable def S148c144 (n : Nat × Nat) (s0 : List (Int × Int)) (cp_1_0 : Int) : Option R148c144 := run (E148c144 n) c148c144 an148c144 rt148c144 (fun _ _ => none) rt148c144 { tm := [.c (.sl (.pair (.int .i64) (.int .i64)) s0 false), .fn 144 [.iptr [.int .u64 cp_1_0]], uu, uu, uu, uu, uu, uu, uu, uu, uu, uu, uu, uu, uu, uu, uu, uu, uu], hp := emp }
theorem S148c144_eq (n : Nat × Nat) (s0 : List (Int × Int)) (cp_1_0 : Int) : S148c144 n s0 cp_1_0 =
    L148c144_1 n n.1 s0 cp_1_0 (s0.length : Int) 0 := by kernel_rfl
theorem S148c144_run (n : Nat × Nat) (xs : pksDen pk148c144) : S148c144 n xs.1 xs.2.1.1 = runG (E148c144 n) noScope c148c144 an148c144 (rtG rk148c144) (fun _ _ => none) (rtG rk148c144) (st0 pk148c144 xs Tryd.f148.ntmps) := by kernel_rfl
noncomputable def P148c144 (n : Nat × Nat) := phiOf pk148c144 rk148c144 (fun xs => S148c144 n xs.1 xs.2.1.1)
theorem call148 : CallOK Tryd.prog 148 := callOK_of Tryd.func148 (by kernel_rfl) (by kernel_rfl)
theorem env148c144 (n : Nat × Nat) : EnvOK Tryd.prog (E148c144 n) := envOK0 (consPhi_ok (FC144 n) call144 noPhi_ok) rfl rfl
theorem par148c144 (n : Nat × Nat) : EnvPar (E148c144 n) := envPar0 (consPhi_par phiOf_Par1 noPhi_par) rfl
theorem FC148c144 (n : Nat × Nat) : FCs Tryd.prog 148 (P148c144 n) := phiOf_FCs fun xs r h vs hv => FC.of_runG tabOK eqsOK (env148c144 n) (par148c144 n) mixed (fun _ p _ => noScope_ok p.1 p.2) Tryd.func148 (c := c148c144) (an := an148c144) (pks := pk148c144) (rks := rk148c144) (by kernel_rfl) (by kernel_rfl) hv ((S148c144_run n xs).symm.trans h)
/- slices.ContainsFunc[[][2]int,[2]int] -/
abbrev R143c144 := Bool
noncomputable def c143c144 : Code := bodyOf Tryd.f143
noncomputable def an143c144 : Ann := .l
def pk143c144 : List PK := [.c (.sl (.pair (.int .i64) (.int .i64))), .f 144 [(.int .u64)]]
def rk143c144 : List RK := [.c .bool 4]
noncomputable def rt143c144 (st : St) : Option R143c144 := rtG rk143c144 st
noncomputable def E143c144 (n : Nat × Nat) : Env := { T := tab, phi := (consPhi 148 (isFns [none, some 144]) (P148c144 n) noPhi), eff := fun _ => false, fuel := n.1, hold := n.2 }
noncomputable def S143c144 (n : Nat × Nat) (s0 : List (Int × Int)) (cp_1_0 : Int) : Option R143c144 := run (E143c144 n) c143c144 an143c144 rt143c144 (fun _ _ => none) rt143c144 { tm := [.c (.sl (.pair (.int .i64) (.int .i64)) s0 false), .fn 144 [.iptr [.int .u64 cp_1_0]], uu, uu, uu, uu, uu, uu, uu], hp := emp }
theorem S143c144_eq (n : Nat × Nat) (s0 : List (Int × Int)) (cp_1_0 : Int) : S143c144 n s0 cp_1_0 =
 (S148c144 n s0 cp_1_0).bind fun r1' =>
 some (decide (r1' ≥ 0)) := by kernel_rfl
theorem S143c144_run (n : Nat × Nat) (xs : pksDen pk143c144) : S143c144 n xs.1 xs.2.1.1 = runG (E143c144 n) noScope c143c144 an143c144 (rtG rk143c144) (fun _ _ => none) (rtG rk143c144) (st0 pk143c144 xs Tryd.f143.ntmps) := by kernel_rfl
noncomputable def P143c144 (n : Nat × Nat) := phiOf pk143c144 rk143c144 (fun xs => S143c144 n xs.1 xs.2.1.1)
theorem call143 : CallOK Tryd.prog 143 := callOK_of Tryd.func143 (by kernel_rfl) (by kernel_rfl)
theorem env143c144 (n : Nat × Nat) : EnvOK Tryd.prog (E143c144 n) := envOK0 (consPhi_ok (FC148c144 n) call148 noPhi_ok) rfl rfl
theorem par143c144 (n : Nat × Nat) : EnvPar (E143c144 n) := envPar0 (consPhi_par phiOf_Par1 noPhi_par) rfl
theorem FC143c144 (n : Nat × Nat) : FCs Tryd.prog 143 (P143c144 n) := phiOf_FCs fun xs r h vs hv => FC.of_runG tabOK eqsOK (env143c144 n) (par143c144 n) mixed (fun _ p _ => noScope_ok p.1 p.2) Tryd.func143 (c := c143c144) (an := an143c144) (pks := pk143c144) (rks := rk143c144) (by kernel_rfl) (by kernel_rfl) hv ((S143c144_run n xs).symm.trans h)
/- (headword/fact.Book).explained -/
abbrev R138 := Bool
noncomputable def c138 : Code := bodyOf Tryd.f138
noncomputable def an138 : Ann := .l
def pk138 : List PK := [.c (.pair (.int .i64) (.sl (.pair (.int .i64) (.int .i64)))), .c (.int .u64)]
def rk138 : List RK := [.c .bool 4]
noncomputable def rt138 (st : St) : Option R138 := rtG rk138 st
noncomputable def E138 (n : Nat × Nat) : Env := { T := tab, phi := (consPhi 143 (isFns [none, some 144]) (P143c144 n) noPhi), eff := fun _ => false, fuel := n.1, hold := n.2 }
noncomputable def S138 (n : Nat × Nat) (b0 : Int × List (Int × Int)) (v1 : Int) : Option R138 := run (E138 n) c138 an138 rt138 (fun _ _ => none) rt138 { tm := [.agg [.int .i64 b0.1, .sl (.pair (.int .i64) (.int .i64)) b0.2 false], .c (.int .u64 v1), uu, uu, uu, uu, uu, uu, uu, uu], hp := emp }
theorem S138_eq (n : Nat × Nat) (b0 : Int × List (Int × Int)) (v1 : Int) : S138 n b0 v1 =
 (S143c144 n b0.2 v1).bind fun r1' =>
 some (!r1') := by kernel_rfl
theorem S138_run (n : Nat × Nat) (xs : pksDen pk138) : S138 n xs.1 xs.2.1 = runG (E138 n) noScope c138 an138 (rtG rk138) (fun _ _ => none) (rtG rk138) (st0 pk138 xs Tryd.f138.ntmps) := by kernel_rfl
noncomputable def P138 (n : Nat × Nat) := phiOf pk138 rk138 (fun xs => S138 n xs.1 xs.2.1)
theorem call138 : CallOK Tryd.prog 138 := callOK_of Tryd.func138 (by kernel_rfl) (by kernel_rfl)
theorem env138 (n : Nat × Nat) : EnvOK Tryd.prog (E138 n) := envOK0 (consPhi_ok (FC143c144 n) call143 noPhi_ok) rfl rfl
theorem par138 (n : Nat × Nat) : EnvPar (E138 n) := envPar0 (consPhi_par phiOf_Par1 noPhi_par) rfl
theorem FC138 (n : Nat × Nat) : FCs Tryd.prog 138 (P138 n) := phiOf_FCs fun xs r h vs hv => FC.of_runG tabOK eqsOK (env138 n) (par138 n) mixed (fun _ p _ => noScope_ok p.1 p.2) Tryd.func138 (c := c138) (an := an138) (pks := pk138) (rks := rk138) (by kernel_rfl) (by kernel_rfl) hv ((S138_run n xs).symm.trans h)
/- (headword/fact.Book).shortest -/
abbrev R127 := List Int × Int
noncomputable def c127 : Code := bodyOf Tryd.f127
noncomputable def an127 : Ann := (.s .l (.s .l (.s .l (.s (.s .l (.j [4, 5] (.j [1, 4, 5, 10, 11, 21, 22, 23, 24, 25, 26, 27, 28, 29, 34, 35, 36, 37, 38] (.s .l (.s (.j [1, 4, 5, 10, 11, 21, 22, 23, 24, 25, 26, 27, 28, 29, 34, 35, 36, 37, 38] .l .l) (.j [] (.j [1, 4, 5, 10, 11, 21, 22, 23, 24, 25, 26, 27, 28, 29, 34, 35, 36, 37, 38] (.s .l (.s .l (.s (.s .l (.j [1, 4, 5, 7, 10, 11, 21, 22, 23, 24, 25, 26, 27, 28, 29, 34, 35, 36, 37, 38] .l .l)) (.s (.s .l (.j [1, 4, 5, 7, 10, 11, 21, 22, 23, 24, 25, 26, 27, 28, 29, 34, 35, 36, 37, 38] .l .l)) (.s .l (.s .l (.j [1, 4, 5, 10, 11, 21, 22, 23, 24, 25, 26, 27, 28, 29, 34, 35, 36, 37, 38] .l .l))))))) .l) .l))) .l) .l)) .l))))
def pk127 : List PK := [.c (.pair (.int .i64) (.sl (.pair (.int .i64) (.int .i64))))]
def rk127 : List RK := [.own (.int .i64) 2, .c (.int .i64) 3]
noncomputable def rt127 (st : St) : Option R127 := rtG rk127 st
noncomputable def E127 (n : Nat × Nat) : Env := { T := tab, phi := (consPhi 37 (fun _ => true) (P37 n) (consPhi 137 (fun _ => true) (P137 n) (consPhi 138 (fun _ => true) (P138 n) noPhi))), eff := fun _ => false, fuel := n.1, hold := n.2 }
noncomputable def kq127_1 (n : Nat × Nat) : St → Option R127 := run (E127 n) (cB (cB (cB (cB c127)))) (Ann.snd (Ann.snd (Ann.snd (Ann.snd an127)))) rt127 (fun _ _ => none) rt127
noncomputable def xb127_3 (n : Nat × Nat) : Nat → St → Option R127 := fun j s => bif Nat.beq j 0 then normC [4, 5] s (kq127_1 n) else (fun _ _ => none) j s
noncomputable def F127_4 (n : Nat × Nat) : (St → Option R127) → St → Option R127 := fun K s => run (E127 n) (cA (cA (cB (cA (cB (cB (cB c127))))))) (Ann.fst (Ann.fst (Ann.snd (Ann.fst (Ann.snd (Ann.snd (Ann.snd an127))))))) (fun s => normC [1, 4, 5, 10, 11, 21, 22, 23, 24, 25, 26, 27, 28, 29, 34, 35, 36, 37, 38] s K) (xb127_3 n) rt127 s
noncomputable def kq127_7 (n : Nat × Nat) (m1 : Nat) : St → Option R127 := run (E127 n) (cB (cB (cB (cA (cA (cB (cA (cB (cB (cB c127)))))))))) (Ann.snd (Ann.snd (Ann.snd (Ann.fst (Ann.fst (Ann.snd (Ann.fst (Ann.snd (Ann.snd (Ann.snd an127)))))))))) (fun s => normC [1, 4, 5, 10, 11, 21, 22, 23, 24, 25, 26, 27, 28, 29, 34, 35, 36, 37, 38] s (loopN (F127_4 n) m1)) (xb127_3 n) rt127
noncomputable def L127_1 (n : Nat × Nat) (m : Nat) (many5 : Int) (v10 : Int) (v11 : Int) (b1_0 : Int) (b1_1 : List (Int × Int)) (best4 : List Int) : Option R127 := loopN (F127_4 n) m { tm := [uu, .ptr 1 0, uu, uu, .own 4 none false, .c (.int .i64 many5), uu, uu, uu, uu, .c (.int .u64 v10), .c (.int .u64 v11), uu, uu, uu, uu, uu, uu, uu, uu, uu, uu, uu, uu, uu, uu, uu, uu, uu, uu, uu, uu, uu, uu, uu, uu, uu, uu, uu, uu, uu, uu, uu, uu, uu, uu, uu, uu, uu, uu, uu], hp := (upd (upd emp 4 (.arr (.int .i64) best4 false)) 1 (.box [.int .i64 b1_0, .sl (.pair (.int .i64) (.int .i64)) b1_1 false])) }
noncomputable def L127_2 (n : Nat × Nat) (m1 : Nat) (many5 : Int) (v10 : Int) (v11 : Int) (b1_0 : Int) (b1_1 : List (Int × Int)) (best4 : List Int) : Option R127 := loopN (fun _ => (kq127_7 n m1)) n.2 { tm := [uu, .ptr 1 0, uu, uu, .own 4 none false, .c (.int .i64 many5), uu, uu, uu, uu, .c (.int .u64 v10), .c (.int .u64 v11), uu, uu, uu, uu, uu, uu, uu, uu, uu, uu, uu, uu, uu, uu, uu, uu, uu, uu, uu, uu, uu, uu, uu, uu, uu, uu, uu, uu, uu, uu, uu, uu, uu, uu, uu, uu, uu, uu, uu], hp := (upd (upd emp 4 (.arr (.int .i64) best4 false)) 1 (.box [.int .i64 b1_0, .sl (.pair (.int .i64) (.int .i64)) b1_1 false])) }
theorem L127_1_eq (n : Nat × Nat) (m1 : Nat) (many5 : Int) (v10 : Int) (v11 : Int) (b1_0 : Int) (b1_1 : List (Int × Int)) (best4 : List Int) : L127_1 n (m1 + 1) many5 v10 v11 b1_0 b1_1 best4 =
 (bif decide (v11 < v10) then (S137 n v11).bind fun r1' =>
 (S138 n (b1_0, b1_1) v11).bind fun r2' =>
 ((bif ((!r2') == false) then ((bif (decide (many5 > 0) == true) then some (decide ((r1'.length : Int) > (best4.length : Int)))
 else some false)).bind fun b3' =>
 some b3'
 else some true)).bind fun b4' =>
 (bif b4' then L127_2 n m1 many5 v10 v11 b1_0 b1_1 best4
 else ((bif ((many5 == 0) == false) then some (decide ((r1'.length : Int) < (best4.length : Int)))
 else some true)).bind fun b5' =>
 (bif b5' then L127_2 n m1 1 v10 v11 b1_0 b1_1 r1'
 else (S37 n r1' best4).bind fun r6' =>
 (bif decide (r6' < 0) then L127_2 n m1 (wr .i64 (many5 + 1)) v10 v11 b1_0 b1_1 r1'
 else L127_2 n m1 (wr .i64 (many5 + 1)) v10 v11 b1_0 b1_1 best4)))
 else some (best4, many5)) := by kernel_rfl
theorem L127_2_raw (n : Nat × Nat) (m1 : Nat) (many5 : Int) (v10 : Int) (v11 : Int) (b1_0 : Int) (b1_1 : List (Int × Int)) (best4 : List Int) : (kq127_7 n m1) { tm := [uu, .ptr 1 0, uu, uu, .own 4 none false, .c (.int .i64 many5), uu, uu, uu, uu, .c (.int .u64 v10), .c (.int .u64 v11), uu, uu, uu, uu, uu, uu, uu, uu, uu, uu, uu, uu, uu, uu, uu, uu, uu, uu, uu, uu, uu, uu, uu, uu, uu, uu, uu, uu, uu, uu, uu, uu, uu, uu, uu, uu, uu, uu, uu], hp := (upd (upd emp 4 (.arr (.int .i64) best4 false)) 1 (.box [.int .i64 b1_0, .sl (.pair (.int .i64) (.int .i64)) b1_1 false])) } =
    L127_1 n m1 many5 v10 (wr .u64 (v11 + 1)) b1_0 b1_1 best4 := by kernel_rfl
noncomputable def S127 (n : Nat × Nat) (b0 : Int × List (Int × Int)) : Option R127 := run (E127 n) c127 an127 rt127 (fun _ _ => none) rt127 { tm := [.agg [.int .i64 b0.1, .sl (.pair (.int .i64) (.int .i64)) b0.2 false], uu, uu, uu, uu, uu, uu, uu, uu, uu, uu, uu, uu, uu, uu, uu, uu, uu, uu, uu, uu, uu, uu, uu, uu, uu, uu, uu, uu, uu, uu, uu, uu, uu, uu, uu, uu, uu, uu, uu, uu, uu, uu, uu, uu, uu, uu, uu, uu, uu, uu], hp := emp }
theorem S127_eq (n : Nat × Nat) (b0 : Int × List (Int × Int)) : S127 n b0 =
 (bif decide (b0.1 < 0) then none
 else L127_1 n n.1 0 (wr .u64 (1 * 2 ^ (min (Int.toNat b0.1) (IntKind.bits .u64)))) 0 b0.1 b0.2 []) := by kernel_rfl
theorem S127_run (n : Nat × Nat) (xs : pksDen pk127) : S127 n xs.1 = runG (E127 n) noScope c127 an127 (rtG rk127) (fun _ _ => none) (rtG rk127) (st0 pk127 xs Tryd.f127.ntmps) := by kernel_rfl
noncomputable def P127 (n : Nat × Nat) := phiOf pk127 rk127 (fun xs => S127 n xs.1)
theorem call127 : CallOK Tryd.prog 127 := callOK_of Tryd.func127 (by kernel_rfl) (by kernel_rfl)
theorem env127 (n : Nat × Nat) : EnvOK Tryd.prog (E127 n) := envOK0 (consPhi_ok (FC37 n) call37 (consPhi_ok (FC137 n) call137 (consPhi_ok (FC138 n) call138 noPhi_ok))) rfl rfl
theorem par127 (n : Nat × Nat) : EnvPar (E127 n) := envPar0 (consPhi_par phiOf_Par1 (consPhi_par phiOf_Par1 (consPhi_par phiOf_Par1 noPhi_par))) rfl
theorem FC127 (n : Nat × Nat) : FCs Tryd.prog 127 (P127 n) := phiOf_FCs fun xs r h vs hv => FC.of_runG tabOK eqsOK (env127 n) (par127 n) mixed (fun _ p _ => noScope_ok p.1 p.2) Tryd.func127 (c := c127) (an := an127) (pks := pk127) (rks := rk127) (by kernel_rfl) (by kernel_rfl) hv ((S127_run n xs).symm.trans h)
abbrev R113 := List Int × Int
noncomputable def c113 : Code := bodyOf Tryd.f113
noncomputable def an113 : Ann := (.s .l (.s (.s .l (.s .l (.j [1] .l .l))) .l))
def pk113 : List PK := [.c (.pair (.int .i64) (.sl (.pair (.int .i64) (.int .i64))))]
def rk113 : List RK := [.own (.int .i64) 2, .c (.int .i64) 3]
noncomputable def rt113 (st : St) : Option R113 := rtG rk113 st
noncomputable def E113 (n : Nat × Nat) : Env := { T := tab, phi := (consPhi 126 (fun _ => true) (P126 n) (consPhi 127 (fun _ => true) (P127 n) noPhi)), eff := fun _ => false, fuel := n.1, hold := n.2 }
noncomputable def S113 (n : Nat × Nat) (b0 : Int × List (Int × Int)) : Option R113 := run (E113 n) c113 an113 rt113 (fun _ _ => none) rt113 { tm := [.agg [.int .i64 b0.1, .sl (.pair (.int .i64) (.int .i64)) b0.2 false], uu, uu, uu, uu, uu, uu, uu, uu, uu, uu, uu, uu, uu, uu, uu, uu, uu], hp := emp }
theorem S113_eq (n : Nat × Nat) (b0 : Int × List (Int × Int)) : S113 n b0 =
 (S126 n b0).bind fun r1' =>
 (bif (r1' != 0) then some ([], r1')
 else (S127 n b0).bind fun r2' =>
 some (r2'.1, 0)) := by kernel_rfl
theorem S113_run (n : Nat × Nat) (xs : pksDen pk113) : S113 n xs.1 = runG (E113 n) noScope c113 an113 (rtG rk113) (fun _ _ => none) (rtG rk113) (st0 pk113 xs Tryd.f113.ntmps) := by kernel_rfl
noncomputable def P113 (n : Nat × Nat) := phiOf pk113 rk113 (fun xs => S113 n xs.1)
theorem call113 : CallOK Tryd.prog 113 := callOK_of Tryd.func113 (by kernel_rfl) (by kernel_rfl)
theorem env113 (n : Nat × Nat) : EnvOK Tryd.prog (E113 n) := envOK0 (consPhi_ok (FC126 n) call126 (consPhi_ok (FC127 n) call127 noPhi_ok)) rfl rfl
theorem par113 (n : Nat × Nat) : EnvPar (E113 n) := envPar0 (consPhi_par phiOf_Par1 (consPhi_par phiOf_Par1 noPhi_par)) rfl
theorem FC113 (n : Nat × Nat) : FCs Tryd.prog 113 (P113 n) := phiOf_FCs fun xs r h vs hv => FC.of_runG tabOK eqsOK (env113 n) (par113 n) mixed (fun _ p _ => noScope_ok p.1 p.2) Tryd.func113 (c := c113) (an := an113) (pks := pk113) (rks := rk113) (by kernel_rfl) (by kernel_rfl) hv ((S113_run n xs).symm.trans h)
abbrev R44 := List Int × Int
noncomputable def c44 : Code := bodyOf Tryd.f44
noncomputable def an44 : Ann := (.s .l (.s .l (.s (.j [4] (.s .l (.j [4] .l (.s .l (.j [4] .l .l)))) .l) .l)))
def pk44 : List PK := [.c (.pair (.int .i64) (.sl (.pair (.int .i64) (.int .i64))))]
def rk44 : List RK := [.sl (.int .i64) 2, .c (.int .i64) 3]
noncomputable def rt44 (st : St) : Option R44 := rtG rk44 st
noncomputable def E44 (n : Nat × Nat) : Env := { T := tab, phi := (consPhi 11 (fun _ => true) (P11 n) noPhi), eff := fun g => Nat.beq g 11, fuel := n.1, hold := n.2 }
noncomputable def S44 (n : Nat × Nat) (b0 : Int × List (Int × Int)) : Option R44 := run (E44 n) c44 an44 rt44 (fun _ _ => none) rt44 { tm := [.agg [.int .i64 b0.1, .sl (.pair (.int .i64) (.int .i64)) b0.2 false], uu, uu, uu, uu, uu, uu, uu, uu, uu, uu, uu, uu, uu, uu, uu, uu, uu, uu, uu, uu, uu], hp := emp }
theorem S44_eq (n : Nat × Nat) (b0 : Int × List (Int × Int)) : S44 n b0 =
 (S11 n b0).bind fun r1' =>
 (bif (r1'.2 != 0) then some ([], r1'.2)
 else (bif ((r1'.1.length : Int) == 0) then some ([], 12)
 else (bif inB 0 r1'.1.length then (idx r1'.1 0).bind fun x2' =>
 some (x2', 0)
 else none))) := by kernel_rfl
theorem S44_run (n : Nat × Nat) (xs : pksDen pk44) : S44 n xs.1 = runG (E44 n) noScope c44 an44 (rtG rk44) (fun _ _ => none) (rtG rk44) (st0 pk44 xs Tryd.f44.ntmps) := by kernel_rfl
noncomputable def P44 (n : Nat × Nat) := phiOf pk44 rk44 (fun xs => S44 n xs.1)
theorem call44 : CallOK Tryd.prog 44 := callOK_of Tryd.func44 (by kernel_rfl) (by kernel_rfl)
theorem env44 (n : Nat × Nat) : EnvOK Tryd.prog (E44 n) := envOK0 (consPhi_ok (FC11 n) call11 noPhi_ok) rfl rfl
theorem par44 (n : Nat × Nat) : EnvPar (E44 n) := envPar0 (consPhi_par phiOf_Par1 noPhi_par) rfl
theorem FC44 (n : Nat × Nat) : FCs Tryd.prog 44 (P44 n) := phiOf_FCs fun xs r h vs hv => FC.of_runG tabOK eqsOK (env44 n) (par44 n) mixed (fun _ p _ => noScope_ok p.1 p.2) Tryd.func44 (c := c44) (an := an44) (pks := pk44) (rks := rk44) (by kernel_rfl) (by kernel_rfl) hv ((S44_run n xs).symm.trans h)
abbrev R65 := Int
noncomputable def c65 : Code := bodyOf Tryd.f65
noncomputable def an65 : Ann := (.s .l (.s (.s .l (.j [0, 16, 17] .l .l)) (.s (.s .l (.j [] (.j [9, 16, 17] (.s .l (.s (.j [9, 10, 16, 17] .l .l) (.j [9, 16, 17] (.s .l (.s .l (.j [9, 16, 17] .l .l))) .l))) .l) .l)) .l)))
def pk65 : List PK := [.c .str]
def rk65 : List RK := [.c (.int .i64) 2]
noncomputable def rt65 (st : St) : Option R65 := rtG rk65 st
noncomputable def E65 (n : Nat × Nat) : Env := { T := tab, phi := noPhi, eff := fun _ => false, fuel := n.1, hold := n.2 }
noncomputable def kq65_3 (n : Nat × Nat) : St → Option R65 := run (E65 n) (cB (cB (cB c65))) (Ann.snd (Ann.snd (Ann.snd an65))) rt65 (fun _ _ => none) rt65
noncomputable def xb65_5 (n : Nat × Nat) : Nat → St → Option R65 := fun j s => bif Nat.beq j 0 then normC [] s (kq65_3 n) else (fun _ _ => none) j s
noncomputable def F65_6 (n : Nat × Nat) : (St → Option R65) → St → Option R65 := fun K s => run (E65 n) (cA (cA (cB (cA (cB (cB c65)))))) (Ann.fst (Ann.fst (Ann.snd (Ann.fst (Ann.snd (Ann.snd an65)))))) (fun s => normC [9, 16, 17] s K) (xb65_5 n) rt65 s
noncomputable def L65_1 (n : Nat × Nat) (m : Nat) (v9s : ByteArray) (v9p : Nat) : Option R65 := loopN (F65_6 n) m { tm := [uu, uu, uu, uu, uu, uu, uu, uu, uu, .ptr 9 0, uu, uu, uu, uu, uu, uu, uu, uu, uu], hp := (upd emp 9 (.iter v9s v9p)) }
theorem L65_1_eq (n : Nat × Nat) (m1 : Nat) (v9s : ByteArray) (v9p : Nat) : L65_1 n (m1 + 1) v9s v9p =
 (bif Nat.blt v9p v9s.size then ((strBytes v9s)[v9p]?).bind fun x1' =>
 (bif decide (x1' < 128) then ((bif (decide (x1' < 97) == false) then some (decide (x1' ≥ 103))
 else some true)).bind fun b2' =>
 (bif b2' then some 10
 else L65_1 n m1 v9s (v9p + 1))
 else none)
 else some 0) := by kernel_rfl
noncomputable def S65 (n : Nat × Nat) (word0 : ByteArray) : Option R65 := run (E65 n) c65 an65 rt65 (fun _ _ => none) rt65 { tm := [.c (.str word0), uu, uu, uu, uu, uu, uu, uu, uu, uu, uu, uu, uu, uu, uu, uu, uu, uu, uu], hp := emp }
theorem S65_eq (n : Nat × Nat) (word0 : ByteArray) : S65 n word0 =
 (bif decide ((word0.size : Int) > 10) then some 19
 else L65_1 n n.1 word0 0) := by kernel_rfl
theorem S65_run (n : Nat × Nat) (xs : pksDen pk65) : S65 n xs.1 = runG (E65 n) noScope c65 an65 (rtG rk65) (fun _ _ => none) (rtG rk65) (st0 pk65 xs Tryd.f65.ntmps) := by kernel_rfl
noncomputable def P65 (n : Nat × Nat) := phiOf pk65 rk65 (fun xs => S65 n xs.1)
theorem call65 : CallOK Tryd.prog 65 := callOK_of Tryd.func65 (by kernel_rfl) (by kernel_rfl)
theorem env65 (n : Nat × Nat) : EnvOK Tryd.prog (E65 n) := envOK0 noPhi_ok rfl rfl
theorem par65 (n : Nat × Nat) : EnvPar (E65 n) := envPar0 noPhi_par rfl
theorem FC65 (n : Nat × Nat) : FCs Tryd.prog 65 (P65 n) := phiOf_FCs fun xs r h vs hv => FC.of_runG tabOK eqsOK (env65 n) (par65 n) mixed (fun _ p _ => noScope_ok p.1 p.2) Tryd.func65 (c := c65) (an := an65) (pks := pk65) (rks := rk65) (by kernel_rfl) (by kernel_rfl) hv ((S65_run n xs).symm.trans h)
abbrev R31 := Int
noncomputable def c31 : Code := bodyOf Tryd.f31
noncomputable def an31 : Ann := (.s .l (.s (.s .l (.j [] (.j [6, 7, 8] (.s .l (.s (.j [6, 7, 8] .l .l) (.s (.j [6, 7, 8] (.s .l (.s .l (.s .l (.j [6, 7, 8] .l .l)))) .l) .l))) .l) .l)) .l))
def pk31 : List PK := [.c (.sl .str)]
def rk31 : List RK := [.c (.int .i64) 2]
noncomputable def rt31 (st : St) : Option R31 := rtG rk31 st
noncomputable def E31 (n : Nat × Nat) : Env := { T := tab, phi := (consPhi 65 (fun _ => true) (P65 n) noPhi), eff := fun _ => false, fuel := n.1, hold := n.2 }
noncomputable def kq31_1 (n : Nat × Nat) : St → Option R31 := run (E31 n) (cB (cB c31)) (Ann.snd (Ann.snd an31)) rt31 (fun _ _ => none) rt31
noncomputable def xb31_3 (n : Nat × Nat) : Nat → St → Option R31 := fun j s => bif Nat.beq j 0 then normC [] s (kq31_1 n) else (fun _ _ => none) j s
noncomputable def F31_4 (n : Nat × Nat) : (St → Option R31) → St → Option R31 := fun K s => run (E31 n) (cA (cA (cB (cA (cB c31))))) (Ann.fst (Ann.fst (Ann.snd (Ann.fst (Ann.snd an31))))) (fun s => normC [6, 7, 8] s K) (xb31_3 n) rt31 s
noncomputable def L31_1 (n : Nat × Nat) (m : Nat) (v6 : List ByteArray) (v7 : Int) (v8 : Int) : Option R31 := loopN (F31_4 n) m { tm := [uu, uu, uu, uu, uu, uu, .c (.sl .str v6 false), .c (.int .i64 v7), .c (.int .i64 v8), uu, uu, uu, uu, uu, uu, uu, uu, uu], hp := emp }
theorem L31_1_eq (n : Nat × Nat) (m1 : Nat) (v6 : List ByteArray) (v7 : Int) (v8 : Int) : L31_1 n (m1 + 1) v6 v7 v8 =
 (bif decide (v8 < v7) then (idx v6 v8).bind fun x1' =>
 (S65 n x1').bind fun r2' =>
 (bif (r2' != 0) then some r2'
 else L31_1 n m1 v6 v7 (wr .i64 (v8 + 1)))
 else some 0) := by kernel_rfl
noncomputable def S31 (n : Nat × Nat) (words0 : List ByteArray) : Option R31 := run (E31 n) c31 an31 rt31 (fun _ _ => none) rt31 { tm := [.c (.sl .str words0 false), uu, uu, uu, uu, uu, uu, uu, uu, uu, uu, uu, uu, uu, uu, uu, uu, uu], hp := emp }
theorem S31_eq (n : Nat × Nat) (words0 : List ByteArray) : S31 n words0 =
    L31_1 n n.1 words0 (words0.length : Int) 0 := by kernel_rfl
theorem S31_run (n : Nat × Nat) (xs : pksDen pk31) : S31 n xs.1 = runG (E31 n) noScope c31 an31 (rtG rk31) (fun _ _ => none) (rtG rk31) (st0 pk31 xs Tryd.f31.ntmps) := by kernel_rfl
noncomputable def P31 (n : Nat × Nat) := phiOf pk31 rk31 (fun xs => S31 n xs.1)
theorem call31 : CallOK Tryd.prog 31 := callOK_of Tryd.func31 (by kernel_rfl) (by kernel_rfl)
theorem env31 (n : Nat × Nat) : EnvOK Tryd.prog (E31 n) := envOK0 (consPhi_ok (FC65 n) call65 noPhi_ok) rfl rfl
theorem par31 (n : Nat × Nat) : EnvPar (E31 n) := envPar0 (consPhi_par phiOf_Par1 noPhi_par) rfl
theorem FC31 (n : Nat × Nat) : FCs Tryd.prog 31 (P31 n) := phiOf_FCs fun xs r h vs hv => FC.of_runG tabOK eqsOK (env31 n) (par31 n) mixed (fun _ p _ => noScope_ok p.1 p.2) Tryd.func31 (c := c31) (an := an31) (pks := pk31) (rks := rk31) (by kernel_rfl) (by kernel_rfl) hv ((S31_run n xs).symm.trans h)
abbrev R75 := Int × Int
noncomputable def c75 : Code := bodyOf Tryd.f75
noncomputable def an75 : Ann := (.s .l (.s (.s .l (.s .l (.j [0, 1] .l .l))) (.s .l (.s .l (.s (.s .l (.j [1, 7] (.j [1, 7, 25, 26, 27] (.s .l (.s (.j [1, 7, 25, 26, 27] .l .l) (.s (.j [1, 7, 25, 26, 27] (.s .l (.s .l (.j [1, 7, 25, 26, 27] (.j [1, 7, 9, 10, 25, 26, 27] (.s (.s .l (.j [1, 7, 9, 10, 25, 26, 27] .l .l)) (.j [] (.j [1, 7, 9, 10, 25, 26, 27] (.s .l (.j [1, 7, 9, 10, 25, 26, 27] .l .l)) .l) .l)) .l) .l))) .l) .l))) .l) .l)) .l)))))
def pk75 : List PK := [.c .str, .c .str]
def rk75 : List RK := [.c (.int .i64) 4, .c (.int .i64) 5]
noncomputable def rt75 (st : St) : Option R75 := rtG rk75 st
noncomputable def E75 (n : Nat × Nat) : Env := { T := tab, phi := (consPhi 31 (fun _ => true) (P31 n) noPhi), eff := fun _ => false, fuel := n.1, hold := n.2 }
noncomputable def kq75_3 (n : Nat × Nat) : St → Option R75 := run (E75 n) (cB (cB (cB (cB (cB c75))))) (Ann.snd (Ann.snd (Ann.snd (Ann.snd (Ann.snd an75))))) rt75 (fun _ _ => none) rt75
noncomputable def xb75_5 (n : Nat × Nat) : Nat → St → Option R75 := fun j s => bif Nat.beq j 0 then normC [1, 7] s (kq75_3 n) else (fun _ _ => none) j s
noncomputable def F75_6 (n : Nat × Nat) : (St → Option R75) → St → Option R75 := fun K s => run (E75 n) (cA (cA (cB (cA (cB (cB (cB (cB c75)))))))) (Ann.fst (Ann.fst (Ann.snd (Ann.fst (Ann.snd (Ann.snd (Ann.snd (Ann.snd an75)))))))) (fun s => normC [1, 7, 25, 26, 27] s K) (xb75_5 n) rt75 s
noncomputable def kq75_9 (n : Nat × Nat) (m1 : Nat) : St → Option R75 := run (E75 n) (cB (cB (cB (cA (cA (cB (cA (cB (cB (cB (cB c75))))))))))) (Ann.snd (Ann.snd (Ann.snd (Ann.fst (Ann.fst (Ann.snd (Ann.fst (Ann.snd (Ann.snd (Ann.snd (Ann.snd an75))))))))))) (fun s => normC [1, 7, 25, 26, 27] s (loopN (F75_6 n) m1)) (xb75_5 n) rt75
noncomputable def kc75_10 (n : Nat × Nat) (m1 : Nat) : St → Option R75 := fun s => normC [1, 7, 25, 26, 27] s (kq75_9 n m1)
noncomputable def xb75_11 (n : Nat × Nat) (m1 : Nat) : Nat → St → Option R75 := fun j s => bif Nat.beq j 1 then normC [1, 7, 25, 26, 27] s (kq75_9 n m1) else (xb75_5 n) j s
noncomputable def xb75_13 (n : Nat × Nat) (m1 : Nat) : Nat → St → Option R75 := fun j s => bif Nat.beq j 2 then normC [1, 7, 25, 26, 27] s (kc75_10 n m1) else (xb75_11 n m1) j s
noncomputable def F75_14 (n : Nat × Nat) (m1 : Nat) : (St → Option R75) → St → Option R75 := fun K s => run (E75 n) (cA (cA (cB (cB (cA (cA (cB (cB (cA (cA (cB (cA (cB (cB (cB (cB c75)))))))))))))))) (Ann.fst (Ann.fst (Ann.snd (Ann.snd (Ann.fst (Ann.fst (Ann.snd (Ann.snd (Ann.fst (Ann.fst (Ann.snd (Ann.fst (Ann.snd (Ann.snd (Ann.snd (Ann.snd an75)))))))))))))))) (fun s => normC [1, 7, 9, 10, 25, 26, 27] s K) (xb75_13 n m1) rt75 s
noncomputable def kq75_17 (n : Nat × Nat) (m1 m2 : Nat) : St → Option R75 := run (E75 n) (cB (cB (cA (cA (cB (cB (cA (cA (cB (cB (cA (cA (cB (cA (cB (cB (cB (cB c75)))))))))))))))))) (Ann.snd (Ann.snd (Ann.fst (Ann.fst (Ann.snd (Ann.snd (Ann.fst (Ann.fst (Ann.snd (Ann.snd (Ann.fst (Ann.fst (Ann.snd (Ann.fst (Ann.snd (Ann.snd (Ann.snd (Ann.snd an75)))))))))))))))))) (fun s => normC [1, 7, 9, 10, 25, 26, 27] s (loopN (F75_14 n m1) m2)) (xb75_13 n m1) rt75
noncomputable def L75_1 (n : Nat × Nat) (m : Nat) (part1 : ByteArray) (v25 : List Int) (v26 : Int) (v27 : Int) (begun7 : List Int) : Option R75 := loopN (F75_6 n) m { tm := [uu, .c (.str part1), uu, uu, uu, uu, uu, .own 7 none false, uu, uu, uu, uu, uu, uu, uu, uu, uu, uu, uu, uu, uu, uu, uu, uu, uu, .c (.sl (.int .u8) v25 false), .c (.int .i64 v26), .c (.int .i64 v27), uu, uu, uu, uu, uu, uu, uu, uu, uu, uu, uu, uu, uu, uu, uu, uu, uu, uu, uu, uu, uu, uu, uu, uu, uu, uu, uu, uu, uu, uu, uu, uu], hp := (upd emp 7 (.arr (.int .i64) begun7 false)) }
noncomputable def L75_2 (n : Nat × Nat) (m1 : Nat) (m : Nat) (part1 : ByteArray) (c9 : Int) (k10 : Int) (v25 : List Int) (v26 : Int) (v27 : Int) (begun7 : List Int) : Option R75 := loopN (F75_14 n m1) m { tm := [uu, .c (.str part1), uu, uu, uu, uu, uu, .own 7 none false, uu, .c (.int .u8 c9), .c (.int .i64 k10), uu, uu, uu, uu, uu, uu, uu, uu, uu, uu, uu, uu, uu, uu, .c (.sl (.int .u8) v25 false), .c (.int .i64 v26), .c (.int .i64 v27), uu, uu, uu, uu, uu, uu, uu, uu, uu, uu, uu, uu, uu, uu, uu, uu, uu, uu, uu, uu, uu, uu, uu, uu, uu, uu, uu, uu, uu, uu, uu, uu], hp := (upd emp 7 (.arr (.int .i64) begun7 false)) }
noncomputable def L75_3 (n : Nat × Nat) (m1 m2 : Nat) (part1 : ByteArray) (c9 : Int) (k10 : Int) (v25 : List Int) (v26 : Int) (v27 : Int) (begun7 : List Int) : Option R75 := loopN (fun _ => (kq75_17 n m1 m2)) n.2 { tm := [uu, .c (.str part1), uu, uu, uu, uu, uu, .own 7 none false, uu, .c (.int .u8 c9), .c (.int .i64 k10), uu, uu, uu, uu, uu, uu, uu, uu, uu, uu, uu, uu, uu, uu, .c (.sl (.int .u8) v25 false), .c (.int .i64 v26), .c (.int .i64 v27), uu, uu, uu, uu, uu, uu, uu, uu, uu, uu, uu, uu, uu, uu, uu, uu, uu, uu, uu, uu, uu, uu, uu, uu, uu, uu, uu, uu, uu, uu, uu, uu], hp := (upd emp 7 (.arr (.int .i64) begun7 false)) }
theorem L75_1_eq (n : Nat × Nat) (m1 : Nat) (part1 : ByteArray) (v25 : List Int) (v26 : Int) (v27 : Int) (begun7 : List Int) : L75_1 n (m1 + 1) part1 v25 v26 v27 begun7 =
 (bif decide (v27 < v26) then (idx v25 v27).bind fun x3' =>
      L75_2 n m1 n.1 part1 x3' (part1.size : Int) v25 v26 v27 begun7
 else (bif inB (part1.size : Int) begun7.length then (idx begun7 (part1.size : Int)).bind fun x4' =>
 some (x4', 0)
 else none)) := by kernel_rfl
theorem L75_2_eq (n : Nat × Nat) (m1 m2 : Nat) (part1 : ByteArray) (c9 : Int) (k10 : Int) (v25 : List Int) (v26 : Int) (v27 : Int) (begun7 : List Int) : L75_2 n m1 (m2 + 1) part1 c9 k10 v25 v26 v27 begun7 =
 (bif decide (k10 > 0) then (idx (strBytes part1) (wr .i64 (k10 - 1))).bind fun x5' =>
 (bif (x5' == c9) then (bif inB k10 begun7.length then (idx begun7 k10).bind fun x6' =>
 (bif inB (wr .i64 (k10 - 1)) begun7.length then (idx begun7 (wr .i64 (k10 - 1))).bind fun x7' =>
 (bif inB k10 begun7.length then (idx begun7 k10).bind fun x8' =>
              L75_3 n m1 m2 part1 c9 k10 v25 v26 v27 (begun7.set (Int.toNat k10) (wr .i64 (x6' + x7')))
 else none)
 else none)
 else none)
 else L75_3 n m1 m2 part1 c9 k10 v25 v26 v27 begun7)
 else L75_1 n m1 part1 v25 v26 (wr .i64 (v27 + 1)) begun7) := by kernel_rfl
theorem L75_3_raw (n : Nat × Nat) (m1 m2 : Nat) (part1 : ByteArray) (c9 : Int) (k10 : Int) (v25 : List Int) (v26 : Int) (v27 : Int) (begun7 : List Int) : (kq75_17 n m1 m2) { tm := [uu, .c (.str part1), uu, uu, uu, uu, uu, .own 7 none false, uu, .c (.int .u8 c9), .c (.int .i64 k10), uu, uu, uu, uu, uu, uu, uu, uu, uu, uu, uu, uu, uu, uu, .c (.sl (.int .u8) v25 false), .c (.int .i64 v26), .c (.int .i64 v27), uu, uu, uu, uu, uu, uu, uu, uu, uu, uu, uu, uu, uu, uu, uu, uu, uu, uu, uu, uu, uu, uu, uu, uu, uu, uu, uu, uu, uu, uu, uu, uu], hp := (upd emp 7 (.arr (.int .i64) begun7 false)) } =
    L75_2 n m1 m2 part1 c9 (wr .i64 (k10 - 1)) v25 v26 v27 begun7 := by kernel_rfl
noncomputable def S75 (n : Nat × Nat) (word0 : ByteArray) (part1 : ByteArray) : Option R75 := run (E75 n) c75 an75 rt75 (fun _ _ => none) rt75 { tm := [.c (.str word0), .c (.str part1), uu, uu, uu, uu, uu, uu, uu, uu, uu, uu, uu, uu, uu, uu, uu, uu, uu, uu, uu, uu, uu, uu, uu, uu, uu, uu, uu, uu, uu, uu, uu, uu, uu, uu, uu, uu, uu, uu, uu, uu, uu, uu, uu, uu, uu, uu, uu, uu, uu, uu, uu, uu, uu, uu, uu, uu, uu, uu], hp := emp }
theorem S75_eq (n : Nat × Nat) (word0 : ByteArray) (part1 : ByteArray) : S75 n word0 part1 =
 (S31 n [word0, part1]).bind fun r1' =>
 (bif (r1' != 0) then some (0, r1')
 else (bif decide (0 ≤ wr .i64 ((part1.size : Int) + 1)) && decide (wr .i64 ((part1.size : Int) + 1) ≤ wr .i64 ((part1.size : Int) + 1)) && decide (wr .i64 ((part1.size : Int) + 1) ≤ lim) then (bif inB 0 (List.replicate (Int.toNat (wr .i64 ((part1.size : Int) + 1))) (0 : Int)).length then (idx (List.replicate (Int.toNat (wr .i64 ((part1.size : Int) + 1))) (0 : Int)) 0).bind fun x2' =>
          L75_1 n n.1 part1 (strBytes word0) ((strBytes word0).length : Int) 0 ((List.replicate (Int.toNat (wr .i64 ((part1.size : Int) + 1))) (0 : Int)).set (Int.toNat 0) 1)
 else none)
 else none)) := by kernel_rfl
theorem S75_run (n : Nat × Nat) (xs : pksDen pk75) : S75 n xs.1 xs.2.1 = runG (E75 n) noScope c75 an75 (rtG rk75) (fun _ _ => none) (rtG rk75) (st0 pk75 xs Tryd.f75.ntmps) := by kernel_rfl
noncomputable def P75 (n : Nat × Nat) := phiOf pk75 rk75 (fun xs => S75 n xs.1 xs.2.1)
theorem call75 : CallOK Tryd.prog 75 := callOK_of Tryd.func75 (by kernel_rfl) (by kernel_rfl)
theorem env75 (n : Nat × Nat) : EnvOK Tryd.prog (E75 n) := envOK0 (consPhi_ok (FC31 n) call31 noPhi_ok) rfl rfl
theorem par75 (n : Nat × Nat) : EnvPar (E75 n) := envPar0 (consPhi_par phiOf_Par1 noPhi_par) rfl
theorem FC75 (n : Nat × Nat) : FCs Tryd.prog 75 (P75 n) := phiOf_FCs fun xs r h vs hv => FC.of_runG tabOK eqsOK (env75 n) (par75 n) mixed (fun _ p _ => noScope_ok p.1 p.2) Tryd.func75 (c := c75) (an := an75) (pks := pk75) (rks := rk75) (by kernel_rfl) (by kernel_rfl) hv ((S75_run n xs).symm.trans h)
abbrev R105 := Int
noncomputable def c105 : Code := bodyOf Tryd.f105
noncomputable def an105 : Ann := (.s .l (.s (.s .l (.j [0, 1] (.s .l (.j [0, 1] .l (.s .l (.j [0, 1] .l .l)))) .l)) (.s (.s .l (.j [] (.j [1, 22] (.s .l (.s (.j [1, 22, 23] .l .l) (.j [1, 22] (.s .l (.s .l (.j [1, 22] .l .l))) .l))) .l) .l)) .l)))
def pk105 : List PK := [.c .str, .c (.int .i64)]
def rk105 : List RK := [.c (.int .i64) 4]
noncomputable def rt105 (st : St) : Option R105 := rtG rk105 st
noncomputable def E105 (n : Nat × Nat) : Env := { T := tab, phi := (consPhi 65 (fun _ => true) (P65 n) noPhi), eff := fun _ => false, fuel := n.1, hold := n.2 }
noncomputable def kq105_6 (n : Nat × Nat) : St → Option R105 := run (E105 n) (cB (cB (cB c105))) (Ann.snd (Ann.snd (Ann.snd an105))) rt105 (fun _ _ => none) rt105
noncomputable def xb105_8 (n : Nat × Nat) : Nat → St → Option R105 := fun j s => bif Nat.beq j 1 then normC [] s (kq105_6 n) else (fun _ _ => none) j s
noncomputable def F105_9 (n : Nat × Nat) : (St → Option R105) → St → Option R105 := fun K s => run (E105 n) (cA (cA (cB (cA (cB (cB c105)))))) (Ann.fst (Ann.fst (Ann.snd (Ann.fst (Ann.snd (Ann.snd an105)))))) (fun s => normC [1, 22] s K) (xb105_8 n) rt105 s
noncomputable def L105_1 (n : Nat × Nat) (m : Nat) (letters1 : Int) (v22s : ByteArray) (v22p : Nat) : Option R105 := loopN (F105_9 n) m { tm := [uu, .c (.int .i64 letters1), uu, uu, uu, uu, uu, uu, uu, uu, uu, uu, uu, uu, uu, uu, uu, uu, uu, uu, uu, uu, .ptr 22 0, uu, uu, uu, uu, uu, uu, uu, uu], hp := (upd emp 22 (.iter v22s v22p)) }
theorem L105_1_eq (n : Nat × Nat) (m1 : Nat) (letters1 : Int) (v22s : ByteArray) (v22p : Nat) : L105_1 n (m1 + 1) letters1 v22s v22p =
 (bif Nat.blt v22p v22s.size then ((strBytes v22s)[v22p]?).bind fun x3' =>
 (bif decide (x3' < 128) then (bif decide (x3' ≥ wr .i32 (97 + (wr .i32 letters1))) then some 2
 else L105_1 n m1 letters1 v22s (v22p + 1))
 else none)
 else some 0) := by kernel_rfl
noncomputable def S105 (n : Nat × Nat) (word0 : ByteArray) (letters1 : Int) : Option R105 := run (E105 n) c105 an105 rt105 (fun _ _ => none) rt105 { tm := [.c (.str word0), .c (.int .i64 letters1), uu, uu, uu, uu, uu, uu, uu, uu, uu, uu, uu, uu, uu, uu, uu, uu, uu, uu, uu, uu, uu, uu, uu, uu, uu, uu, uu, uu, uu], hp := emp }
theorem S105_eq (n : Nat × Nat) (word0 : ByteArray) (letters1 : Int) : S105 n word0 letters1 =
 (S65 n word0).bind fun r1' =>
 (bif (r1' != 0) then some r1'
 else ((bif (decide (letters1 < 1) == false) then some (decide (letters1 > 6))
 else some true)).bind fun b2' =>
 (bif b2' then some 1
 else L105_1 n n.1 letters1 word0 0)) := by kernel_rfl
theorem S105_run (n : Nat × Nat) (xs : pksDen pk105) : S105 n xs.1 xs.2.1 = runG (E105 n) noScope c105 an105 (rtG rk105) (fun _ _ => none) (rtG rk105) (st0 pk105 xs Tryd.f105.ntmps) := by kernel_rfl
noncomputable def P105 (n : Nat × Nat) := phiOf pk105 rk105 (fun xs => S105 n xs.1 xs.2.1)
theorem call105 : CallOK Tryd.prog 105 := callOK_of Tryd.func105 (by kernel_rfl) (by kernel_rfl)
theorem env105 (n : Nat × Nat) : EnvOK Tryd.prog (E105 n) := envOK0 (consPhi_ok (FC65 n) call65 noPhi_ok) rfl rfl
theorem par105 (n : Nat × Nat) : EnvPar (E105 n) := envPar0 (consPhi_par phiOf_Par1 noPhi_par) rfl
theorem FC105 (n : Nat × Nat) : FCs Tryd.prog 105 (P105 n) := phiOf_FCs fun xs r h vs hv => FC.of_runG tabOK eqsOK (env105 n) (par105 n) mixed (fun _ p _ => noScope_ok p.1 p.2) Tryd.func105 (c := c105) (an := an105) (pks := pk105) (rks := rk105) (by kernel_rfl) (by kernel_rfl) hv ((S105_run n xs).symm.trans h)
abbrev R106 := List Int
noncomputable def c106 : Code := bodyOf Tryd.f106
noncomputable def an106 : Ann := (.s .l (.s .l (.s .l (.s (.s .l (.j [5] (.j [1, 5, 6, 11] (.s .l (.s (.j [1, 5, 6, 11, 12] .l .l) (.j [1, 5, 6, 11] (.s .l (.s .l (.s .l (.j [1, 5, 6, 11] .l .l)))) .l))) .l) .l)) .l))))
def pk106 : List PK := [.c .str, .c (.int .i64)]
def rk106 : List RK := [.own (.int .i64) 4]
noncomputable def rt106 (st : St) : Option R106 := rtG rk106 st
noncomputable def E106 (n : Nat × Nat) : Env := { T := tab, phi := noPhi, eff := fun _ => false, fuel := n.1, hold := n.2 }
noncomputable def kq106_1 (n : Nat × Nat) : St → Option R106 := run (E106 n) (cB (cB (cB (cB c106)))) (Ann.snd (Ann.snd (Ann.snd (Ann.snd an106)))) rt106 (fun _ _ => none) rt106
noncomputable def xb106_3 (n : Nat × Nat) : Nat → St → Option R106 := fun j s => bif Nat.beq j 0 then normC [5] s (kq106_1 n) else (fun _ _ => none) j s
noncomputable def F106_4 (n : Nat × Nat) : (St → Option R106) → St → Option R106 := fun K s => run (E106 n) (cA (cA (cB (cA (cB (cB (cB c106))))))) (Ann.fst (Ann.fst (Ann.snd (Ann.fst (Ann.snd (Ann.snd (Ann.snd an106))))))) (fun s => normC [1, 5, 6, 11] s K) (xb106_3 n) rt106 s
noncomputable def L106_1 (n : Nat × Nat) (m : Nat) (letters1 : Int) (out5 : List Int) (met6 : List (Int × Bool)) (v11s : ByteArray) (v11p : Nat) : Option R106 := loopN (F106_4 n) m { tm := [uu, .c (.int .i64 letters1), uu, uu, uu, .own 5 none false, .map 6, uu, uu, uu, uu, .ptr 11 0, uu, uu, uu, uu, uu, uu, uu, uu, uu, uu, uu, uu, uu, uu, uu, uu, uu], hp := (upd (upd (upd emp 11 (.iter v11s v11p)) 6 (.mp .i32 .bool met6)) 5 (.arr (.int .i64) out5 false)) }
theorem L106_1_eq (n : Nat × Nat) (m1 : Nat) (letters1 : Int) (out5 : List Int) (met6 : List (Int × Bool)) (v11s : ByteArray) (v11p : Nat) : L106_1 n (m1 + 1) letters1 out5 met6 v11s v11p =
 (bif Nat.blt v11p v11s.size then ((strBytes v11s)[v11p]?).bind fun x1' =>
 (bif decide (x1' < 128) then (bif (((aset met6 x1' true).length : Int) == letters1) then (bif decide (out5.length + [wr .i64 ((v11p : Int) + 1)].length ≤ lim) then L106_1 n m1 letters1 (out5 ++ [wr .i64 ((v11p : Int) + 1)]) [] v11s (v11p + 1)
 else none)
 else L106_1 n m1 letters1 out5 (aset met6 x1' true) v11s (v11p + 1))
 else none)
 else some out5) := by kernel_rfl
noncomputable def S106 (n : Nat × Nat) (word0 : ByteArray) (letters1 : Int) : Option R106 := run (E106 n) c106 an106 rt106 (fun _ _ => none) rt106 { tm := [.c (.str word0), .c (.int .i64 letters1), uu, uu, uu, uu, uu, uu, uu, uu, uu, uu, uu, uu, uu, uu, uu, uu, uu, uu, uu, uu, uu, uu, uu, uu, uu, uu, uu], hp := emp }
theorem S106_eq (n : Nat × Nat) (word0 : ByteArray) (letters1 : Int) : S106 n word0 letters1 =
    L106_1 n n.1 letters1 [] [] word0 0 := by kernel_rfl
theorem S106_run (n : Nat × Nat) (xs : pksDen pk106) : S106 n xs.1 xs.2.1 = runG (E106 n) noScope c106 an106 (rtG rk106) (fun _ _ => none) (rtG rk106) (st0 pk106 xs Tryd.f106.ntmps) := by kernel_rfl
noncomputable def P106 (n : Nat × Nat) := phiOf pk106 rk106 (fun xs => S106 n xs.1 xs.2.1)
theorem call106 : CallOK Tryd.prog 106 := callOK_of Tryd.func106 (by kernel_rfl) (by kernel_rfl)
theorem env106 (n : Nat × Nat) : EnvOK Tryd.prog (E106 n) := envOK0 noPhi_ok rfl rfl
theorem par106 (n : Nat × Nat) : EnvPar (E106 n) := envPar0 noPhi_par rfl
theorem FC106 (n : Nat × Nat) : FCs Tryd.prog 106 (P106 n) := phiOf_FCs fun xs r h vs hv => FC.of_runG tabOK eqsOK (env106 n) (par106 n) mixed (fun _ p _ => noScope_ok p.1 p.2) Tryd.func106 (c := c106) (an := an106) (pks := pk106) (rks := rk106) (by kernel_rfl) (by kernel_rfl) hv ((S106_run n xs).symm.trans h)
/- slices.Index[[]byte,byte] -/
abbrev R107 := Int
noncomputable def c107 : Code := bodyOf Tryd.f107
noncomputable def an107 : Ann := (.s .l (.s (.s .l (.j [] (.j [0, 1, 7, 8] (.s .l (.s (.j [0, 1, 7, 8] .l .l) (.s (.j [0, 1, 7, 8] (.s .l (.s .l (.j [0, 1, 7, 8] .l .l))) .l) .l))) .l) .l)) .l))
def pk107 : List PK := [.c (.sl (.int .u8)), .c (.int .u8)]
def rk107 : List RK := [.c (.int .i64) 4]
noncomputable def rt107 (st : St) : Option R107 := rtG rk107 st
noncomputable def E107 (n : Nat × Nat) : Env := { T := tab, phi := noPhi, eff := fun _ => false, fuel := n.1, hold := n.2 }
noncomputable def kq107_1 (n : Nat × Nat) : St → Option R107 := run (E107 n) (cB (cB c107)) (Ann.snd (Ann.snd an107)) rt107 (fun _ _ => none) rt107
noncomputable def xb107_3 (n : Nat × Nat) : Nat → St → Option R107 := fun j s => bif Nat.beq j 0 then normC [] s (kq107_1 n) else (fun _ _ => none) j s
noncomputable def F107_4 (n : Nat × Nat) : (St → Option R107) → St → Option R107 := fun K s => run (E107 n) (cA (cA (cB (cA (cB c107))))) (Ann.fst (Ann.fst (Ann.snd (Ann.fst (Ann.snd an107))))) (fun s => normC [0, 1, 7, 8] s K) (xb107_3 n) rt107 s
noncomputable def L107_1 (n : Nat × Nat) (m : Nat) (s0 : List Int) (v1 : Int) (v7 : Int) (v8 : Int) : Option R107 := loopN (F107_4 n) m { tm := [.c (.sl (.int .u8) s0 false), .c (.int .u8 v1), uu, uu, uu, uu, uu, .c (.int .i64 v7), .c (.int .i64 v8), uu, uu, uu, uu, uu, uu, uu, uu, uu, uu], hp := emp }
theorem L107_1_eq (n : Nat × Nat) (m1 : Nat) (s0 : List Int) (v1 : Int) (v7 : Int) (v8 : Int) : L107_1 n (m1 + 1) s0 v1 v7 v8 =
 (bif decide (v8 < v7) then (idx s0 v8).bind fun x1' =>
 (bif (v1 == x1') then some v8
 else L107_1 n m1 s0 v1 v7 (wr .i64 (v8 + 1)))
 else some (-1)) := by kernel_rfl
noncomputable def S107 (n : Nat × Nat) (s0 : List Int) (v1 : Int) : Option R107 := run (E107 n) c107 an107 rt107 (fun _ _ => none) rt107 { tm := [.c (.sl (.int .u8) s0 false), .c (.int .u8 v1), uu, uu, uu, uu, uu, uu, uu, uu, uu, uu, uu, uu, uu, uu, uu, uu, uu], hp := emp }
theorem S107_eq (n : Nat × Nat) (s0 : List Int) (v1 : Int) : S107 n s0 v1 =
    L107_1 n n.1 s0 v1 (s0.length : Int) 0 := by kernel_rfl
theorem S107_run (n : Nat × Nat) (xs : pksDen pk107) : S107 n xs.1 xs.2.1 = runG (E107 n) noScope c107 an107 (rtG rk107) (fun _ _ => none) (rtG rk107) (st0 pk107 xs Tryd.f107.ntmps) := by kernel_rfl
noncomputable def P107 (n : Nat × Nat) := phiOf pk107 rk107 (fun xs => S107 n xs.1 xs.2.1)
theorem call107 : CallOK Tryd.prog 107 := callOK_of Tryd.func107 (by kernel_rfl) (by kernel_rfl)
theorem env107 (n : Nat × Nat) : EnvOK Tryd.prog (E107 n) := envOK0 noPhi_ok rfl rfl
theorem par107 (n : Nat × Nat) : EnvPar (E107 n) := envPar0 noPhi_par rfl
theorem FC107 (n : Nat × Nat) : FCs Tryd.prog 107 (P107 n) := phiOf_FCs fun xs r h vs hv => FC.of_runG tabOK eqsOK (env107 n) (par107 n) mixed (fun _ p _ => noScope_ok p.1 p.2) Tryd.func107 (c := c107) (an := an107) (pks := pk107) (rks := rk107) (by kernel_rfl) (by kernel_rfl) hv ((S107_run n xs).symm.trans h)
end Go.Proofs.YtkfkbebinhkdlaaDoor
