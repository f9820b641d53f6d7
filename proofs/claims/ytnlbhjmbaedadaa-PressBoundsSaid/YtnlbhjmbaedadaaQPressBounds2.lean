/- Texts of this claim, joined: Pd to Pi. -/
import Derived.KernelRfl
import Derived.Test.YtnlbhjmbaedadaaProg
import Derived.WalkKit
import Derived.Test.YtnlbhjmbaedadaaQPressBounds1
/-
  Sheets: sums of places, the time, idle hours, the first place: both sides.
-/
set_option linter.unusedVariables false
set_option linter.unusedSimpArgs false
namespace Go.Proofs.Ytnlbhjmbaedadaa
open Go.Vi

/-- What sheets need on the first and on the second machine, together. -/
def s1 : List (Int × Int) → Int
  | [] => 0
  | s :: l => s.1 + s1 l
def s2 : List (Int × Int) → Int
  | [] => 0
  | s :: l => s.2 + s2 l
theorem s1_map : ∀ l : List (Int × Int), (l.map (hr 0)).sum = s1 l
  | [] => rfl
  | s :: l => by simp only [List.map_cons, List.sum_cons, s1_map l, s1]; rfl
theorem s2_map : ∀ l : List (Int × Int), (l.map (hr 1)).sum = s2 l
  | [] => rfl
  | s :: l => by simp only [List.map_cons, List.sum_cons, s2_map l, s2]; rfl
theorem s1_append : ∀ l m : List (Int × Int), s1 (l ++ m) = s1 l + s1 m
  | [], m => by simp [s1]
  | s :: l, m => by simp only [List.cons_append, s1, s1_append l m]; omega
theorem s2_append : ∀ l m : List (Int × Int), s2 (l ++ m) = s2 l + s2 m
  | [], m => by simp [s2]
  | s :: l, m => by simp only [List.cons_append, s2, s2_append l m]; omega
theorem s1_bnd : ∀ {l : List (Int × Int)}, (∀ s ∈ l, Ok s) → 0 ≤ s1 l ∧ s1 l ≤ 50 * l.length
  | [], _ => by simp [s1]
  | s :: l, h => by
    have := s1_bnd (l := l) (fun s hs => h s (by simp [hs]))
    have ho := h s (by simp)
    unfold Ok at ho
    simp only [s1, List.length_cons]
    omega
theorem s2_bnd : ∀ {l : List (Int × Int)}, (∀ s ∈ l, Ok s) → 0 ≤ s2 l ∧ s2 l ≤ 50 * l.length
  | [], _ => by simp [s2]
  | s :: l, h => by
    have := s2_bnd (l := l) (fun s hs => h s (by simp [hs]))
    have ho := h s (by simp)
    unfold Ok at ho
    simp only [s2, List.length_cons]
    omega
theorem s2_perm {l m : List (Int × Int)} (h : l.Perm m) : s2 l = s2 m := by
  rw [← s2_map, ← s2_map]
  exact sum_perm (h.map _)
theorem s1_perm {l m : List (Int × Int)} (h : l.Perm m) : s1 l = s1 m := by
  rw [← s1_map, ← s1_map]
  exact sum_perm (h.map _)

/-- The sums of the places: up to a place on the first machine, from it on on the second one. -/
def sms : Int → List (Int × Int) → List Int
  | _, [] => []
  | a, s :: l => (a + s.1 + s.2 + s2 l) :: sms (a + s.1) l
/-- The time of sheets in their order. -/
def tm : Int → Int → List (Int × Int) → Int
  | _, b, [] => b
  | a, b, s :: l => tm (a + s.1) (max (a + s.1) b + s.2) l
theorem sms_len : ∀ (l : List (Int × Int)) (a : Int), (sms a l).length = l.length
  | [], _ => rfl
  | s :: l, a => by simp only [sms, List.length_cons, sms_len l]
theorem tm_sms : ∀ (l : List (Int × Int)) (a b : Int), tm a b l = (sms a l).foldl max (b + s2 l)
  | [], a, b => by simp [tm, sms, s2]
  | s :: l, a, b => by
    simp only [tm, sms, s2, List.foldl_cons]
    rw [tm_sms l]
    congr 1
    omega
theorem tm_cons {s : Int × Int} {l : List (Int × Int)} (hs : 0 ≤ s.1) : tm 0 0 (s :: l) = (sms s.1 l).foldl max (s.1 + s.2 + s2 l) := by
  rw [tm_sms]
  simp only [sms, s2, List.foldl_cons, Int.zero_add]
  congr 1
  omega
theorem tm_enp : ∀ (l : List (Int × Int)) (a b : Int), tm a b l = (enp a b l).getLastD b
  | [], a, b => rfl
  | s :: l, a, b => by
    simp only [tm, enp, List.getLastD_cons]
    exact tm_enp l _ _
theorem sms_get : ∀ {l : List (Int × Int)} {a : Int} {k : Nat} (h : k < l.length), (sms a l)[k]'(by rw [sms_len]; exact h) = a + s1 (l.take (k + 1)) + s2 (l.drop k)
  | [], a, k, h => by simp at h
  | s :: l, a, 0, h => by simp [sms, s1, s2]; omega
  | s :: l, a, k + 1, h => by
    simp only [sms, List.getElem_cons_succ, List.take_succ_cons, List.drop_succ_cons, s1]
    rw [sms_get (by simp at h; omega)]
    omega

theorem sums_loop (n : Nat × Nat) (hn : 1000 ≤ n.1) (l : List (Int × Int)) (hs : l.length < 100) (hb : ∀ s ∈ l, Ok s) : ∀ (m k : Nat), k ≤ l.length → l.length - k < m →
    DL66_1 n m l (l.length : Int) (k : Int) ((sms 0 l).take k) = some (sms 0 l)
  | 0, k, _, h => by omega
  | m + 1, k, hk, h => by
    rw [DL66_1_succ]
    unfold DF66_1
    by_cases hlt : k < l.length
    · have ih := sums_loop n hn l hs hb m (k + 1) (by omega) (by omega)
      have b1 : bounds none (some (((k + 1 : Nat) : Int))) none l.length = true := by simp [bounds]; omega
      have b2 : bounds (some (k : Int)) none none l.length = true := by simp [bounds]; omega
      have hok : ∀ (mc : Int) (x : Int × Int), Ok x → 0 ≤ hr mc x ∧ hr mc x ≤ 1000 := by
        intro mc x h
        unfold Ok at h
        unfold hr
        split <;> omega
      have t1 : D63 n ((l.take (k + 1)).map (hr 0)) = some (s1 (l.take (k + 1))) := by
        rw [total_eq hn (by simp; omega) (fun x hx => ?_), s1_map]
        obtain ⟨y, hy, e⟩ := List.mem_map.1 hx
        rw [← e]
        exact hok 0 y (hb y (List.mem_of_mem_take hy))
      have t2 : D63 n ((l.drop k).map (hr 1)) = some (s2 (l.drop k)) := by
        rw [total_eq hn (by simp; omega) (fun x hx => ?_), s2_map]
        obtain ⟨y, hy, e⟩ := List.mem_map.1 hx
        rw [← e]
        exact hok 1 y (hb y (List.mem_of_mem_drop hy))
      have c1 := s1_bnd (l := l.take (k + 1)) (fun s h => hb s (List.mem_of_mem_take h))
      have c2 := s2_bnd (l := l.drop k) (fun s h => hb s (List.mem_of_mem_drop h))
      rw [List.length_take] at c1
      rw [List.length_drop] at c2
      rw [dlt_t hlt, cond_true, wr_succ (by omega), b1, b2, Int.toNat_natCast, Int.toNat_natCast, cond_true, all_eq hn (.inl rfl) (by simp; omega), Option.bind_some, t1, Option.bind_some, cond_true, all_eq hn (.inr rfl) (by simp; omega), Option.bind_some, t2, Option.bind_some,
        lim_dec (by simp [sms_len]; omega), cond_true, wr_ok (by omega) (by omega), ← ih, take_snoc (l := sms 0 l) (by rw [sms_len]; exact hlt), sms_get hlt, Int.zero_add]
    · rw [dlt_f hlt, cond_false, List.take_of_length_le (by rw [sms_len]; omega)]
theorem sums_eq {n : Nat × Nat} (hn : 1000 ≤ n.1) {l : List (Int × Int)} (hs : l.length < 100) (hb : ∀ s ∈ l, Ok s) : D66 n l = some (sms 0 l) := by
  unfold D66
  exact sums_loop n hn l hs hb n.1 0 (by omega) (by omega)
theorem time_eq {n : Nat × Nat} (hn : 1000 ≤ n.1) {l : List (Int × Int)} (h0 : 0 < l.length) (hs : l.length < 100) (hb : ∀ s ∈ l, Ok s) : D61 n l = some (tm 0 0 l) := by
  unfold D61
  rw [sums_eq hn hs hb, Option.bind_some]
  match l, h0 with
  | s :: l, _ =>
    have ho := hb s (by simp)
    unfold Ok at ho
    rw [tm_cons ho.1]
    simp only [sms, Int.zero_add]
    rw [show inB 0 ((s.1 + s.2 + s2 l) :: sms s.1 l).length = true from inB_nat (k := 0) (by simp), cond_true]
    rw [show idx ((s.1 + s.2 + s2 l) :: sms s.1 l) 0 = some (s.1 + s.2 + s2 l) from rfl, Option.bind_some]
    rw [show bounds (some 1) none none ((s.1 + s.2 + s2 l) :: sms s.1 l).length = true by simp [bounds]; omega, cond_true]
    simp only [Int.toNat_one, Nat.zero_add, List.drop_succ_cons, List.drop_zero, List.length_cons, Nat.add_sub_cancel]
    rw [List.take_of_length_le (Nat.le_refl _), great_eq hn (by rw [sms_len]; simp at hs; omega)]
    rfl
theorem rtime_eq {n : Nat × Nat} (hn : 1000 ≤ n.1) {o : List Int} {l : List (Int × Int)} (hg : Good l) (ho : Ord l.length o) : D62 n l o = some (tm 0 0 (pk l o)) := by
  unfold D62
  rw [rends_eq hn hg ho, Option.bind_some, tm_enp]
  have hlen : ∀ (l : List (Int × Int)) (a b : Int), (enp a b l).length = l.length := by
    intro l
    induction l with
    | nil => intro a b; rfl
    | cons s l ih => intro a b; simp only [enp, List.length_cons, ih]
  have h1 := hlen (pk l o) 0 0
  rw [pk_len, ho.len] at h1
  have hp := hg.pos
  have h7 := hg.len
  generalize enp 0 0 (pk l o) = q at h1 ⊢
  simp only []
  rw [wr_ok (by omega) (by omega), show ((q.length : Int) - 1) = ((q.length - 1 : Nat) : Int) by omega, inB_nat (by omega), cond_true, idx_nat (by omega), Option.bind_some]
  congr 1
  have : q ≠ [] := by intro e; rw [e] at h1; simp at h1; omega
  rw [List.getLastD_eq_getLast?, List.getLast?_eq_getElem?, List.getElem?_eq_getElem (by omega), Option.getD_some]

def timeS (l : List (Int × Int)) (o : List Int) : Int × Int := if (put l o).2 ≠ 0 then (0, (put l o).2) else (tm 0 0 (pk l o), 0)
theorem ord_pk {l : List (Int × Int)} {o : List Int} (hg : Good l) (ho : Ord l.length o) : 0 < (pk l o).length ∧ (pk l o).length < 100 := by
  rw [pk_len, ho.len]
  have := hg.pos
  have := hg.len
  omega
theorem Time_eq {n : Nat × Nat} (hn : 1000 ≤ n.1) {o : List Int} (hs : o.length < 800) (l : List (Int × Int)) : D19 n l o = some (timeS l o) := by
  unfold D19 timeS
  rw [put_eq hn hs, Option.bind_some]
  by_cases h : (put l o).2 = 0
  · obtain ⟨hg, ho⟩ := put_zero.1 h
    rw [show ((put l o).2 != 0) = false by simp [h], cond_false, if_neg (by simpa using h), put_ord hg ho, time_eq hn (ord_pk hg ho).1 (ord_pk hg ho).2 (pk_ok hg ho)]
    rfl
  · rw [show ((put l o).2 != 0) = true by simpa using h, cond_true, if_pos h]
theorem rTime_eq {n : Nat × Nat} (hn : 1000 ≤ n.1) {o : List Int} (hs : o.length < 800) (l : List (Int × Int)) : D20 n l o = some (timeS l o) := by
  unfold D20 timeS
  rw [ordered_eq hn hs, Option.bind_some]
  by_cases h : (put l o).2 = 0
  · obtain ⟨hg, ho⟩ := put_zero.1 h
    rw [show ((put l o).2 != 0) = false by simp [h], cond_false, if_neg (by simpa using h), rtime_eq hn hg ho]
    rfl
  · rw [show ((put l o).2 != 0) = true by simpa using h, cond_true, if_pos h]

theorem foldl_max_mem : ∀ (l : List Int) (a : Int), l.foldl max a = a ∨ l.foldl max a ∈ l
  | [], a => .inl rfl
  | x :: l, a => by
    rw [List.foldl_cons]
    rcases foldl_max_mem l (max a x) with h | h
    · by_cases e : a ≤ x
      · rw [h, Int.max_eq_right e]; exact .inr (by simp)
      · rw [h, Int.max_eq_left (by omega)]; exact .inl rfl
    · exact .inr (List.mem_cons_of_mem _ h)
theorem foldl_max_ge : ∀ (l : List Int) (a : Int), a ≤ l.foldl max a ∧ ∀ x ∈ l, x ≤ l.foldl max a
  | [], a => ⟨Int.le_refl _, fun x h => by simp at h⟩
  | y :: l, a => by
    rw [List.foldl_cons]
    obtain ⟨h1, h2⟩ := foldl_max_ge l (max a y)
    refine ⟨by omega, fun x hx => ?_⟩
    rcases List.mem_cons.1 hx with e | hx
    · subst e; omega
    · exact h2 x hx
/-- The time is one of the sums, and none is greater. -/
theorem tm_mem {l : List (Int × Int)} (h0 : 0 < l.length) (hb : ∀ s ∈ l, Ok s) : tm 0 0 l ∈ sms 0 l := by
  match l, h0 with
  | s :: l, _ =>
    have ho := hb s (by simp)
    unfold Ok at ho
    rw [tm_cons ho.1]
    simp only [sms, Int.zero_add]
    rcases foldl_max_mem (sms s.1 l) (s.1 + s.2 + s2 l) with h | h
    · rw [h]; simp
    · exact List.mem_cons_of_mem _ h
theorem tm_ge {l : List (Int × Int)} (hb : ∀ s ∈ l, Ok s) {x : Int} (hx : x ∈ sms 0 l) : x ≤ tm 0 0 l := by
  rw [tm_sms]
  exact (foldl_max_ge _ _).2 x hx
theorem tm_bnd {l : List (Int × Int)} (hb : ∀ s ∈ l, Ok s) : 0 ≤ tm 0 0 l ∧ tm 0 0 l ≤ 100 * l.length := by
  by_cases h0 : 0 < l.length
  · obtain ⟨k, hk, e⟩ := List.getElem_of_mem (tm_mem h0 hb)
    rw [sms_len] at hk
    rw [sms_get hk] at e
    have c1 := s1_bnd (l := l.take (k + 1)) (fun s h => hb s (List.mem_of_mem_take h))
    have c2 := s2_bnd (l := l.drop k) (fun s h => hb s (List.mem_of_mem_drop h))
    rw [List.length_take] at c1
    rw [List.length_drop] at c2
    omega
  · rw [List.length_eq_zero_iff.1 (by omega : l.length = 0)]
    simp [tm]

def idleS (l : List (Int × Int)) (o : List Int) : Int × Int := if (put l o).2 ≠ 0 then (0, (put l o).2) else (tm 0 0 (pk l o) - s2 l, 0)
theorem Idle_eq {n : Nat × Nat} (hn : 1000 ≤ n.1) {o : List Int} (hs : o.length < 800) (l : List (Int × Int)) : D21 n l o = some (idleS l o) := by
  unfold D21 idleS
  rw [put_eq hn hs, Option.bind_some]
  by_cases h : (put l o).2 = 0
  · obtain ⟨hg, ho⟩ := put_zero.1 h
    have hp := ord_pk hg ho
    have hok := pk_ok hg ho
    rw [show ((put l o).2 != 0) = false by simp [h], cond_false, if_neg (by simpa using h), put_ord hg ho, time_eq hn hp.1 hp.2 hok, Option.bind_some]
    simp only []
    rw [all_eq hn (.inr rfl) (by omega), Option.bind_some, total_eq hn (by simp; omega) (fun x hx => ?_), s2_map, Option.bind_some, s2_perm (pk_perm ho)]
    · have b1 := tm_bnd hok
      have b2 := s2_bnd hg.ok
      have := hg.len
      rw [wr_ok (by omega) (by omega)]
    · obtain ⟨y, hy, e⟩ := List.mem_map.1 hx
      have := hok y hy
      unfold Ok at this
      rw [← e]
      simp only [hr]
      split <;> omega
  · rw [show ((put l o).2 != 0) = true by simpa using h, cond_true, if_pos h]
theorem ridle_loop (n : Nat × Nat) (l : List (Int × Int)) (hs : l.length < 100) (hb : ∀ s ∈ l, Ok s) : ∀ (m k : Nat) (v : Int), k ≤ l.length → l.length - k < m → -10000 + 50 * (l.length - k) ≤ v → v ≤ 100000 →
    DL22_1 n m l v (k : Int) = some (v - s2 (l.drop k), 0)
  | 0, k, v, _, h, _, _ => by omega
  | m + 1, k, v, hk, h, v0, v1 => by
    rw [DL22_1_succ]
    unfold DF22_1
    by_cases hlt : k < l.length
    · have ho := hb _ (List.getElem_mem hlt)
      unfold Ok at ho
      have ih := ridle_loop n l hs hb m (k + 1) (v - l[k].2) (by omega) (by omega) (by omega) (by omega)
      rw [dlt_t hlt, cond_true, idx_nat hlt, wr_succ (by omega), Option.bind_some, wr_ok (by omega) (by omega), ih, drop_cons hlt]
      simp only [s2]
      congr 2
      omega
    · rw [dlt_f hlt, cond_false, List.drop_of_length_le (by omega)]
      simp [s2]
theorem rIdle_eq {n : Nat × Nat} (hn : 1000 ≤ n.1) {o : List Int} (hs : o.length < 800) (l : List (Int × Int)) : D22 n l o = some (idleS l o) := by
  unfold D22 idleS
  rw [ordered_eq hn hs, Option.bind_some]
  by_cases h : (put l o).2 = 0
  · obtain ⟨hg, ho⟩ := put_zero.1 h
    have hp := ord_pk hg ho
    have b1 := tm_bnd (pk_ok hg ho)
    have := hg.len
    rw [show ((put l o).2 != 0) = false by simp [h], cond_false, if_neg (by simpa using h), rtime_eq hn hg ho, Option.bind_some]
    have := ridle_loop n l (by omega) hg.ok n.1 0 (tm 0 0 (pk l o)) (by omega) (by omega) (by omega) (by omega)
    simpa using this
  · rw [show ((put l o).2 != 0) = true by simpa using h, cond_true, if_pos h]

theorem fdo_bnd {v : Int} : ∀ {l : List Int} {k : Int}, v ∈ l → 0 ≤ k → k ≤ fdo v k l ∧ fdo v k l < k + l.length
  | [], k, h, _ => by simp at h
  | x :: l, k, h, h0 => by
    unfold fdo
    by_cases e : v = x
    · rw [if_pos e, List.length_cons]; omega
    · rw [if_neg e, List.length_cons]
      have := fdo_bnd (v := v) (l := l) (k := k + 1) (by simpa [e] using h) (by omega)
      omega
def lastS (l : List (Int × Int)) (o : List Int) : Int × Int := if (put l o).2 ≠ 0 then (0, (put l o).2) else (fdo (tm 0 0 (pk l o)) 0 (sms 0 (pk l o)), 0)
theorem Last_eq {n : Nat × Nat} (hn : 1000 ≤ n.1) {o : List Int} (hs : o.length < 800) (l : List (Int × Int)) : D23 n l o = some (lastS l o) := by
  unfold D23 lastS
  rw [put_eq hn hs, Option.bind_some]
  by_cases h : (put l o).2 = 0
  · obtain ⟨hg, ho⟩ := put_zero.1 h
    have hp := ord_pk hg ho
    have hok := pk_ok hg ho
    rw [show ((put l o).2 != 0) = false by simp [h], cond_false, if_neg (by simpa using h), put_ord hg ho]
    simp only []
    rw [sums_eq hn hp.2 hok, time_eq hn hp.1 hp.2 hok]
    simp only [Option.bind_some]
    rw [index_eq hn (by rw [sms_len]; omega), Option.bind_some]
  · rw [show ((put l o).2 != 0) = true by simpa using h, cond_true, if_pos h]

theorem sum_loop (n : Nat × Nat) (l : List (Int × Int)) (o : List Int) (hs : o.length < 100) (ho : Ord l.length o) (hb : ∀ s ∈ pk l o, Ok s) (p : Nat) (hp : p < o.length) : ∀ (m k : Nat) (v : Int), k ≤ o.length → o.length - k < m → 0 ≤ v → v ≤ 100 * k →
    DL67_1 n m l o (p : Int) v (k : Int) = some (v + s1 (((pk l o).take (p + 1)).drop k) + s2 ((pk l o).drop (max k p)))
  | 0, k, v, _, h, _, _ => by omega
  | m + 1, k, v, hk, h, v0, v1 => by
    rw [DL67_1_succ]
    unfold DF67_1
    have hj2 : ∀ w : Int, DL67_2 n (DL67_1 n m) l o (p : Int) w (k : Int) = DL67_1 n m l o (p : Int) w (wr .i64 ((k : Int) + 1)) := fun w => rfl
    by_cases hlt : k < o.length
    · have hlt' : k < (pk l o).length := by rw [pk_len]; exact hlt
      have hok := hb _ (List.getElem_mem hlt')
      unfold Ok at hok
      have ih := fun v => sum_loop n l o hs ho hb p hp m (k + 1) v (by omega) (by omega)
      rw [dlt_t hlt, cond_true, idx_nat hlt]
      simp only [Option.bind_some, pk_idx ho hlt, hj2, wr_succ (show k < 1000000 by omega)]
      by_cases h1 : k ≤ p
      · have d1 : ((pk l o).take (p + 1)).drop k = (pk l o)[k] :: ((pk l o).take (p + 1)).drop (k + 1) := by
          rw [drop_cons (l := (pk l o).take (p + 1)) (k := k) (by rw [List.length_take]; omega), List.getElem_take]
        rw [decide_eq_true (show (k : Int) ≤ p by omega), cond_true, d1]
        by_cases h2 : p ≤ k
        · have e : k = p := by omega
          rw [decide_eq_true (show (k : Int) ≥ p by omega), cond_true, wr_ok (x := v + (pk l o)[k].1) (by omega) (by omega), wr_ok (by omega) (by omega), ih _ (by omega) (by omega), show max k p = k by omega, show max (k + 1) p = k + 1 by omega, drop_cons hlt']
          simp only [s1, s2]
          congr 1
          omega
        · rw [decide_eq_false (show ¬ (k : Int) ≥ p by omega), cond_false, wr_ok (x := v + (pk l o)[k].1) (by omega) (by omega), ih _ (by omega) (by omega), show max k p = p by omega, show max (k + 1) p = p by omega]
          simp only [s1]
          congr 1
          omega
      · rw [decide_eq_false (show ¬ (k : Int) ≤ p by omega), cond_false, decide_eq_true (show (k : Int) ≥ p by omega), cond_true, wr_ok (by omega) (by omega), ih _ (by omega) (by omega), show max k p = k by omega, show max (k + 1) p = k + 1 by omega, drop_cons hlt',
          List.drop_of_length_le (l := (pk l o).take (p + 1)) (i := k) (by rw [List.length_take]; omega), List.drop_of_length_le (l := (pk l o).take (p + 1)) (i := k + 1) (by rw [List.length_take]; omega)]
        simp only [s1, s2]
        congr 1
        omega
    · rw [dlt_f hlt, cond_false, List.drop_of_length_le (by rw [List.length_take]; omega), List.drop_of_length_le (by rw [pk_len]; omega)]
      simp [s1, s2]
theorem sum_eq {n : Nat × Nat} (hn : 1000 ≤ n.1) {o : List Int} {l : List (Int × Int)} (hg : Good l) (ho : Ord l.length o) {p : Nat} (hp : p < o.length) : D67 n l o (p : Int) = some ((sms 0 (pk l o))[p]'(by rw [sms_len, pk_len]; exact hp)) := by
  have hl := ho.len
  have h7 := hg.len
  unfold D67
  have := sum_loop n l o (by omega) ho (pk_ok hg ho) p hp n.1 0 0 (by omega) (by omega) (by omega) (by omega)
  rw [sms_get (by rw [pk_len]; exact hp)]
  simpa using this
theorem rlast_loop (n : Nat × Nat) (hn : 1000 ≤ n.1) (l : List (Int × Int)) (o : List Int) (hg : Good l) (ho : Ord l.length o) : ∀ (m k : Nat), k ≤ o.length → o.length - k < m → tm 0 0 (pk l o) ∈ (sms 0 (pk l o)).drop k →
    DL24_1 n m l o (k : Int) = some (fdo (tm 0 0 (pk l o)) k ((sms 0 (pk l o)).drop k), 0)
  | 0, k, _, h, _ => by omega
  | m + 1, k, hk, h, hm => by
    have hl := ho.len
    have h7 := hg.len
    rw [DL24_1_succ]
    unfold DF24_1
    by_cases hlt : k < o.length
    · have hlt' : k < (sms 0 (pk l o)).length := by rw [sms_len, pk_len]; exact hlt
      have ih := rlast_loop n hn l o hg ho m (k + 1) (by omega) (by omega)
      rw [sum_eq hn hg ho hlt, rtime_eq hn hg ho, drop_cons hlt']
      rw [drop_cons hlt'] at hm
      simp only [Option.bind_some, fdo]
      generalize tm 0 0 (pk l o) = t at *
      by_cases e : t = (sms 0 (pk l o))[k]
      · rw [if_pos e, show ((sms 0 (pk l o))[k] != t) = false by simp [e], cond_false]
      · rw [if_neg e, show ((sms 0 (pk l o))[k] != t) = true by simpa using Ne.symm e, cond_true, wr_succ (by omega), ih ((List.mem_cons.1 hm).resolve_left e)]
        rfl
    · rw [List.drop_of_length_le (by rw [sms_len, pk_len]; omega)] at hm
      simp at hm
theorem rLast_eq {n : Nat × Nat} (hn : 1000 ≤ n.1) {o : List Int} (hs : o.length < 800) (l : List (Int × Int)) : D24 n l o = some (lastS l o) := by
  unfold D24 lastS
  rw [ordered_eq hn hs, Option.bind_some]
  by_cases h : (put l o).2 = 0
  · obtain ⟨hg, ho⟩ := put_zero.1 h
    have hp := ord_pk hg ho
    rw [show ((put l o).2 != 0) = false by simp [h], cond_false, if_neg (by simpa using h)]
    have := rlast_loop n hn l o hg ho n.1 0 (by omega) (by omega) (by simpa using tm_mem hp.1 (pk_ok hg ho))
    simpa using this
  · rw [show ((put l o).2 != 0) = true by simpa using h, cond_true, if_pos h]
end Go.Proofs.Ytnlbhjmbaedadaa
/-
  Sheets: bounds, and the rule's order: no bound is greater than the time of any order, and one is the time of the rule's.
-/
set_option linter.unusedVariables false
set_option linter.unusedSimpArgs false
namespace Go.Proofs.Ytnlbhjmbaedadaa
open Go.Vi

/-- What a sheet adds to the bound of a machine and hours. -/
def ct (m : Int) (h : Int) (s : Int × Int) : Int := if hr m s < h then min s.1 s.2 else hr (1 - m) s
def cs (m : Int) (h : Int) : List (Int × Int) → Int
  | [] => 0
  | s :: l => ct m h s + cs m h l
def bnd (l : List (Int × Int)) (m : Int) (h : Int) : Int := h + cs m h l
theorem cs_append (m h : Int) : ∀ l k : List (Int × Int), cs m h (l ++ k) = cs m h l + cs m h k
  | [], k => by simp [cs]
  | s :: l, k => by simp only [List.cons_append, cs, cs_append m h l k]; omega
theorem cs_map (m h : Int) : ∀ l : List (Int × Int), (l.map (ct m h)).sum = cs m h l
  | [] => rfl
  | s :: l => by simp only [List.map_cons, List.sum_cons, cs_map m h l, cs]
theorem cs_perm {m h : Int} {l k : List (Int × Int)} (hp : l.Perm k) : cs m h l = cs m h k := by
  rw [← cs_map, ← cs_map]
  exact sum_perm (hp.map _)
theorem hr0 (s : Int × Int) : hr 0 s = s.1 := rfl
theorem hr1 (s : Int × Int) : hr 1 s = s.2 := rfl
theorem ct0 (h : Int) (s : Int × Int) : ct 0 h s = if s.1 < h then min s.1 s.2 else s.2 := rfl
theorem ct1 (h : Int) (s : Int × Int) : ct 1 h s = if s.2 < h then min s.1 s.2 else s.1 := rfl
theorem cs0_le (h : Int) : ∀ l : List (Int × Int), cs 0 h l ≤ s2 l
  | [] => by simp [cs, s2]
  | s :: l => by
    have := cs0_le h l
    simp only [cs, s2, ct0]
    split <;> omega
theorem cs1_le (h : Int) : ∀ l : List (Int × Int), (∀ s ∈ l, s.2 < h) → cs 1 h l ≤ s2 l
  | [], _ => by simp [cs, s2]
  | s :: l, hl => by
    have := cs1_le h l (fun s hs => hl s (by simp [hs]))
    have := hl s (by simp)
    simp only [cs, s2, ct1]
    split <;> omega
theorem tm_low (a b : Int) (l : List (Int × Int)) : b + s2 l ≤ tm a b l := by
  rw [tm_sms]
  exact (foldl_max_ge _ _).1
theorem weak0 {h : Int} : ∀ (l : List (Int × Int)) (a b : Int), (∃ s ∈ l, h ≤ s.1) → a + h + cs 0 h l ≤ tm a b l
  | [], a, b, hx => by obtain ⟨s, hs, _⟩ := hx; simp at hs
  | s :: l, a, b, hx => by
    simp only [tm, cs, ct0]
    by_cases e : s.1 < h
    · rw [if_pos e]
      have := weak0 (h := h) l (a + s.1) (max (a + s.1) b + s.2) (by
        obtain ⟨t, ht, hh⟩ := hx
        rcases List.mem_cons.1 ht with e' | ht
        · subst e'; omega
        · exact ⟨t, ht, hh⟩)
      omega
    · rw [if_neg e]
      have := tm_low (a + s.1) (max (a + s.1) b + s.2) l
      have := cs0_le h l
      omega
theorem weak1 {h : Int} : ∀ (l : List (Int × Int)) (a b : Int), (∃ s ∈ l, h ≤ s.2) → a + h + cs 1 h l ≤ tm a b l
  | [], a, b, hx => by obtain ⟨s, hs, _⟩ := hx; simp at hs
  | s :: l, a, b, hx => by
    simp only [tm, cs, ct1]
    by_cases e : ∃ t ∈ l, h ≤ t.2
    · have := weak1 (h := h) l (a + s.1) (max (a + s.1) b + s.2) e
      split <;> omega
    · have hl : ∀ t ∈ l, t.2 < h := fun t ht => by
        by_cases c : t.2 < h
        · exact c
        · exact absurd ⟨t, ht, by omega⟩ e
      have hs : h ≤ s.2 := by
        obtain ⟨t, ht, hh⟩ := hx
        rcases List.mem_cons.1 ht with e' | ht
        · subst e'; exact hh
        · have := hl t ht; omega
      rw [if_neg (by omega)]
      have := tm_low (a + s.1) (max (a + s.1) b + s.2) l
      have := cs1_le h l hl
      omega
/-- No bound is greater than the time of any order. -/
theorem weak {l : List (Int × Int)} {m : Int} (hm : m = 0 ∨ m = 1) {s : Int × Int} (hs : s ∈ l) : bnd l m (hr m s) ≤ tm 0 0 l := by
  unfold bnd
  rcases hm with e | e <;> subst e
  · have := weak0 (h := hr 0 s) l 0 0 ⟨s, hs, Int.le_refl _⟩
    omega
  · have := weak1 (h := hr 1 s) l 0 0 ⟨s, hs, Int.le_refl _⟩
    omega
theorem bnd_perm {l k : List (Int × Int)} (m h : Int) (hp : l.Perm k) : bnd l m h = bnd k m h := by
  unfold bnd
  rw [cs_perm hp]

/-- One sheet may stand before another one by the rule. -/
def Bf (s t : Int × Int) : Prop := (s.1 < s.2 ∧ ¬ t.1 < t.2) ∨ (s.1 < s.2 ∧ t.1 < t.2 ∧ s.1 ≤ t.1) ∨ (¬ s.1 < s.2 ∧ ¬ t.1 < t.2 ∧ t.2 ≤ s.2)
theorem cs0_ge_a {h : Int} : ∀ {l : List (Int × Int)}, (∀ s ∈ l, s.1 < s.2 ∧ s.1 ≤ h) → s1 l ≤ cs 0 h l
  | [], _ => by simp [cs, s1]
  | s :: l, hl => by
    have := cs0_ge_a (h := h) (l := l) (fun s hs => hl s (by simp [hs]))
    have := hl s (by simp)
    simp only [cs, s1, ct0]
    split <;> omega
theorem cs0_ge_b {h : Int} : ∀ {l : List (Int × Int)}, (∀ s ∈ l, s.1 < s.2 → h ≤ s.1) → s2 l ≤ cs 0 h l
  | [], _ => by simp [cs, s2]
  | s :: l, hl => by
    have := cs0_ge_b (h := h) (l := l) (fun s hs => hl s (by simp [hs]))
    have := hl s (by simp)
    simp only [cs, s2, ct0]
    split <;> omega
theorem cs1_ge_b {h : Int} : ∀ {l : List (Int × Int)}, (∀ s ∈ l, ¬ s.1 < s.2 ∧ s.2 ≤ h) → s2 l ≤ cs 1 h l
  | [], _ => by simp [cs, s2]
  | s :: l, hl => by
    have := cs1_ge_b (h := h) (l := l) (fun s hs => hl s (by simp [hs]))
    have := hl s (by simp)
    simp only [cs, s2, ct1]
    split <;> omega
theorem cs1_ge_a {h : Int} : ∀ {l : List (Int × Int)}, (∀ s ∈ l, ¬ s.1 < s.2 → h ≤ s.2) → s1 l ≤ cs 1 h l
  | [], _ => by simp [cs, s1]
  | s :: l, hl => by
    have := cs1_ge_a (h := h) (l := l) (fun s hs => hl s (by simp [hs]))
    have := hl s (by simp)
    simp only [cs, s1, ct1]
    split <;> omega
/-- Sheets as the rule has them: one bound is at least the time. -/
theorem strong {l : List (Int × Int)} (h0 : 0 < l.length) (hb : ∀ s ∈ l, Ok s) (hp : l.Pairwise Bf) : ∃ m s, (m = 0 ∨ m = 1) ∧ s ∈ l ∧ tm 0 0 l = bnd l m (hr m s) := by
  obtain ⟨k, hk, e⟩ := List.getElem_of_mem (tm_mem h0 hb)
  rw [sms_len] at hk
  rw [sms_get hk, Int.zero_add] at e
  have hl : l = l.take k ++ l[k] :: l.drop (k + 1) := by rw [← drop_cons hk, List.take_append_drop]
  have hin : l[k] ∈ l := List.getElem_mem hk
  rw [take_snoc hk, drop_cons hk, s1_append] at e
  generalize l.take k = A at hl e
  generalize l.drop (k + 1) = B at hl e
  generalize l[k] = s at hl hin e
  simp only [s1, s2] at e
  have hp' := hp
  rw [hl, List.pairwise_append, List.pairwise_cons] at hp'
  obtain ⟨_, ⟨pB, _⟩, pA⟩ := hp'
  have pA : ∀ t ∈ A, Bf t s := fun t ht => pA t ht s (by simp)
  by_cases f : s.1 < s.2
  · refine ⟨0, s, .inl rfl, hin, Int.le_antisymm ?_ (weak (.inl rfl) hin)⟩
    have c : bnd l 0 (hr 0 s) = s.1 + (cs 0 s.1 A + (s.2 + cs 0 s.1 B)) := by
      rw [hl]
      simp only [bnd, cs_append, cs, ct0, hr0, Int.lt_irrefl, if_false]
    have cA := cs0_ge_a (h := s.1) (l := A) (fun t ht => by have := pA t ht; unfold Bf at this; omega)
    have cB := cs0_ge_b (h := s.1) (l := B) (fun t ht => by have := pB t ht; unfold Bf at this; omega)
    omega
  · refine ⟨1, s, .inr rfl, hin, Int.le_antisymm ?_ (weak (.inr rfl) hin)⟩
    have c : bnd l 1 (hr 1 s) = s.2 + (cs 1 s.2 A + (s.1 + cs 1 s.2 B)) := by
      rw [hl]
      simp only [bnd, cs_append, cs, ct1, hr1, Int.lt_irrefl, if_false]
    have cA := cs1_ge_a (h := s.2) (l := A) (fun t ht => by have := pA t ht; unfold Bf at this; omega)
    have cB := cs1_ge_b (h := s.2) (l := B) (fun t ht => by have := pB t ht; unfold Bf at this; omega)
    omega
end Go.Proofs.Ytnlbhjmbaedadaa
/-
  Sheets: the order of the rule, on both sides.
-/
set_option linter.unusedVariables false
set_option linter.unusedSimpArgs false
namespace Go.Proofs.Ytnlbhjmbaedadaa
open Go.Vi

def sh (l : List (Int × Int)) (i : Int) : Int × Int := l.getD i.toNat (0, 0)
theorem idx_sh {l : List (Int × Int)} {i : Int} (h0 : 0 ≤ i) (h1 : i < l.length) : idx l i = some (sh l i) := by
  rw [idx_int (k := i.toNat) (by omega) (by omega)]
  simp [sh, show i.toNat < l.length by omega]
theorem sh_mem {l : List (Int × Int)} {i : Int} (h0 : 0 ≤ i) (h1 : i < l.length) : sh l i ∈ l := by
  unfold sh
  rw [List.getD_eq_getElem?_getD, List.getElem?_eq_getElem (by omega), Option.getD_some]
  exact List.getElem_mem _
/-- A sheet is before another one in the order of the rule. -/
def Bef (l : List (Int × Int)) (i j : Int) : Prop :=
  ((sh l i).1 < (sh l i).2 ∧ ¬ (sh l j).1 < (sh l j).2) ∨ ((sh l i).1 < (sh l i).2 ∧ (sh l j).1 < (sh l j).2 ∧ ((sh l i).1 < (sh l j).1 ∨ (sh l i).1 = (sh l j).1 ∧ i < j)) ∨
  (¬ (sh l i).1 < (sh l i).2 ∧ ¬ (sh l j).1 < (sh l j).2 ∧ ((sh l j).2 < (sh l i).2 ∨ (sh l j).2 = (sh l i).2 ∧ i < j))
instance (l : List (Int × Int)) (i j : Int) : Decidable (Bef l i j) := by unfold Bef; exact inferInstance
theorem Bef.trans {l : List (Int × Int)} {i j k : Int} (h1 : Bef l i j) (h2 : Bef l j k) : Bef l i k := by
  unfold Bef at *
  omega
theorem Bef.irrefl {l : List (Int × Int)} {i : Int} : ¬ Bef l i i := by
  unfold Bef
  omega
theorem Bef.asymm {l : List (Int × Int)} {i j : Int} (h1 : Bef l i j) : ¬ Bef l j i := fun h2 => (h1.trans h2).irrefl.elim
theorem Bef.bf {l : List (Int × Int)} {i j : Int} (h : Bef l i j) : Bf (sh l i) (sh l j) := by
  unfold Bef at h
  unfold Bf
  omega
theorem before_eq (n : Nat × Nat) {l : List (Int × Int)} {i j : Int} (hi : 0 ≤ i ∧ i < l.length) (hj : 0 ≤ j ∧ j < l.length) : D70 n l i j = some (decide (Bef l i j)) := by
  unfold D70
  rw [idx_sh hi.1 hi.2, idx_sh hj.1 hj.2, Option.bind_some, Option.bind_some]
  have hb : decide (Bef l i j) = true ↔ Bef l i j := decide_eq_true_iff
  revert hb
  generalize decide (Bef l i j) = b
  unfold Bef
  generalize sh l i = s
  generalize sh l j = t
  intro hb
  by_cases f : s.1 < s.2 <;> by_cases g : t.1 < t.2
  · rw [decide_eq_true f, decide_eq_true g]
    simp only [bne_self_eq_false, cond_false, beq_self_eq_true, cond_true, Option.bind_some, decide_eq_false (show ¬ s.1 ≥ s.2 by omega)]
    by_cases e : s.1 = t.1
    · simp only [e, bne_self_eq_false, cond_false, show (false == true) = false from rfl, Option.bind_some]
      congr 1
      rw [Bool.eq_iff_iff, hb, decide_eq_true_iff]
      omega
    · rw [show (s.1 != t.1) = true by simpa using e, cond_true]
      congr 1
      rw [Bool.eq_iff_iff, hb, decide_eq_true_iff]
      omega
  · rw [decide_eq_true f, decide_eq_false g]
    simp only [show (true != false) = true from rfl, cond_true]
    congr 1
    rw [Bool.eq_iff_iff, hb]
    simp only [true_iff]
    omega
  · rw [decide_eq_false f, decide_eq_true g]
    simp only [show (false != true) = true from rfl, cond_true]
    congr 1
    rw [Bool.eq_iff_iff, hb]
    simp only [Bool.false_eq_true, false_iff]
    omega
  · rw [decide_eq_false f, decide_eq_false g]
    simp only [bne_self_eq_false, cond_false, beq_self_eq_true, cond_true, Option.bind_some, show (false == true) = false from rfl, decide_eq_true (show s.1 ≥ s.2 by omega)]
    by_cases e : s.2 = t.2
    · simp only [e, bne_self_eq_false, cond_false]
      congr 1
      rw [Bool.eq_iff_iff, hb, decide_eq_true_iff]
      omega
    · rw [show (s.2 != t.2) = true by simpa using e, cond_true]
      congr 1
      rw [Bool.eq_iff_iff, hb, decide_eq_true_iff]
      omega

/-- Numbers are put into a list that falls, and numbers one after the other. -/
def insR (c : Int → Int → Bool) (x : Int) : List Int → List Int
  | [] => [x]
  | y :: Q => bif c x y then y :: insR c x Q else x :: y :: Q
def srt (c : Int → Int → Bool) : List Int → List Int → List Int
  | Q, [] => Q
  | Q, x :: r => srt c (insR c x Q) r
theorem insR_perm (c : Int → Int → Bool) (x : Int) : ∀ Q, (insR c x Q).Perm (x :: Q)
  | [] => List.Perm.refl _
  | y :: Q => by
    unfold insR
    cases c x y
    · exact List.Perm.refl _
    · exact (List.Perm.cons y (insR_perm c x Q)).trans (List.Perm.swap x y Q)
theorem insR_len (c : Int → Int → Bool) (x : Int) (Q : List Int) : (insR c x Q).length = Q.length + 1 := (insR_perm c x Q).length_eq
theorem srt_perm (c : Int → Int → Bool) : ∀ r Q, (srt c Q r).Perm (r ++ Q)
  | [], Q => List.Perm.refl _
  | x :: r, Q => by
    unfold srt
    refine (srt_perm c r _).trans (((insR_perm c x Q).append_left r).trans ?_)
    exact List.perm_middle
theorem insR_sort {c : Int → Int → Bool} {R : Int → Int → Prop} (ht : ∀ i j k, R i j → R j k → R i k) {x : Int} : ∀ {Q : List Int}, (∀ y ∈ Q, (c x y = true → R x y) ∧ (c x y = false → R y x)) → Q.Pairwise (fun a b => R b a) → (insR c x Q).Pairwise (fun a b => R b a)
  | [], _, _ => by simp [insR]
  | y :: Q, h, hp => by
    rw [List.pairwise_cons] at hp
    unfold insR
    cases e : c x y
    · rw [cond_false]
      have hy := (h y (by simp)).2 e
      refine List.pairwise_cons.2 ⟨fun z hz => ?_, List.pairwise_cons.2 hp⟩
      rcases List.mem_cons.1 hz with e' | hz
      · subst e'; exact hy
      · exact ht _ _ _ (hp.1 z hz) hy
    · rw [cond_true]
      refine List.pairwise_cons.2 ⟨fun z hz => ?_, insR_sort ht (fun y hy => h y (by simp [hy])) hp.2⟩
      rcases List.mem_cons.1 ((insR_perm c x Q).mem_iff.1 hz) with e' | hz
      · subst e'; exact (h y (by simp)).1 e
      · exact hp.1 z hz
theorem srt_sort {c : Int → Int → Bool} {R : Int → Int → Prop} (ht : ∀ i j k, R i j → R j k → R i k) {P : Int → Prop} (hc : ∀ x y, P x → P y → y < x → (c x y = true → R x y) ∧ (c x y = false → R y x)) : ∀ {r Q : List Int}, (∀ x ∈ r, P x) → (∀ x ∈ Q, P x) → (∀ x ∈ r, ∀ y ∈ Q, y < x) → r.Pairwise (· < ·) → Q.Pairwise (fun a b => R b a) → (srt c Q r).Pairwise (fun a b => R b a)
  | [], Q, _, _, _, _, hQ => hQ
  | x :: r, Q, pr, pQ, hlt, hr, hQ => by
    unfold srt
    rw [List.pairwise_cons] at hr
    refine srt_sort ht hc (fun y hy => pr y (by simp [hy])) (fun y hy => ?_) (fun y hy z hz => ?_) hr.2 (insR_sort ht (fun y hy => hc x y (pr x (by simp)) (pQ y hy) (hlt x (by simp) y hy)) hQ)
    · rcases List.mem_cons.1 ((insR_perm c x Q).mem_iff.1 hy) with e | hy
      · subst e; exact pr y (by simp)
      · exact pQ y hy
    · rcases List.mem_cons.1 ((insR_perm c x Q).mem_iff.1 hz) with e | hz
      · subst e; exact hr.1 y hy
      · exact hlt y (by simp [hy]) z hz

theorem idx_at {α : Type} {A r : List α} {y : α} {k : Nat} (h : A.length = k) : idx (A ++ y :: r) (k : Int) = some y := by
  rw [idx_nat (by simp; omega)]
  simp [← h]
theorem set_at {α : Type} {A r : List α} {y z : α} {k : Nat} (h : A.length = k) : (A ++ y :: r).set k z = A ++ z :: r := by
  subst h
  induction A with
  | nil => rfl
  | cons a A ih => simp only [List.cons_append, List.length_cons, List.set_cons_succ, ih]
def cm86 (l : List (Int × Int)) (x y : Int) : Bool := decide ((sh l x).1 < (sh l y).1)
def cm87 (l : List (Int × Int)) (x y : Int) : Bool := decide ((sh l y).2 < (sh l x).2)
theorem cmp86 (n : Nat × Nat) {l : List (Int × Int)} (hb : ∀ s ∈ l, Ok s) {i j : Int} (hi : 0 ≤ i ∧ i < l.length) (hj : 0 ≤ j ∧ j < l.length) : ∃ r : Int, D86 n i j l = some r ∧ decide (r < 0) = cm86 l i j := by
  unfold D86 cm86
  rw [idx_sh hi.1 hi.2, idx_sh hj.1 hj.2]
  have o1 := hb _ (sh_mem hi.1 hi.2)
  have o2 := hb _ (sh_mem hj.1 hj.2)
  unfold Ok at o1 o2
  refine ⟨(sh l i).1 - (sh l j).1, ?_, ?_⟩
  · simp only [Option.bind_some]
    rw [wr_ok (by omega) (by omega)]
  · exact decide_eq_decide.2 (by omega)
theorem cmp87 (n : Nat × Nat) {l : List (Int × Int)} (hb : ∀ s ∈ l, Ok s) {i j : Int} (hi : 0 ≤ i ∧ i < l.length) (hj : 0 ≤ j ∧ j < l.length) : ∃ r : Int, D87 n i j l = some r ∧ decide (r < 0) = cm87 l i j := by
  unfold D87 cm87
  rw [idx_sh hi.1 hi.2, idx_sh hj.1 hj.2]
  have o1 := hb _ (sh_mem hi.1 hi.2)
  have o2 := hb _ (sh_mem hj.1 hj.2)
  unfold Ok at o1 o2
  refine ⟨(sh l j).2 - (sh l i).2, ?_, ?_⟩
  · simp only [Option.bind_some]
    rw [wr_ok (by omega) (by omega)]
  · exact decide_eq_decide.2 (by omega)

theorem in86_loop (n : Nat × Nat) (l : List (Int × Int)) (hb : ∀ s ∈ l, Ok s) (f : Int → Int → Int → List Int → List (Int × Int) → Option R95c86io1001) (b i : Int) (x : Int) (hx : 0 ≤ x ∧ x < l.length) : ∀ (m : Nat) (Q T : List Int), Q.length < m → Q.length < 1000 → (∀ y ∈ Q, 0 ≤ y ∧ y < l.length) →
    DL95c86io1001_2 n f m 0 b i (Q.length : Int) (Q.reverse ++ x :: T) l = f 0 b (wr .i64 (i + 1)) ((insR (cm86 l) x Q).reverse ++ T) l
  | 0, Q, T, h, _, _ => by omega
  | m + 1, [], T, h, _, hQ => by
    rw [DL95c86io1001_2_succ]
    unfold DF95c86io1001_2
    simp [insR]
  | m + 1, y :: Q, T, h, h8, hQ => by
    rw [DL95c86io1001_2_succ]
    unfold DF95c86io1001_2
    rw [List.length_cons] at h h8
    have hy := hQ y (by simp)
    obtain ⟨r, hr, hd⟩ := cmp86 n hb hx hy
    have ih := in86_loop n l hb f b i x hx m Q (y :: T) (by omega) (by omega) (fun z hz => hQ z (by simp [hz]))
    have e : (y :: Q).reverse ++ x :: T = Q.reverse ++ y :: x :: T := by simp
    have w : wr .i64 (((y :: Q).length : Int) - 1) = (Q.length : Int) := by rw [List.length_cons, wr_ok (by omega) (by omega)]; omega
    have a1 : ∀ T' : List Int, idx (Q.reverse ++ y :: x :: T') ((y :: Q).length : Int) = some x := fun T' => by
      have := idx_at (A := Q.reverse ++ [y]) (r := T') (y := x) (k := (y :: Q).length) (by simp)
      simpa using this
    have a2 : ∀ T' : List Int, idx (Q.reverse ++ y :: T') (Q.length : Int) = some y := fun T' => idx_at (by simp)
    have a3 : (Q.reverse ++ y :: x :: T).set (y :: Q).length y = Q.reverse ++ y :: y :: T := by
      have := set_at (A := Q.reverse ++ [y]) (r := T) (y := x) (z := y) (k := (y :: Q).length) (by simp)
      rw [List.append_assoc, List.append_assoc] at this
      exact this
    have a4 : (Q.reverse ++ y :: y :: T).set Q.length x = Q.reverse ++ x :: y :: T := set_at (by simp)
    rw [e]
    rw [decide_eq_true (show (((y :: Q).length : Nat) : Int) > 0 by rw [List.length_cons]; omega), w]
    simp only [beq_self_eq_true, cond_true]
    rw [inB_nat (show (y :: Q).length < (Q.reverse ++ y :: x :: T).length by simp <;> omega), inB_nat (show Q.length < (Q.reverse ++ y :: x :: T).length by simp <;> omega)]
    simp only [cond_true, a1, a2, Option.bind_some, hr, hd]
    unfold insR
    cases cm86 l x y
    · simp only [cond_false]
      congr 1
      simp
    · simp only [cond_true]
      rw [Int.toNat_natCast, Int.toNat_natCast, a3, a2, inB_nat (show Q.length < (Q.reverse ++ y :: y :: T).length by simp <;> omega)]
      simp only [cond_true, Option.bind_some, a4, ih]
      congr 1
      simp
theorem so86_loop (n : Nat × Nat) (hn : 1000 ≤ n.1) (l : List (Int × Int)) (hb : ∀ s ∈ l, Ok s) : ∀ (m : Nat) (r Q : List Int), r.length < m → Q.length + r.length < 900 → (∀ y ∈ Q, 0 ≤ y ∧ y < l.length) → (∀ y ∈ r, 0 ≤ y ∧ y < l.length) →
    DL95c86io1001_1 n m 0 ((Q.length + r.length : Nat) : Int) (Q.length : Int) (Q.reverse ++ r) l = some ((), (srt (cm86 l) Q r).reverse, l, ())
  | 0, r, Q, h, _, _, _ => by omega
  | m + 1, [], Q, h, _, _, _ => by
    rw [DL95c86io1001_1_succ]
    unfold DF95c86io1001_1
    rw [dlt_f (by simp), cond_false]
    simp [srt]
  | m + 1, x :: r, Q, h, h8, hQ, hr => by
    rw [DL95c86io1001_1_succ]
    unfold DF95c86io1001_1
    rw [List.length_cons] at h h8
    have ih := so86_loop n hn l hb m r (insR (cm86 l) x Q) (by omega) (by rw [insR_len]; omega) (fun y hy => by
      rcases List.mem_cons.1 ((insR_perm _ x Q).mem_iff.1 hy) with e | hy
      · subst e; exact hr y (by simp)
      · exact hQ y hy) (fun y hy => hr y (by simp [hy]))
    rw [dlt_t (by simp), cond_true, in86_loop n l hb _ _ _ x (hr x (by simp)) n.1 Q r (by omega) (by omega) hQ, wr_succ (by omega)]
    rw [insR_len] at ih
    rw [show Q.length + 1 + r.length = Q.length + (x :: r).length by rw [List.length_cons]; omega] at ih
    rw [ih]
    rfl
theorem sort86_eq {n : Nat × Nat} (hn : 1000 ≤ n.1) {l : List (Int × Int)} (hb : ∀ s ∈ l, Ok s) {r : List Int} (h7 : r.length ≤ 7) (hr : ∀ y ∈ r, 0 ≤ y ∧ y < l.length) : D85c86io11 n r l = some ((), (srt (cm86 l) [] r).reverse, l, ()) := by
  have h95 : D95c86io1001 n r 0 (r.length : Int) l = some ((), (srt (cm86 l) [] r).reverse, l, ()) := by
    unfold D95c86io1001
    match r, h7, hr with
    | [], _, _ =>
      have : n.1 = (n.1 - 1) + 1 := by omega
      rw [this, DL95c86io1001_1_succ]
      unfold DF95c86io1001_1
      rw [show wr .i64 ((0 : Int) + 1) = 1 by rw [wr_ok (by omega) (by omega)]; omega]
      rfl
    | x :: r, h7, hr =>
      have := so86_loop n hn l hb n.1 r [x] (by simp at h7; omega) (by simp at h7 ⊢; omega) (fun y hy => by rw [List.mem_singleton] at hy; subst hy; exact hr y (by simp)) (fun y hy => hr y (by simp [hy]))
      rw [show wr .i64 ((0 : Int) + 1) = 1 by rw [wr_ok (by omega) (by omega)]; omega]
      simpa [srt, insR, Nat.add_comm] using this
  have hl : (srt (cm86 l) [] r).reverse.length = r.length := by
    rw [List.length_reverse, (srt_perm (cm86 l) r []).length_eq]
    simp
  have h94 : D94c86io101 n r (r.length : Int) l = some ((), (srt (cm86 l) [] r).reverse, l, ()) := by
    unfold D94c86io101
    obtain ⟨k, hk⟩ : ∃ k, n.1 = k + 1 := ⟨n.1 - 1, by omega⟩
    rw [hk, DL94c86io101_1_succ]
    unfold DF94c86io101_1
    rw [decide_eq_false (show ¬ (20 : Int) ≤ (r.length : Int) by omega), cond_false, h95]
    simp only [Option.bind_some]
    rw [show Nat.beq (srt (cm86 l) [] r).reverse.length r.length = true by rw [hl]; exact Nat.beq_refl _, cond_true, hk, DL94c86io101_2_succ]
    unfold DF94c86io101_2
    rw [decide_eq_false (show ¬ (20 : Int) < (r.length : Int) by omega), cond_false]
  unfold D85c86io11
  rw [h94]
  simp only [Option.bind_some]
  rw [show Nat.beq (srt (cm86 l) [] r).reverse.length r.length = true by rw [hl]; exact Nat.beq_refl _, cond_true]

theorem in87_loop (n : Nat × Nat) (l : List (Int × Int)) (hb : ∀ s ∈ l, Ok s) (f : Int → Int → Int → List Int → List (Int × Int) → Option R95c87io1001) (b i : Int) (x : Int) (hx : 0 ≤ x ∧ x < l.length) : ∀ (m : Nat) (Q T : List Int), Q.length < m → Q.length < 1000 → (∀ y ∈ Q, 0 ≤ y ∧ y < l.length) →
    DL95c87io1001_2 n f m 0 b i (Q.length : Int) (Q.reverse ++ x :: T) l = f 0 b (wr .i64 (i + 1)) ((insR (cm87 l) x Q).reverse ++ T) l
  | 0, Q, T, h, _, _ => by omega
  | m + 1, [], T, h, _, hQ => by
    rw [DL95c87io1001_2_succ]
    unfold DF95c87io1001_2
    simp [insR]
  | m + 1, y :: Q, T, h, h8, hQ => by
    rw [DL95c87io1001_2_succ]
    unfold DF95c87io1001_2
    rw [List.length_cons] at h h8
    have hy := hQ y (by simp)
    obtain ⟨r, hr, hd⟩ := cmp87 n hb hx hy
    have ih := in87_loop n l hb f b i x hx m Q (y :: T) (by omega) (by omega) (fun z hz => hQ z (by simp [hz]))
    have e : (y :: Q).reverse ++ x :: T = Q.reverse ++ y :: x :: T := by simp
    have w : wr .i64 (((y :: Q).length : Int) - 1) = (Q.length : Int) := by rw [List.length_cons, wr_ok (by omega) (by omega)]; omega
    have a1 : ∀ T' : List Int, idx (Q.reverse ++ y :: x :: T') ((y :: Q).length : Int) = some x := fun T' => by
      have := idx_at (A := Q.reverse ++ [y]) (r := T') (y := x) (k := (y :: Q).length) (by simp)
      simpa using this
    have a2 : ∀ T' : List Int, idx (Q.reverse ++ y :: T') (Q.length : Int) = some y := fun T' => idx_at (by simp)
    have a3 : (Q.reverse ++ y :: x :: T).set (y :: Q).length y = Q.reverse ++ y :: y :: T := by
      have := set_at (A := Q.reverse ++ [y]) (r := T) (y := x) (z := y) (k := (y :: Q).length) (by simp)
      rw [List.append_assoc, List.append_assoc] at this
      exact this
    have a4 : (Q.reverse ++ y :: y :: T).set Q.length x = Q.reverse ++ x :: y :: T := set_at (by simp)
    rw [e]
    rw [decide_eq_true (show (((y :: Q).length : Nat) : Int) > 0 by rw [List.length_cons]; omega), w]
    simp only [beq_self_eq_true, cond_true]
    rw [inB_nat (show (y :: Q).length < (Q.reverse ++ y :: x :: T).length by simp <;> omega), inB_nat (show Q.length < (Q.reverse ++ y :: x :: T).length by simp <;> omega)]
    simp only [cond_true, a1, a2, Option.bind_some, hr, hd]
    unfold insR
    cases cm87 l x y
    · simp only [cond_false]
      congr 1
      simp
    · simp only [cond_true]
      rw [Int.toNat_natCast, Int.toNat_natCast, a3, a2, inB_nat (show Q.length < (Q.reverse ++ y :: y :: T).length by simp <;> omega)]
      simp only [cond_true, Option.bind_some, a4, ih]
      congr 1
      simp
theorem so87_loop (n : Nat × Nat) (hn : 1000 ≤ n.1) (l : List (Int × Int)) (hb : ∀ s ∈ l, Ok s) : ∀ (m : Nat) (r Q : List Int), r.length < m → Q.length + r.length < 900 → (∀ y ∈ Q, 0 ≤ y ∧ y < l.length) → (∀ y ∈ r, 0 ≤ y ∧ y < l.length) →
    DL95c87io1001_1 n m 0 ((Q.length + r.length : Nat) : Int) (Q.length : Int) (Q.reverse ++ r) l = some ((), (srt (cm87 l) Q r).reverse, l, ())
  | 0, r, Q, h, _, _, _ => by omega
  | m + 1, [], Q, h, _, _, _ => by
    rw [DL95c87io1001_1_succ]
    unfold DF95c87io1001_1
    rw [dlt_f (by simp), cond_false]
    simp [srt]
  | m + 1, x :: r, Q, h, h8, hQ, hr => by
    rw [DL95c87io1001_1_succ]
    unfold DF95c87io1001_1
    rw [List.length_cons] at h h8
    have ih := so87_loop n hn l hb m r (insR (cm87 l) x Q) (by omega) (by rw [insR_len]; omega) (fun y hy => by
      rcases List.mem_cons.1 ((insR_perm _ x Q).mem_iff.1 hy) with e | hy
      · subst e; exact hr y (by simp)
      · exact hQ y hy) (fun y hy => hr y (by simp [hy]))
    rw [dlt_t (by simp), cond_true, in87_loop n l hb _ _ _ x (hr x (by simp)) n.1 Q r (by omega) (by omega) hQ, wr_succ (by omega)]
    rw [insR_len] at ih
    rw [show Q.length + 1 + r.length = Q.length + (x :: r).length by rw [List.length_cons]; omega] at ih
    rw [ih]
    rfl
theorem sort87_eq {n : Nat × Nat} (hn : 1000 ≤ n.1) {l : List (Int × Int)} (hb : ∀ s ∈ l, Ok s) {r : List Int} (h7 : r.length ≤ 7) (hr : ∀ y ∈ r, 0 ≤ y ∧ y < l.length) : D85c87io11 n r l = some ((), (srt (cm87 l) [] r).reverse, l, ()) := by
  have h95 : D95c87io1001 n r 0 (r.length : Int) l = some ((), (srt (cm87 l) [] r).reverse, l, ()) := by
    unfold D95c87io1001
    match r, h7, hr with
    | [], _, _ =>
      have : n.1 = (n.1 - 1) + 1 := by omega
      rw [this, DL95c87io1001_1_succ]
      unfold DF95c87io1001_1
      rw [show wr .i64 ((0 : Int) + 1) = 1 by rw [wr_ok (by omega) (by omega)]; omega]
      rfl
    | x :: r, h7, hr =>
      have := so87_loop n hn l hb n.1 r [x] (by simp at h7; omega) (by simp at h7 ⊢; omega) (fun y hy => by rw [List.mem_singleton] at hy; subst hy; exact hr y (by simp)) (fun y hy => hr y (by simp [hy]))
      rw [show wr .i64 ((0 : Int) + 1) = 1 by rw [wr_ok (by omega) (by omega)]; omega]
      simpa [srt, insR, Nat.add_comm] using this
  have hl : (srt (cm87 l) [] r).reverse.length = r.length := by
    rw [List.length_reverse, (srt_perm (cm87 l) r []).length_eq]
    simp
  have h94 : D94c87io101 n r (r.length : Int) l = some ((), (srt (cm87 l) [] r).reverse, l, ()) := by
    unfold D94c87io101
    obtain ⟨k, hk⟩ : ∃ k, n.1 = k + 1 := ⟨n.1 - 1, by omega⟩
    rw [hk, DL94c87io101_1_succ]
    unfold DF94c87io101_1
    rw [decide_eq_false (show ¬ (20 : Int) ≤ (r.length : Int) by omega), cond_false, h95]
    simp only [Option.bind_some]
    rw [show Nat.beq (srt (cm87 l) [] r).reverse.length r.length = true by rw [hl]; exact Nat.beq_refl _, cond_true, hk, DL94c87io101_2_succ]
    unfold DF94c87io101_2
    rw [decide_eq_false (show ¬ (20 : Int) < (r.length : Int) by omega), cond_false]
  unfold D85c87io11
  rw [h94]
  simp only [Option.bind_some]
  rw [show Nat.beq (srt (cm87 l) [] r).reverse.length r.length = true by rw [hl]; exact Nat.beq_refl _, cond_true]
end Go.Proofs.Ytnlbhjmbaedadaa
/-
  Sheets: the order of the rule: the program's and the reference's are the same.
-/
set_option linter.unusedVariables false
set_option linter.unusedSimpArgs false
namespace Go.Proofs.Ytnlbhjmbaedadaa
open Go.Vi

def ix (n : Nat) : List Int := (List.range n).map fun i : Nat => (i : Int)
theorem ix_succ (n : Nat) : ix (n + 1) = ix n ++ [(n : Int)] := by simp [ix, List.range_succ]
theorem ix_mem {n : Nat} {i : Int} : i ∈ ix n ↔ 0 ≤ i ∧ i < n := by
  unfold ix
  rw [List.mem_map]
  constructor
  · rintro ⟨k, hk, e⟩
    rw [List.mem_range] at hk
    omega
  · intro h
    exact ⟨i.toNat, List.mem_range.2 (by omega), by omega⟩
theorem ix_lt (n : Nat) : (ix n).Pairwise (· < ·) := by
  unfold ix
  rw [List.pairwise_map]
  exact List.Pairwise.imp (fun h => by omega) (List.pairwise_lt_range (n := n))
theorem ix_len (n : Nat) : (ix n).length = n := by simp [ix]
def fa (l : List (Int × Int)) (i : Int) : Bool := decide ((sh l i).1 < (sh l i).2)
def frt (l : List (Int × Int)) (k : Nat) : List Int := (ix k).filter (fa l)
def bck (l : List (Int × Int)) (k : Nat) : List Int := (ix k).filter fun i => !fa l i
/-- The order of the rule. -/
def rl (l : List (Int × Int)) : List Int := (srt (cm86 l) [] (frt l l.length)).reverse ++ (srt (cm87 l) [] (bck l l.length)).reverse
theorem frt_len (l : List (Int × Int)) (k : Nat) : (frt l k).length ≤ k := by
  have := List.length_filter_le (fa l) (ix k)
  rw [ix_len] at this
  exact this
theorem bck_len (l : List (Int × Int)) (k : Nat) : (bck l k).length ≤ k := by
  have := List.length_filter_le (fun i => !fa l i) (ix k)
  rw [ix_len] at this
  exact this

theorem rl_perm (l : List (Int × Int)) : (rl l).Perm (ix l.length) := by
  unfold rl
  have h1 := (List.reverse_perm (srt (cm86 l) [] (frt l l.length))).trans (srt_perm (cm86 l) (frt l l.length) [])
  have h2 := (List.reverse_perm (srt (cm87 l) [] (bck l l.length))).trans (srt_perm (cm87 l) (bck l l.length) [])
  rw [List.append_nil] at h1 h2
  exact (h1.append h2).trans (List.filter_append_perm (fa l) (ix l.length))
theorem rl_ord (l : List (Int × Int)) : Ord l.length (rl l) := by
  have h := rl_perm l
  refine ⟨by rw [h.length_eq, ix_len], fun i hi => ix_mem.1 (h.mem_iff.1 hi), ?_⟩
  refine h.symm.nodup ?_
  exact List.Pairwise.imp (fun h => by omega) (ix_lt l.length)
theorem rl_sort (l : List (Int × Int)) : (rl l).Pairwise (Bef l) := by
  unfold rl
  have p1 := srt_perm (cm86 l) (frt l l.length) []
  have p2 := srt_perm (cm87 l) (bck l l.length) []
  rw [List.append_nil] at p1 p2
  have ff : ∀ x ∈ frt l l.length, fa l x = true := fun x hx => (List.mem_filter.1 hx).2
  have fb : ∀ x ∈ bck l l.length, fa l x = false := fun x hx => by simpa using (List.mem_filter.1 hx).2
  refine List.pairwise_append.2 ⟨List.pairwise_reverse.2 ?_, List.pairwise_reverse.2 ?_, fun a ha b hb => ?_⟩
  · refine srt_sort (R := Bef l) (fun i j k => Bef.trans) (P := fun x => fa l x = true) (fun x y hx hy hlt => ?_) ff (fun x hx => by simp at hx) (fun x hx y hy => by simp at hy) (List.Pairwise.filter _ (ix_lt _)) List.Pairwise.nil
    unfold fa at hx hy
    unfold cm86 Bef
    rw [decide_eq_true_iff] at hx hy
    rw [decide_eq_true_iff, decide_eq_false_iff_not]
    omega
  · refine srt_sort (R := Bef l) (fun i j k => Bef.trans) (P := fun x => fa l x = false) (fun x y hx hy hlt => ?_) fb (fun x hx => by simp at hx) (fun x hx y hy => by simp at hy) (List.Pairwise.filter _ (ix_lt _)) List.Pairwise.nil
    unfold fa at hx hy
    unfold cm87 Bef
    rw [decide_eq_false_iff_not] at hx hy
    rw [decide_eq_true_iff, decide_eq_false_iff_not]
    omega
  · rw [List.mem_reverse] at ha hb
    have h1 := ff a (p1.mem_iff.1 ha)
    have h2 := fb b (p2.mem_iff.1 hb)
    unfold fa at h1 h2
    rw [decide_eq_true_iff] at h1
    rw [decide_eq_false_iff_not] at h2
    exact .inl ⟨h1, h2⟩

theorem rule_loop (n : Nat × Nat) (hn : 1000 ≤ n.1) (l : List (Int × Int)) (hl : l.length ≤ 7) (hb : ∀ s ∈ l, Ok s) : ∀ (m k : Nat), k ≤ l.length → l.length - k < m →
    DL69_1 n m l (l.length : Int) (k : Int) l (frt l k) (bck l k) = some (rl l)
  | 0, k, _, h => by omega
  | m + 1, k, hk, h => by
    rw [DL69_1_succ]
    unfold DF69_1
    by_cases hlt : k < l.length
    · have ih := rule_loop n hn l hl hb m (k + 1) (by omega) (by omega)
      have hj2 : ∀ a b, DL69_2 n (DL69_1 n m) l (l.length : Int) (k : Int) l a b = DL69_1 n m l (l.length : Int) (wr .i64 ((k : Int) + 1)) l a b := fun a b => rfl
      have e1 := frt_len l k
      have e2 := bck_len l k
      rw [dlt_t hlt, cond_true, idx_nat hlt, Option.bind_some, hj2, hj2, wr_succ (by omega), lim_dec (by omega), lim_dec (by omega), cond_true, cond_true, ← ih]
      have hsh : sh l (k : Int) = l[k] := by simp [sh, hlt]
      by_cases f : l[k].1 < l[k].2
      · rw [decide_eq_true f, cond_true]
        have hf : fa l (k : Int) = true := by unfold fa; rw [hsh]; exact decide_eq_true f
        unfold frt bck
        rw [ix_succ, List.filter_append, List.filter_append]
        simp [hf]
      · rw [decide_eq_false f, cond_false]
        have hf : fa l (k : Int) = false := by unfold fa; rw [hsh]; exact decide_eq_false f
        unfold frt bck
        rw [ix_succ, List.filter_append, List.filter_append]
        simp [hf]
    · have : k = l.length := by omega
      subst this
      have e1 := frt_len l l.length
      have e2 := bck_len l l.length
      have p1 := (srt_perm (cm86 l) (frt l l.length) []).length_eq
      have p2 := (srt_perm (cm87 l) (bck l l.length) []).length_eq
      rw [List.append_nil] at p1 p2
      rw [dlt_f (by omega), cond_false, sort86_eq (r := frt l l.length) hn hb (by omega) (fun y hy => ix_mem.1 (List.mem_filter.1 hy).1), Option.bind_some]
      simp only []
      rw [show Nat.beq (srt (cm86 l) [] (frt l l.length)).reverse.length (frt l l.length).length = true by rw [List.length_reverse, p1]; exact Nat.beq_refl _, cond_true, sort87_eq (r := bck l l.length) hn hb (by omega) (fun y hy => ix_mem.1 (List.mem_filter.1 hy).1), Option.bind_some]
      simp only []
      rw [show Nat.beq (srt (cm87 l) [] (bck l l.length)).reverse.length (bck l l.length).length = true by rw [List.length_reverse, p2]; exact Nat.beq_refl _, cond_true, decide_eq_true (by simp [lim, p1, p2]; omega), cond_true]
      rfl
theorem rule_eq {n : Nat × Nat} (hn : 1000 ≤ n.1) {l : List (Int × Int)} (hg : Good l) : D69 n l = some (rl l) := by
  unfold D69
  exact rule_loop n hn l hg.len hg.ok n.1 0 (by omega) (by have := hg.len; omega)
def ruleS (l : List (Int × Int)) : List Int × Int := if chk l ≠ 0 then ([], chk l) else (rl l, 0)
theorem Rule_eq {n : Nat × Nat} (hn : 1000 ≤ n.1) (l : List (Int × Int)) : D27 n l = some (ruleS l) := by
  unfold D27 ruleS
  rw [chk_eq hn, Option.bind_some]
  by_cases h : chk l = 0
  · rw [show (chk l != 0) = false by simp [h], cond_false, if_neg (by simpa using h), rule_eq hn (chk_good.1 h)]
    rfl
  · rw [show (chk l != 0) = true by simpa using h, cond_true, if_pos h]

/-- How many of the first k are before one. -/
def cnt (l : List (Int × Int)) (i : Int) (k : Nat) : Nat := ((ix k).filter fun j => decide (j ≠ i) && decide (Bef l j i)).length
theorem place_loop (n : Nat × Nat) (l : List (Int × Int)) (hl : l.length ≤ 7) (f : List (Int × Int) → Int → List Int → Option R28) (i : Int) (hi : 0 ≤ i ∧ i < l.length) (out : List Int) (ho : out.length = l.length) (hc : cnt l i l.length < l.length) : ∀ (m k : Nat), k ≤ l.length → l.length - k < m →
    DL28_2 n f m l i (cnt l i k : Int) (k : Int) out = f l (wr .i64 (i + 1)) (out.set (cnt l i l.length) i)
  | 0, k, _, h => by omega
  | m + 1, k, hk, h => by
    rw [DL28_2_succ]
    unfold DF28_2
    by_cases hlt : k < l.length
    · have ih := place_loop n l hl f i hi out ho hc m (k + 1) (by omega) (by omega)
      have hj3 : ∀ v : Int, DL28_3 n f (DL28_2 n f m) l i v (k : Int) out = DL28_2 n f m l i v (wr .i64 ((k : Int) + 1)) out := fun v => rfl
      have hle : cnt l i k ≤ k := by
        have := List.length_filter_le (fun j => decide (j ≠ i) && decide (Bef l j i)) (ix k)
        rw [ix_len] at this
        exact this
      rw [dlt_t hlt, cond_true, before_eq n ⟨by omega, by omega⟩ hi, hj3, hj3, wr_succ (k := k) (by omega), wr_succ (k := cnt l i k) (by omega)]
      have e : cnt l i (k + 1) = cnt l i k + (if (k : Int) ≠ i ∧ Bef l (k : Int) i then 1 else 0) := by
        unfold cnt
        rw [ix_succ, List.filter_append, List.length_append]
        congr 1
        by_cases c : (k : Int) ≠ i ∧ Bef l (k : Int) i
        · rw [if_pos c]; simp [c]
        · rw [if_neg c]
          have : (decide ((k : Int) ≠ i) && decide (Bef l (k : Int) i)) = false := by
            rw [← Bool.not_eq_true, Bool.and_eq_true, decide_eq_true_iff, decide_eq_true_iff]
            exact c
          rw [List.filter_cons, this]; rfl
      simp only [Option.bind_some]
      by_cases c1 : (k : Int) = i
      · rw [show ((k : Int) != i) = false by simp [c1]]
        simp only [show (false == true) = false from rfl, cond_false, Option.bind_some]
        rw [if_neg (by simp [c1])] at e
        rw [← ih, e]
        rfl
      · rw [show ((k : Int) != i) = true by simpa using c1]
        simp only [beq_self_eq_true, cond_true, Option.bind_some]
        by_cases c2 : Bef l (k : Int) i
        · rw [if_pos ⟨c1, c2⟩] at e
          rw [decide_eq_true c2, cond_true, ← ih, e]
        · rw [if_neg (fun h => c2 h.2)] at e
          rw [decide_eq_false c2, cond_false, ← ih, e]
          rfl
    · have : k = l.length := by omega
      subst this
      rw [dlt_f (by omega), cond_false, inB_nat (by omega), cond_true, idx_nat (by omega), Option.bind_some, Int.toNat_natCast]
/-- At its place in the rule's order stands each sheet. -/
theorem cnt_place {l : List (Int × Int)} {k : Nat} (hk : k < (rl l).length) : cnt l (rl l)[k] l.length = k := by
  have hs := rl_sort l
  have hp := rl_perm l
  unfold cnt
  have := (hp.filter fun j => decide (j ≠ (rl l)[k]) && decide (Bef l j (rl l)[k])).length_eq
  rw [← this]
  have hl : rl l = (rl l).take k ++ (rl l)[k] :: (rl l).drop (k + 1) := by rw [← drop_cons hk, List.take_append_drop]
  have hlen : ((rl l).take k).length = k := by rw [List.length_take]; omega
  generalize (rl l)[k] = x at hl ⊢
  rw [hl] at hs ⊢
  generalize (rl l).take k = A at hs hlen ⊢
  generalize (rl l).drop (k + 1) = B at hs ⊢
  rw [List.pairwise_append, List.pairwise_cons] at hs
  obtain ⟨_, ⟨pB, _⟩, pA⟩ := hs
  rw [List.filter_append, List.filter_cons]
  have eA : A.filter (fun j => decide (j ≠ x) && decide (Bef l j x)) = A := List.filter_eq_self.2 fun a ha => by
    have := pA a ha x (by simp)
    have hne : a ≠ x := fun e => by subst e; exact this.irrefl
    simp [hne, this]
  have eB : B.filter (fun j => decide (j ≠ x) && decide (Bef l j x)) = [] := List.filter_eq_nil_iff.2 fun b hb => by
    have := (pB b hb).asymm
    simp [this]
  rw [eA, eB]
  simp [hlen]
theorem rrule_loop (n : Nat × Nat) (hn : 1000 ≤ n.1) (l : List (Int × Int)) (hl : l.length ≤ 7) : ∀ (m k : Nat) (out : List Int), k ≤ l.length → l.length - k < m → out.length = l.length →
    (∀ p (hp : p < (rl l).length), (rl l)[p] < k → out[p]? = some (rl l)[p]) → DL28_1 n m l (k : Int) out = some (rl l, 0)
  | 0, k, out, _, h, _, _ => by omega
  | m + 1, k, out, hk, h, ho, hp => by
    have hrl := (rl_ord l).len
    rw [DL28_1_succ]
    unfold DF28_1
    by_cases hlt : k < l.length
    · have hin : (k : Int) ∈ rl l := (rl_perm l).mem_iff.2 (ix_mem.2 ⟨by omega, by omega⟩)
      obtain ⟨q, hq, eq⟩ := List.getElem_of_mem hin
      have hc : cnt l (k : Int) l.length = q := by rw [← eq]; exact cnt_place hq
      have c0 : cnt l (k : Int) 0 = 0 := rfl
      have := place_loop n l hl (DL28_1 n m) (k : Int) ⟨by omega, by omega⟩ out ho (by omega) n.1 0 (by omega) (by omega)
      rw [c0] at this
      rw [dlt_t hlt, cond_true]
      refine this.trans ?_
      rw [hc, wr_succ (by omega)]
      refine rrule_loop n hn l hl m (k + 1) _ (by omega) (by omega) (by simp [ho]) (fun p hp' hlt' => ?_)
      by_cases e : p = q
      · subst e
        rw [List.getElem?_set_self (by omega), eq]
      · rw [List.getElem?_set_ne (fun h => e h.symm)]
        refine hp p hp' ?_
        have hne : (rl l)[p] ≠ (k : Int) := fun e' => by
          have hnd := (rl_ord l).nodup
          rw [← eq] at e'
          exact e ((List.getElem_inj hnd).1 e')
        omega
    · rw [dlt_f hlt, cond_false]
      congr 2
      apply List.ext_getElem?
      intro p
      by_cases h' : p < (rl l).length
      · have := (rl_ord l).rng _ (List.getElem_mem h')
        rw [hp p h' (by omega), List.getElem?_eq_getElem h']
      · rw [List.getElem?_eq_none (by omega), List.getElem?_eq_none (by omega)]
theorem rRule_eq {n : Nat × Nat} (hn : 1000 ≤ n.1) (l : List (Int × Int)) : D28 n l = some (ruleS l) := by
  unfold D28 ruleS
  rw [chkr_eq hn, Option.bind_some]
  by_cases h : chk l = 0
  · have hg := chk_good.1 h
    have h7 := hg.len
    rw [show (chk l != 0) = false by simp [h], cond_false, if_neg (by simpa using h)]
    rw [decide_eq_true (show (0 : Int) ≤ (l.length : Int) by omega), decide_eq_true (Int.le_refl _), decide_eq_true (show (l.length : Int) ≤ lim by simp [lim]; omega), Bool.and_self, Bool.and_self, cond_true, Int.toNat_natCast]
    exact rrule_loop n hn l h7 n.1 0 _ (by omega) (by omega) (by simp) (fun p hp hlt => by
      have := (rl_ord l).rng _ (List.getElem_mem hp)
      omega)
  · rw [show (chk l != 0) = true by simpa using h, cond_true, if_pos h]

/-- The sheets of the rule's order, and their time: that of the best orders. -/
theorem rl_bf (l : List (Int × Int)) : (pk l (rl l)).Pairwise Bf := by
  unfold pk
  rw [List.pairwise_map]
  exact List.Pairwise.imp (fun h => h.bf) (rl_sort l)
theorem johnson {l : List (Int × Int)} (hg : Good l) : ∃ m s, (m = 0 ∨ m = 1) ∧ s ∈ l ∧ tm 0 0 (pk l (rl l)) = bnd l m (hr m s) := by
  have ho := rl_ord l
  obtain ⟨m, s, hm, hs, e⟩ := strong (ord_pk hg ho).1 (pk_ok hg ho) (rl_bf l)
  exact ⟨m, s, hm, (pk_perm ho).mem_iff.1 hs, by rw [e, bnd_perm m (hr m s) (pk_perm ho)]⟩
theorem bnd_le {l : List (Int × Int)} {o : List Int} (ho : Ord l.length o) {m : Int} (hm : m = 0 ∨ m = 1) {s : Int × Int} (hs : s ∈ l) : bnd l m (hr m s) ≤ tm 0 0 (pk l o) := by
  rw [← bnd_perm m (hr m s) (pk_perm ho)]
  exact weak hm ((pk_perm ho).mem_iff.2 hs)
theorem rl_best {l : List (Int × Int)} (hg : Good l) {o : List Int} (ho : Ord l.length o) : tm 0 0 (pk l (rl l)) ≤ tm 0 0 (pk l o) := by
  obtain ⟨m, s, hm, hs, e⟩ := johnson hg
  rw [e]
  exact bnd_le ho hm hs
end Go.Proofs.Ytnlbhjmbaedadaa
set_option linter.unusedVariables false
set_option linter.unusedSimpArgs false
set_option maxRecDepth 100000
namespace Go.Proofs.Ytnlbhjmbaedadaa
open Go.Vi
/- headword/headwordref07.Goes -/
abbrev R34 := Bool × Int
noncomputable def c34 : Code := bodyOf Try.f34
noncomputable def an34 : Ann := (.s .l (.s .l (.s (.s .l (.j [0, 1, 2, 8] .l .l)) (.s (.s .l (.j [0, 1, 2] .l .l)) .l))))
def pk34 : List PK := [.c (.sl (.pair (.int .i64) (.int .i64))), .c (.int .i64), .c (.int .i64)]
def rk34 : List RK := [.c .bool 6, .c (.int .i64) 7]
noncomputable def rt34 (st : St) : Option R34 := rtG rk34 st
noncomputable def E34 (n : Nat × Nat) : Env := { T := tab, phi := (consPhi 26 (fun _ => true) (P26 n) (consPhi 68 (fun _ => true) (P68 n) noPhi)), eff := fun _ => false, fuel := n.1, hold := n.2 }
noncomputable def kq34_1 (n : Nat × Nat) : St → Option R34 := run (E34 n) (cB (cB (cB c34))) (Ann.snd (Ann.snd (Ann.snd an34))) rt34 (fun _ _ => none) rt34
noncomputable def kc34_2 (n : Nat × Nat) : St → Option R34 := fun s => normC [0, 1, 2, 8] s (kq34_1 n)
noncomputable def kq34_3 (n : Nat × Nat) : St → Option R34 := run (E34 n) (cB (cB (cB (cB c34)))) (Ann.snd (Ann.snd (Ann.snd (Ann.snd an34)))) rt34 (fun _ _ => none) rt34
noncomputable def kc34_4 (n : Nat × Nat) : St → Option R34 := fun s => normC [0, 1, 2] s (kq34_3 n)
noncomputable def S34 (n : Nat × Nat) (sheets0 : List (Int × Int)) (i1 : Int) (j2 : Int) : Option R34 := run (E34 n) c34 an34 rt34 (fun _ _ => none) rt34 { tm := [.c (.sl (.pair (.int .i64) (.int .i64)) sheets0 false), .c (.int .i64 i1), .c (.int .i64 j2), uu, uu, uu, uu, uu, uu, uu, uu, uu, uu, uu, uu, uu, uu, uu, uu, uu, uu, uu, uu, uu, uu, uu, uu, uu, uu, uu, uu, uu, uu, uu, uu, uu, uu, uu, uu, uu, uu, uu, uu, uu, uu, uu, uu, uu, uu, uu, uu, uu, uu, uu, uu], hp := emp }
theorem S34_eq (n : Nat × Nat) (sheets0 : List (Int × Int)) (i1 : Int) (j2 : Int) : S34 n sheets0 i1 j2 =
    (S26 n sheets0).bind fun r1' =>
    ((bif ((r1' == 0) == true) then (S68 n i1 0 (wr .i64 ((sheets0.length : Int) - 1))).bind fun r2' =>
        ((bif ((!r2') == false) then (S68 n j2 0 (wr .i64 ((sheets0.length : Int) - 1))).bind fun r3' =>
            some (!r3')
          else some true)).bind fun b4' =>
        some b4'
      else some false)).bind fun b5' =>
    (bif b5' then (bif (2 != 0) then some (false, 2)
      else (idx sheets0 i1).bind fun x6' =>
        (idx sheets0 j2).bind fun x7' =>
        (idx sheets0 j2).bind fun x8' =>
        (idx sheets0 i1).bind fun x9' =>
        some (decide ((if x7'.2 < x6'.1 then x7'.2 else x6'.1) ≤ (if x9'.2 < x8'.1 then x9'.2 else x8'.1)), 0))
    else (bif (r1' != 0) then some (false, r1')
      else (idx sheets0 i1).bind fun x10' =>
        (idx sheets0 j2).bind fun x11' =>
        (idx sheets0 j2).bind fun x12' =>
        (idx sheets0 i1).bind fun x13' =>
        some (decide ((if x11'.2 < x10'.1 then x11'.2 else x10'.1) ≤ (if x13'.2 < x12'.1 then x13'.2 else x12'.1)), 0))) := by kernel_rfl
theorem S34_run (n : Nat × Nat) (xs : pksDen pk34) : S34 n xs.1 xs.2.1 xs.2.2.1 = runG (E34 n) noScope c34 an34 (rtG rk34) (fun _ _ => none) (rtG rk34) (st0 pk34 xs Try.f34.ntmps) := by kernel_rfl
noncomputable def P34 (n : Nat × Nat) := phiOf pk34 rk34 (fun xs => S34 n xs.1 xs.2.1 xs.2.2.1)
theorem call34 : CallOK Try.prog 34 := callOK_of Try.func34 (by kernel_rfl) (by kernel_rfl)
theorem env34 (n : Nat × Nat) : EnvOK Try.prog (E34 n) := envOK0 (consPhi_ok (FC26 n) call26 (consPhi_ok (FC68 n) call68 noPhi_ok)) rfl rfl
theorem par34 (n : Nat × Nat) : EnvPar (E34 n) := envPar0 (consPhi_par phiOf_Par1 (consPhi_par phiOf_Par1 noPhi_par)) rfl
theorem FC34 (n : Nat × Nat) : FCs Try.prog 34 (P34 n) := phiOf_FCs fun xs r h vs hv => FC.of_runG tabOK eqsOK (env34 n) (par34 n) mixed (fun _ => noScope_ok) Try.func34 (c := c34) (an := an34) (pks := pk34) (rks := rk34) (by kernel_rfl) (by kernel_rfl) hv ((S34_run n xs).symm.trans h)
end Go.Proofs.Ytnlbhjmbaedadaa
set_option linter.unusedVariables false
set_option linter.unusedSimpArgs false
set_option maxRecDepth 100000
namespace Go.Proofs.Ytnlbhjmbaedadaa
open Go.Vi
/-D 34 -/
noncomputable def D34 (n : Nat × Nat) (sheets0 : List (Int × Int)) (i1 : Int) (j2 : Int) : Option R34 :=
    (D26 n sheets0).bind fun r1' =>
    ((bif ((r1' == 0) == true) then (D68 n i1 0 (wr .i64 ((sheets0.length : Int) - 1))).bind fun r2' =>
        ((bif ((!r2') == false) then (D68 n j2 0 (wr .i64 ((sheets0.length : Int) - 1))).bind fun r3' =>
            some (!r3')
          else some true)).bind fun b4' =>
        some b4'
      else some false)).bind fun b5' =>
    (bif b5' then (bif (2 != 0) then some (false, 2)
      else (idx sheets0 i1).bind fun x6' =>
        (idx sheets0 j2).bind fun x7' =>
        (idx sheets0 j2).bind fun x8' =>
        (idx sheets0 i1).bind fun x9' =>
        some (decide ((if x7'.2 < x6'.1 then x7'.2 else x6'.1) ≤ (if x9'.2 < x8'.1 then x9'.2 else x8'.1)), 0))
    else (bif (r1' != 0) then some (false, r1')
      else (idx sheets0 i1).bind fun x10' =>
        (idx sheets0 j2).bind fun x11' =>
        (idx sheets0 j2).bind fun x12' =>
        (idx sheets0 i1).bind fun x13' =>
        some (decide ((if x11'.2 < x10'.1 then x11'.2 else x10'.1) ≤ (if x13'.2 < x12'.1 then x13'.2 else x12'.1)), 0)))
theorem S34_D (n : Nat × Nat) (hn : n.2 = 1) : S34 n = D34 n := by
  funext sheets0 i1 j2; refine (S34_eq n sheets0 i1 j2).trans ?_
  unfold D34
  (try simp only [S26_D n hn, S68_D n hn]) <;> first | with_reducible rfl | rfl
end Go.Proofs.Ytnlbhjmbaedadaa
/-
  Sheets: bounds, which sheet may go before another one, turned sheets: both sides.
-/
set_option linter.unusedVariables false
set_option linter.unusedSimpArgs false
namespace Go.Proofs.Ytnlbhjmbaedadaa
open Go.Vi

theorem min_if (a b : Int) : (if b < a then b else a) = min a b := by
  by_cases h : b < a
  · rw [if_pos h, Int.min_eq_right (by omega)]
  · rw [if_neg h, Int.min_eq_left (by omega)]
theorem ct_bnd {m h : Int} {s : Int × Int} (hs : Ok s) : 0 ≤ ct m h s ∧ ct m h s ≤ 50 := by
  unfold Ok at hs
  unfold ct hr
  split <;> (try split) <;> omega
theorem cs_bnd {m h : Int} : ∀ {l : List (Int × Int)}, (∀ s ∈ l, Ok s) → 0 ≤ cs m h l ∧ cs m h l ≤ 50 * l.length
  | [], _ => by simp [cs]
  | s :: l, hl => by
    have := cs_bnd (m := m) (h := h) (l := l) (fun s hs => hl s (by simp [hs]))
    have := ct_bnd (m := m) (h := h) (hl s (by simp))
    simp only [cs, List.length_cons]
    omega
theorem hr_bnd {m : Int} {s : Int × Int} (hs : Ok s) : 0 ≤ hr m s ∧ hr m s ≤ 50 := by
  unfold Ok at hs
  unfold hr
  split <;> omega
theorem bound_loop (n : Nat × Nat) (l : List (Int × Int)) (hl : l.length ≤ 7) (hb : ∀ s ∈ l, Ok s) (mc : Int) (hm : mc = 0 ∨ mc = 1) (j : Int) (hj : 0 ≤ j ∧ j < l.length) : ∀ (m k : Nat) (v : Int), k ≤ l.length → l.length - k < m → 0 ≤ v → v ≤ 1000 + 50 * k →
    DL75_1 n m j v (l.length : Int) (k : Int) (l.map (hr mc)) (l.map (hr (1 - mc))) = some (v + cs mc (hr mc (sh l j)) (l.drop k))
  | 0, k, v, _, h, _, _ => by omega
  | m + 1, k, v, hk, h, v0, v1 => by
    rw [DL75_1_succ]
    unfold DF75_1
    by_cases hlt : k < l.length
    · have ho := hb _ (List.getElem_mem hlt)
      have hcb := ct_bnd (m := mc) (h := hr mc (sh l j)) ho
      have ih := bound_loop n l hl hb mc hm j hj m (k + 1) (v + ct mc (hr mc (sh l j)) l[k]) (by omega) (by omega) (by omega) (by omega)
      have hj2 : ∀ w : Int, DL75_2 n (DL75_1 n m) j w (l.length : Int) (k : Int) (l.map (hr mc)) (l.map (hr (1 - mc))) = DL75_1 n m j w (l.length : Int) (wr .i64 ((k : Int) + 1)) (l.map (hr mc)) (l.map (hr (1 - mc))) := fun w => rfl
      have ej : idx (l.map (hr mc)) j = some (hr mc (sh l j)) := by
        rw [idx_int (k := j.toNat) (by omega) (by simp; omega)]
        simp [sh, show j.toNat < l.length by omega]
      have ij : inB j (l.map (hr mc)).length = true := by
        rw [show j = ((j.toNat : Nat) : Int) by omega]
        exact inB_nat (by simp; omega)
      rw [dlt_t hlt, cond_true, inB_nat (by simpa using hlt), cond_true, idx_nat (by simpa using hlt), Option.bind_some, ij, cond_true, ej, Option.bind_some, inB_nat (by simpa using hlt), cond_true, idx_nat (by simpa using hlt), Option.bind_some, cond_true, Option.bind_some, hj2, hj2, wr_succ (by omega), drop_cons hlt]
      simp only [List.getElem_map, cs]
      by_cases c : hr mc l[k] < hr mc (sh l j)
      · have e : ct mc (hr mc (sh l j)) l[k] = min (hr mc l[k]) (hr (1 - mc) l[k]) := by
          unfold ct
          rw [if_pos c]
          rcases hm with e | e <;> subst e
          · rfl
          · rw [Int.min_comm]; rfl
        rw [decide_eq_true c, cond_true, min_if, ← e, wr_ok (by omega) (by omega), ih]
        congr 1
        omega
      · have e : ct mc (hr mc (sh l j)) l[k] = hr (1 - mc) l[k] := by
          unfold ct
          rw [if_neg c]
        rw [decide_eq_false c, cond_false, ← e, wr_ok (by omega) (by omega), ih]
        congr 1
        omega
    · rw [dlt_f hlt, cond_false, List.drop_of_length_le (by omega)]
      simp [cs]
def bd (l : List (Int × Int)) (m k : Int) : Int := bnd l m (hr m (sh l k))
theorem bd_bnd {l : List (Int × Int)} (hg : Good l) {m k : Int} (hk : 0 ≤ k ∧ k < l.length) : 0 ≤ bd l m k ∧ bd l m k ≤ 1000 := by
  have h1 := cs_bnd (m := m) (h := hr m (sh l k)) hg.ok
  have h2 := hr_bnd (m := m) (hg.ok _ (sh_mem hk.1 hk.2))
  have := hg.len
  unfold bd bnd
  omega
theorem bound_eq {n : Nat × Nat} (hn : 1000 ≤ n.1) {l : List (Int × Int)} (hg : Good l) {m k : Int} (hm : m = 0 ∨ m = 1) (hk : 0 ≤ k ∧ k < l.length) : D75 n l m k = some (bd l m k) := by
  have h7 := hg.len
  have ej : idx (l.map (hr m)) k = some (hr m (sh l k)) := by
    rw [idx_int (k := k.toNat) (by omega) (by simp; omega)]
    simp [sh, show k.toNat < l.length by omega]
  have ij : inB k (l.map (hr m)).length = true := by
    rw [show k = ((k.toNat : Nat) : Int) by omega]
    exact inB_nat (by simp; omega)
  have hb := hr_bnd (m := m) (hg.ok _ (sh_mem hk.1 hk.2))
  unfold D75
  rw [wr_ok (by omega) (by omega), all_eq hn hm (by omega), Option.bind_some, all_eq hn (by omega) (by omega), Option.bind_some, ij, cond_true, ej, Option.bind_some]
  have := bound_loop n l h7 hg.ok m hm k hk n.1 0 (hr m (sh l k)) (by omega) (by omega) (by omega) (by omega)
  simpa [bd, bnd] using this
theorem needs_eq (n : Nat × Nat) {m : Int} (s : Int × Int) : D91 n s m = some (hr m s) := by
  unfold D91 hr
  by_cases h : m = 0
  · simp [h]
  · rw [show (m == 0) = false by simpa using h, cond_false, if_neg h]
theorem rbound_loop (n : Nat × Nat) (l : List (Int × Int)) (hl : l.length ≤ 7) (hb : ∀ s ∈ l, Ok s) (mc : Int) (hm : mc = 0 ∨ mc = 1) (h : Int) : ∀ (m k : Nat) (v : Int), k ≤ l.length → l.length - k < m → 0 ≤ v → v ≤ 1000 + 50 * k →
    DL76_1 n m l mc h v (k : Int) = some (v + cs mc h (l.drop k))
  | 0, k, v, _, h, _, _ => by omega
  | m + 1, k, v, hk, h', v0, v1 => by
    rw [DL76_1_succ]
    unfold DF76_1
    by_cases hlt : k < l.length
    · have ho := hb _ (List.getElem_mem hlt)
      have hcb := ct_bnd (m := mc) (h := h) ho
      have ih := rbound_loop n l hl hb mc hm h m (k + 1) (v + ct mc h l[k]) (by omega) (by omega) (by omega) (by omega)
      have hj2 : ∀ w : Int, DL76_2 n (DL76_1 n m) l mc h w (k : Int) = DL76_1 n m l mc h w (wr .i64 ((k : Int) + 1)) := fun w => rfl
      rw [dlt_t hlt, cond_true, idx_nat hlt, drop_cons hlt]
      simp only [Option.bind_some, needs_eq, hj2, wr_succ (show k < 1000000 by omega), cs, wr_ok (x := 1 - mc) (by omega) (by omega)]
      by_cases c : hr mc l[k] < h
      · have e : ct mc h l[k] = min l[k].1 l[k].2 := by
          unfold ct
          rw [if_pos c]
        rw [decide_eq_true c, cond_true, min_if, ← e, wr_ok (by omega) (by omega), ih]
        congr 1
        omega
      · have e : ct mc h l[k] = hr (1 - mc) l[k] := by
          unfold ct
          rw [if_neg c]
        rw [decide_eq_false c, cond_false, ← e, wr_ok (by omega) (by omega), ih]
        congr 1
        omega
    · rw [dlt_f hlt, cond_false, List.drop_of_length_le (by omega)]
      simp [cs]
theorem rbound_eq {n : Nat × Nat} (hn : 1000 ≤ n.1) {l : List (Int × Int)} (hg : Good l) {m k : Int} (hm : m = 0 ∨ m = 1) (hk : 0 ≤ k ∧ k < l.length) : D76 n l m k = some (bd l m k) := by
  have hb := hr_bnd (m := m) (hg.ok _ (sh_mem hk.1 hk.2))
  have h7 := hg.len
  unfold D76
  rw [idx_sh hk.1 hk.2]
  simp only [Option.bind_some, needs_eq]
  have := rbound_loop n l hg.len hg.ok m hm (hr m (sh l k)) n.1 0 (hr m (sh l k)) (by omega) (by omega) (by omega) (by omega)
  simpa [bd, bnd] using this

def boundS (l : List (Int × Int)) (m k : Int) : Int × Int := if chk l ≠ 0 then (0, chk l) else if (m = 0 ∨ m = 1) ∧ 0 ≤ k ∧ k < l.length then (bd l m k, 0) else (0, 2)
theorem Bound_eq {n : Nat × Nat} (hn : 1000 ≤ n.1) (l : List (Int × Int)) (m k : Int) : D35 n l m k = some (boundS l m k) := by
  unfold D35 boundS
  rw [chk_eq hn, Option.bind_some]
  by_cases h : chk l = 0
  · rw [show (chk l != 0) = false by simp [h], cond_false, if_neg (by simpa using h)]
    by_cases c : (m = 0 ∨ m = 1) ∧ 0 ≤ k ∧ k < l.length
    · rw [if_pos c, decide_eq_false (show ¬ m < 0 by omega), decide_eq_false (show ¬ m > 1 by omega), decide_eq_false (show ¬ k < 0 by omega), decide_eq_false (show ¬ k ≥ (l.length : Int) by omega)]
      simp only [beq_self_eq_true, cond_true, cond_false, Option.bind_some, bound_eq hn (chk_good.1 h) c.1 c.2]
    · rw [if_neg c]
      by_cases a : m < 0
      · simp [a]
      by_cases b : m > 1
      · simp [a, b]
      by_cases d : k < 0
      · simp [a, b, d]
      simp [a, b, d, show (l.length : Int) ≤ k by omega]
  · rw [show (chk l != 0) = true by simpa using h, cond_true, if_pos h]
theorem rBound_eq {n : Nat × Nat} (hn : 1000 ≤ n.1) (l : List (Int × Int)) (m k : Int) : D36 n l m k = some (boundS l m k) := by
  unfold D36 boundS
  rw [chkr_eq hn, Option.bind_some]
  by_cases h : chk l = 0
  · have hg := chk_good.1 h
    have h7 := hg.len
    rw [h, if_neg (by simp), wr_ok (by omega) (by omega)]
    simp only [beq_self_eq_true, cond_true, in_eq, Option.bind_some]
    by_cases c : (m = 0 ∨ m = 1) ∧ 0 ≤ k ∧ k < l.length
    · rw [if_pos c, decide_eq_true (show 0 ≤ m by omega), decide_eq_true (show m ≤ 1 by omega), decide_eq_true (show 0 ≤ k by omega), decide_eq_true (show k ≤ (l.length : Int) - 1 by omega), rbound_eq hn hg c.1 c.2]
      rfl
    · rw [if_neg c]
      by_cases a : 0 ≤ m <;> by_cases b : m ≤ 1 <;> by_cases d : 0 ≤ k <;> by_cases e : k ≤ (l.length : Int) - 1 <;> first | (exfalso; omega) | (simp [a, b, d, e])
  · rw [show (chk l == 0) = false by simpa using h, show (chk l != 0) = true by simpa using h, if_pos h]
    rfl

def goesS (l : List (Int × Int)) (i j : Int) : Bool × Int := if chk l ≠ 0 then (false, chk l) else if (0 ≤ i ∧ i < l.length) ∧ 0 ≤ j ∧ j < l.length then (decide (min (sh l i).1 (sh l j).2 ≤ min (sh l j).1 (sh l i).2), 0) else (false, 2)
theorem Goes_eq {n : Nat × Nat} (hn : 1000 ≤ n.1) (l : List (Int × Int)) (i j : Int) : D33 n l i j = some (goesS l i j) := by
  unfold D33 goesS
  rw [chk_eq hn, Option.bind_some]
  by_cases h : chk l = 0
  · rw [show (chk l != 0) = false by simp [h], cond_false, if_neg (show ¬ chk l ≠ 0 by simpa using h), min_if, max_if]
    by_cases c : (0 ≤ i ∧ i < l.length) ∧ 0 ≤ j ∧ j < l.length
    · rw [if_pos c, decide_eq_false (show ¬ min i j < 0 by omega), decide_eq_false (show ¬ max i j ≥ (l.length : Int) by omega), idx_sh c.1.1 c.1.2, idx_sh c.2.1 c.2.2]
      simp only [beq_self_eq_true, cond_true, cond_false, Option.bind_some, min_if]
    · rw [if_neg c]
      by_cases a : min i j < 0
      · rw [decide_eq_true a]; rfl
      · rw [decide_eq_false a, decide_eq_true (show max i j ≥ (l.length : Int) by omega)]; rfl
  · rw [show (chk l != 0) = true by simpa using h, cond_true, if_pos h]
theorem rGoes_eq {n : Nat × Nat} (hn : 1000 ≤ n.1) (l : List (Int × Int)) (i j : Int) : D34 n l i j = some (goesS l i j) := by
  unfold D34 goesS
  rw [chkr_eq hn, Option.bind_some]
  by_cases h : chk l = 0
  · have hg := chk_good.1 h
    have h7 := hg.len
    rw [h, if_neg (by simp), wr_ok (by omega) (by omega)]
    simp only [beq_self_eq_true, cond_true, in_eq, Option.bind_some]
    by_cases c : (0 ≤ i ∧ i < l.length) ∧ 0 ≤ j ∧ j < l.length
    · rw [if_pos c, decide_eq_true (show 0 ≤ i by omega), decide_eq_true (show i ≤ (l.length : Int) - 1 by omega), decide_eq_true (show 0 ≤ j by omega), decide_eq_true (show j ≤ (l.length : Int) - 1 by omega), idx_sh c.1.1 c.1.2, idx_sh c.2.1 c.2.2]
      simp only [Option.bind_some, min_if]
      rfl
    · rw [if_neg c]
      by_cases a : 0 ≤ i <;> by_cases b : i ≤ (l.length : Int) - 1 <;> by_cases d : 0 ≤ j <;> by_cases e : j ≤ (l.length : Int) - 1 <;> first | (exfalso; omega) | (simp [a, b, d, e])
  · rw [show (chk l == 0) = false by simpa using h, show (chk l != 0) = true by simpa using h, if_pos h]
    rfl

def turnS (l : List (Int × Int)) : List (Int × Int) × Int := if chk l ≠ 0 then ([], chk l) else (tu l 0, 0)
theorem rturn_loop (n : Nat × Nat) (l : List (Int × Int)) (hl : l.length ≤ 7) : ∀ (m k : Nat), k ≤ l.length → k < m → DL40_1 n m l ((k : Int) - 1) (tu l k) = some (tu l 0, 0)
  | 0, k, _, h => by omega
  | m + 1, k, hk, h => by
    rw [DL40_1_succ]
    unfold DF40_1
    by_cases hz : k = 0
    · subst hz
      rw [decide_eq_false (by omega), cond_false]
    · have hlt : k - 1 < l.length := by omega
      have ih := rturn_loop n l hl m (k - 1) (by omega) (by omega)
      have hs := tu_step l (k - 1) hlt
      rw [show k - 1 + 1 = k by omega] at hs
      rw [decide_eq_true (by omega), cond_true, show (k : Int) - 1 = ((k - 1 : Nat) : Int) by omega, idx_nat hlt]
      simp only [Option.bind_some]
      rw [lim_dec (by rw [tu_len]; omega), cond_true, wr_ok (by omega) (by omega), ← hs, ih]
theorem rTurn_eq {n : Nat × Nat} (hn : 1000 ≤ n.1) (l : List (Int × Int)) : D40 n l = some (turnS l) := by
  unfold D40 turnS
  rw [chkr_eq hn, Option.bind_some]
  by_cases h : chk l = 0
  · have h7 := (chk_good.1 h).len
    rw [show (chk l != 0) = false by simp [h], cond_false, if_neg (by simpa using h), wr_ok (by omega) (by omega)]
    have := rturn_loop n l h7 n.1 l.length (by omega) (by omega)
    rwa [tu_all] at this
  · rw [show (chk l != 0) = true by simpa using h, cond_true, if_pos h]
theorem Turn_eq {n : Nat × Nat} (hn : 1000 ≤ n.1) (l : List (Int × Int)) : D39 n l = some (turnS l) := by
  unfold D39 HF39 turnS
  rw [chk_eq hn, Option.bind_some]
  by_cases h : chk l = 0
  · have h7 := (chk_good.1 h).len
    rw [show (chk l != 0) = false by simp [h], cond_false, if_neg (by simpa using h)]
    have := (chk_good.1 h).pos
    rw [decide_eq_true (show 0 < l.length by omega), decide_eq_true (show l.length ≤ 1000000 by omega)]
    rfl
  · rw [show (chk l != 0) = true by simpa using h, cond_true, if_pos h]

def provesS (l : List (Int × Int)) (o : List Int) (m k : Int) : Int :=
  if (put l o).2 ≠ 0 then (put l o).2 else if (boundS l m k).2 ≠ 0 then (boundS l m k).2 else if (boundS l m k).1 = tm 0 0 (pk l o) then 0 else 14
theorem Proves_eq {n : Nat × Nat} (hn : 1000 ≤ n.1) {o : List Int} (hs : o.length < 800) (l : List (Int × Int)) (m k : Int) : D41 n l o m k = some (provesS l o m k) := by
  unfold D41 provesS
  rw [put_eq hn hs, Option.bind_some]
  by_cases h : (put l o).2 = 0
  · obtain ⟨hg, ho⟩ := put_zero.1 h
    rw [show ((put l o).2 != 0) = false by simp [h], cond_false, if_neg (by simpa using h), put_ord hg ho, Bound_eq hn, Option.bind_some]
    by_cases h2 : (boundS l m k).2 = 0
    · rw [show ((boundS l m k).2 != 0) = false by simp [h2], cond_false, if_neg (by simpa using h2), time_eq hn (ord_pk hg ho).1 (ord_pk hg ho).2 (pk_ok hg ho), Option.bind_some]
      by_cases e : (boundS l m k).1 = tm 0 0 (pk l o)
      · rw [if_pos e, e]; simp
      · rw [if_neg e, show ((boundS l m k).1 != tm 0 0 (pk l o)) = true by simpa using e, cond_true]
    · rw [show ((boundS l m k).2 != 0) = true by simpa using h2, cond_true, if_pos h2]
  · rw [show ((put l o).2 != 0) = true by simpa using h, cond_true, if_pos h]
theorem rProves_eq {n : Nat × Nat} (hn : 1000 ≤ n.1) {o : List Int} (hs : o.length < 800) (l : List (Int × Int)) (m k : Int) : D42 n l o m k = some (provesS l o m k) := by
  unfold D42 provesS
  rw [ordered_eq hn hs, Option.bind_some]
  by_cases h : (put l o).2 = 0
  · obtain ⟨hg, ho⟩ := put_zero.1 h
    rw [show ((put l o).2 != 0) = false by simp [h], cond_false, if_neg (by simpa using h), rBound_eq hn, Option.bind_some]
    by_cases h2 : (boundS l m k).2 = 0
    · rw [show ((boundS l m k).2 == 0) = true by simpa using h2, if_neg (by simpa using h2), rtime_eq hn hg ho]
      simp only [beq_self_eq_true, cond_true, Option.bind_some]
      by_cases e : (boundS l m k).1 = tm 0 0 (pk l o)
      · rw [if_pos e, e]; simp [h2]
      · rw [if_neg e, show ((boundS l m k).1 != tm 0 0 (pk l o)) = true by simpa using e, cond_true]
    · rw [show ((boundS l m k).2 == 0) = false by simpa using h2, if_pos h2]
      simp only [show (false == true) = false from rfl, cond_false, Option.bind_some]
  · rw [show ((put l o).2 != 0) = true by simpa using h, cond_true, if_pos h]
end Go.Proofs.Ytnlbhjmbaedadaa
/-
  Sheets: the first bound that is the time of the best orders: both sides; the law PressBounds.
-/
set_option linter.unusedVariables false
set_option linter.unusedSimpArgs false
namespace Go.Proofs.Ytnlbhjmbaedadaa
open Go.Vi

def pr1 (m : Int) (k : Nat) : List (Int × Int) := (ix k).map fun i => (m, i)
theorem pr1_succ (m : Int) (k : Nat) : pr1 m (k + 1) = pr1 m k ++ [(m, (k : Int))] := by
  unfold pr1
  rw [ix_succ, List.map_append]
  rfl
def fst (l : List (Int × Int)) (t : Int) (P : List (Int × Int)) : Option (Int × Int) := P.find? fun p => decide (bd l p.1 p.2 = t)
theorem fst_some {l : List (Int × Int)} {t : Int} {P : List (Int × Int)} {p : Int × Int} (h : fst l t P = some p) : bd l p.1 p.2 = t ∧ p ∈ P :=
  ⟨by simpa using List.find?_some h, List.mem_of_find?_eq_some h⟩
theorem fst_none {l : List (Int × Int)} {t : Int} {P : List (Int × Int)} (h : ∀ p ∈ P, bd l p.1 p.2 ≠ t) : fst l t P = none := by
  unfold fst
  rw [List.find?_eq_none]
  intro p hp
  simpa using h p hp
theorem fst_append {l : List (Int × Int)} {t : Int} {P Q : List (Int × Int)} : fst l t (P ++ Q) = (fst l t P).or (fst l t Q) := List.find?_append
theorem fst_one (l : List (Int × Int)) (t : Int) (p : Int × Int) : fst l t [p] = if bd l p.1 p.2 = t then some p else none := by
  unfold fst
  by_cases e : bd l p.1 p.2 = t
  · rw [if_pos e]; simp [e]
  · rw [if_neg e]; simp [e]
def Inv (l P : List (Int × Int)) (b m k : Int) : Prop := (∀ p ∈ P, bd l p.1 p.2 ≤ b) ∧ (P = [] ∧ b = -1 ∨ fst l b P = some (m, k))
theorem Inv.step {l P : List (Int × Int)} {b m k : Int} (h : Inv l P b m k) {p : Int × Int} (h0 : 0 ≤ bd l p.1 p.2) : Inv l (P ++ [p]) (if bd l p.1 p.2 > b then bd l p.1 p.2 else b) (if bd l p.1 p.2 > b then p.1 else m) (if bd l p.1 p.2 > b then p.2 else k) := by
  obtain ⟨h1, h2⟩ := h
  by_cases c : bd l p.1 p.2 > b
  · rw [if_pos c, if_pos c, if_pos c]
    refine ⟨fun q hq => ?_, .inr ?_⟩
    · rcases List.mem_append.1 hq with hq | hq
      · have := h1 q hq; omega
      · rw [List.mem_singleton] at hq; subst hq; omega
    · rw [fst_append, fst_none (P := P) (fun q hq => by have := h1 q hq; omega), fst_one, if_pos rfl]
      rfl
  · rw [if_neg c, if_neg c, if_neg c]
    refine ⟨fun q hq => ?_, ?_⟩
    · rcases List.mem_append.1 hq with hq | hq
      · exact h1 q hq
      · rw [List.mem_singleton] at hq; subst hq; omega
    · rcases h2 with ⟨_, e⟩ | h2
      · omega
      · exact .inr (by rw [fst_append, h2]; rfl)
theorem prove_loop (n : Nat × Nat) (hn : 1000 ≤ n.1) {l : List (Int × Int)} (hg : Good l) {mc : Int} (hm : mc = 0 ∨ mc = 1) (f : List (Int × Int) → Int → Int → Int → Int → Option R37) (P0 : List (Int × Int)) : ∀ (m k : Nat) (a b c : Int), k ≤ l.length → l.length - k < m → Inv l (P0 ++ pr1 mc k) c a b →
    ∃ a' b' c', Inv l (P0 ++ pr1 mc l.length) c' a' b' ∧ DL37_2 n f m l a b c mc mc (l.length : Int) (k : Int) = f l a' b' c' (wr .i64 (mc + 1))
  | 0, k, a, b, c, _, h, _ => by omega
  | m + 1, k, a, b, c, hk, h, hi => by
    have h7 := hg.len
    rw [DL37_2_succ]
    unfold DF37_2
    by_cases hlt : k < l.length
    · have hj3 : ∀ a b c : Int, DL37_3 n f (DL37_2 n f m) l a b c mc mc (l.length : Int) (k : Int) = DL37_2 n f m l a b c mc mc (l.length : Int) (wr .i64 ((k : Int) + 1)) := fun a b c => rfl
      have hb := bd_bnd hg (m := mc) (k := (k : Int)) ⟨by omega, by omega⟩
      have st := hi.step (p := (mc, (k : Int))) hb.1
      rw [List.append_assoc, ← pr1_succ] at st
      rw [dlt_t hlt, cond_true, bound_eq hn hg hm ⟨by omega, by omega⟩, Option.bind_some, hj3, hj3, wr_succ (by omega)]
      by_cases g : bd l mc (k : Int) > c
      · rw [decide_eq_true g, cond_true]
        simp only [if_pos g] at st
        exact prove_loop n hn hg hm f P0 m (k + 1) _ _ _ (by omega) (by omega) st
      · rw [decide_eq_false g, cond_false]
        simp only [if_neg g] at st
        exact prove_loop n hn hg hm f P0 m (k + 1) _ _ _ (by omega) (by omega) st
    · have : k = l.length := by omega
      subst this
      rw [dlt_f hlt, cond_false]
      exact ⟨a, b, c, hi, rfl⟩
/-- All machines and sheets; the time of the best orders. -/
def prs (l : List (Int × Int)) : List (Int × Int) := pr1 0 l.length ++ pr1 1 l.length
def best (l : List (Int × Int)) : Int := tm 0 0 (pk l (rl l))
theorem prs_mem {l : List (Int × Int)} {p : Int × Int} : p ∈ prs l ↔ (p.1 = 0 ∨ p.1 = 1) ∧ 0 ≤ p.2 ∧ p.2 < l.length := by
  unfold prs pr1
  rw [List.mem_append, List.mem_map, List.mem_map]
  constructor
  · rintro (⟨i, hi, e⟩ | ⟨i, hi, e⟩) <;> rw [ix_mem] at hi <;> subst e
    · exact ⟨.inl rfl, hi⟩
    · exact ⟨.inr rfl, hi⟩
  · rintro ⟨h | h, h'⟩
    · exact .inl ⟨p.2, ix_mem.2 h', by rw [← h]⟩
    · exact .inr ⟨p.2, ix_mem.2 h', by rw [← h]⟩
theorem bd_le {l : List (Int × Int)} (hg : Good l) {p : Int × Int} (hp : p ∈ prs l) : bd l p.1 p.2 ≤ best l := by
  obtain ⟨hm, hk⟩ := prs_mem.1 hp
  exact bnd_le (rl_ord l) hm (sh_mem hk.1 hk.2)
theorem bd_ex {l : List (Int × Int)} (hg : Good l) : ∃ p ∈ prs l, bd l p.1 p.2 = best l := by
  obtain ⟨m, s, hm, hs, e⟩ := johnson hg
  obtain ⟨k, hk, e'⟩ := List.getElem_of_mem hs
  refine ⟨(m, (k : Int)), prs_mem.2 ⟨hm, by omega, by omega⟩, ?_⟩
  unfold best bd
  rw [e, ← e']
  simp [sh, hk]
theorem fst_best {l : List (Int × Int)} (hg : Good l) : ∃ p, fst l (best l) (prs l) = some p := by
  obtain ⟨p, hp, e⟩ := bd_ex hg
  cases h : fst l (best l) (prs l) with
  | some q => exact ⟨q, rfl⟩
  | none =>
    unfold fst at h
    rw [List.find?_eq_none] at h
    exact absurd (decide_eq_true e) (h p hp)
theorem Inv.best {l : List (Int × Int)} (hg : Good l) {b m k : Int} (h : Inv l (prs l) b m k) : fst l (best l) (prs l) = some (m, k) := by
  obtain ⟨p, hp, e⟩ := bd_ex hg
  obtain ⟨h1, h2⟩ := h
  rcases h2 with ⟨h2, _⟩ | h2
  · rw [h2] at hp; simp at hp
  · have := fst_some h2
    have c1 := bd_le hg this.2
    have c2 := h1 p hp
    have : b = Go.Proofs.Ytnlbhjmbaedadaa.best l := by omega
    rwa [this] at h2
def proveS (l : List (Int × Int)) : Int × Int × Int := if chk l ≠ 0 then (0, 0, chk l) else match fst l (best l) (prs l) with | some p => (p.1, p.2, 0) | none => (0, 0, 14)
theorem Prove_eq {n : Nat × Nat} (hn : 1000 ≤ n.1) (l : List (Int × Int)) : D37 n l = some (proveS l) := by
  unfold D37 proveS
  rw [chk_eq hn, Option.bind_some]
  by_cases h : chk l = 0
  · have hg := chk_good.1 h
    have h7 := hg.len
    rw [show (chk l != 0) = false by simp [h], cond_false, if_neg (by simpa using h)]
    obtain ⟨k, hk⟩ : ∃ k, n.1 = k + 3 := ⟨n.1 - 3, by omega⟩
    have e1 : ∀ a b c, DL37_1 n (k + 1) l a b c 2 = some (a, b, 0) := fun a b c => rfl
    obtain ⟨a, b, c, i1, e2⟩ := prove_loop n hn hg (.inl rfl) (DL37_1 n (k + 2)) [] n.1 0 0 0 (-1) (by omega) (by omega) ⟨fun p hp => by simp [pr1, ix] at hp, .inl ⟨rfl, rfl⟩⟩
    rw [List.nil_append] at i1
    obtain ⟨a', b', c', i2, e3⟩ := prove_loop n hn hg (.inr rfl) (DL37_1 n (k + 1)) (pr1 0 l.length) n.1 0 a b c (by omega) (by omega) (by simpa [pr1, ix] using i1)
    have f1 : DL37_1 n n.1 l 0 0 (-1) 0 = DL37_2 n (DL37_1 n (k + 2)) n.1 l 0 0 (-1) 0 0 (l.length : Int) 0 := by
      rw [hk, DL37_1_succ]; rw [← hk]; rfl
    have f2 : DL37_1 n (k + 2) l a b c 1 = DL37_2 n (DL37_1 n (k + 1)) n.1 l a b c 1 1 (l.length : Int) 0 := by
      rw [DL37_1_succ]; rfl
    rw [show wr .i64 ((0 : Int) + 1) = 1 by rw [wr_ok (by omega) (by omega)]; omega] at e2
    rw [show wr .i64 ((1 : Int) + 1) = 2 by rw [wr_ok (by omega) (by omega)]; omega] at e3
    rw [i2.best hg, f1, ← Int.ofNat_zero]
    refine e2.trans ?_
    rw [f2]
    refine e3.trans ?_
    rw [e1]
    rfl
  · rw [show (chk l != 0) = true by simpa using h, cond_true, if_pos h]
theorem rprove_loop (n : Nat × Nat) (hn : 1000 ≤ n.1) {l : List (Int × Int)} (hg : Good l) {mc : Int} (hm : mc = 0 ∨ mc = 1) (f : List (Int × Int) → Int → List Int → Option R38) : ∀ (m k : Nat), k ≤ l.length → l.length - k < m → fst l (best l) (pr1 mc k) = none →
    DL38_2 n f m l mc (k : Int) (rl l) = match fst l (best l) (pr1 mc l.length) with | some p => some (p.1, p.2, 0) | none => f l (wr .i64 (mc + 1)) (rl l)
  | 0, k, _, h, _ => by omega
  | m + 1, k, hk, h, hi => by
    have h7 := hg.len
    rw [DL38_2_succ]
    unfold DF38_2
    by_cases hlt : k < l.length
    · rw [dlt_t hlt, cond_true, rbound_eq hn hg hm ⟨by omega, by omega⟩, Option.bind_some, rtime_eq hn hg (rl_ord l), Option.bind_some, wr_succ (by omega)]
      by_cases e : bd l mc (k : Int) = best l
      · rw [show (bd l mc (k : Int) == tm 0 0 (pk l (rl l))) = true by simpa [best] using e, cond_true]
        have : fst l (best l) (pr1 mc l.length) = some (mc, (k : Int)) := by
          have hs : fst l (best l) (pr1 mc (k + 1)) = some (mc, (k : Int)) := by
            rw [pr1_succ, fst_append, hi, fst_one, if_pos e]
            rfl
          have ext : ∀ j, k + 1 ≤ j → fst l (best l) (pr1 mc j) = some (mc, (k : Int)) := by
            intro j hj
            induction j with
            | zero => omega
            | succ j ih =>
              by_cases c : k + 1 ≤ j
              · rw [pr1_succ, fst_append, ih c]; rfl
              · rw [show j = k by omega]; exact hs
          exact ext _ (by omega)
        rw [this]
      · rw [show (bd l mc (k : Int) == tm 0 0 (pk l (rl l))) = false by simpa [best] using e, cond_false]
        exact rprove_loop n hn hg hm f m (k + 1) (by omega) (by omega) (by rw [pr1_succ, fst_append, hi, fst_one, if_neg e]; rfl)
    · have : k = l.length := by omega
      subst this
      rw [dlt_f hlt, cond_false, hi]
theorem rProve_eq {n : Nat × Nat} (hn : 1000 ≤ n.1) (l : List (Int × Int)) : D38 n l = some (proveS l) := by
  unfold D38 proveS
  rw [rRule_eq hn, Option.bind_some]
  unfold ruleS
  by_cases h : chk l = 0
  · have hg := chk_good.1 h
    have h7 := hg.len
    rw [if_neg (by simpa using h), if_neg (by simpa using h)]
    simp only [bne_self_eq_false, cond_false]
    obtain ⟨k, hk⟩ : ∃ k, n.1 = k + 3 := ⟨n.1 - 3, by omega⟩
    have e1 := rprove_loop n hn hg (.inl rfl) (DL38_1 n (k + 2)) n.1 0 (by omega) (by omega) rfl
    have e2 := rprove_loop n hn hg (.inr rfl) (DL38_1 n (k + 1)) n.1 0 (by omega) (by omega) rfl
    have f1 : DL38_1 n n.1 l 0 (rl l) = DL38_2 n (DL38_1 n (k + 2)) n.1 l 0 0 (rl l) := by
      rw [hk, DL38_1_succ]; rw [← hk]; rfl
    have f2 : DL38_1 n (k + 2) l 1 (rl l) = DL38_2 n (DL38_1 n (k + 1)) n.1 l 1 0 (rl l) := by
      rw [DL38_1_succ]; rfl
    rw [show wr .i64 ((0 : Int) + 1) = 1 by rw [wr_ok (by omega) (by omega)]; omega] at e1
    rw [f1, ← Int.ofNat_zero]
    refine e1.trans ?_
    unfold prs
    rw [fst_append]
    cases h1 : fst l (best l) (pr1 0 l.length) with
    | some p => rfl
    | none =>
      simp only [Option.none_or]
      rw [f2]
      refine e2.trans ?_
      cases h2 : fst l (best l) (pr1 1 l.length) with
      | some p => rfl
      | none =>
        obtain ⟨p, hp⟩ := fst_best hg
        unfold prs at hp
        rw [fst_append, h1, h2] at hp
        simp at hp
  · rw [if_pos h, if_pos h]
    simp only []
    rw [show (chk l != 0) = true by simpa using h, cond_true]

theorem alike_loop (n : Nat × Nat) (l : List (Int × Int)) (o : List Int) (m x : Int) (r : List (Int × Int)) (a : Int) (e : Int) (c d g : Int) (hs : (tu l 0).length < 1000) (k : List (Int × Int)) (hk : k.length < 1000)
    (hp : D41 n l o m x = some (provesS l o m x)) (hq : D42 n r o m x = some (provesS l o m x)) (hw : D14 n = some true) : ∀ (f j : Nat), j ≤ k.length → k.length - j < f →
    DL5_1 n f l o m x r a e a e c d g c d g (j : Int) k k = some true
  | 0, j, _, h => by omega
  | f + 1, j, hj, h => by
    rw [DL5_1_succ]
    unfold DF5_1
    by_cases hlt : j < k.length
    · rw [dlt_t hlt, cond_true, inB_nat hlt, cond_true, idx_nat hlt, Option.bind_some, cond_true, Option.bind_some, wr_succ (by omega)]
      simp only [beq_self_eq_true, Bool.and_self, Bool.not_true, cond_false]
      exact alike_loop n l o m x r a e c d g hs k hk hp hq hw f (j + 1) (by omega) (by omega)
    · rw [dlt_f hlt, cond_false, hp, hq, hw]
      simp
theorem bounds_ok (l : List (Int × Int)) (o : List Int) (m x : Int) : S5 N l o m x = some true := by
  rw [S5_D N rfl]
  unfold D5
  by_cases h : l.length > 40
  · rw [decide_eq_true (show (l.length : Int) > 40 by omega), works_eq]; rfl
  rw [decide_eq_false (show ¬ (l.length : Int) > 40 by omega)]
  by_cases h' : o.length > 40
  · rw [decide_eq_true (show (o.length : Int) > 40 by omega), works_eq]; rfl
  rw [decide_eq_false (show ¬ (o.length : Int) > 40 by omega)]
  have hs : o.length < 800 := by omega
  have ht : (turnS l).1.length < 900 := by
    unfold turnS
    split
    · simp
    · simp only [tu_len]; omega
  rw [inner_eq hN1 (by omega)]
  simp only [beq_self_eq_true, cond_true, cond_false, Option.bind_some, Bound_eq hN1, rBound_eq hN1, Prove_eq hN1, rProve_eq hN1, Turn_eq hN1, rTurn_eq hN1, bne_self_eq_false]
  exact alike_loop N l o m x l _ _ _ _ _ (by rw [tu_len]; omega) (turnS l).1 (by omega) (Proves_eq hN1 hs l m x) (rProves_eq hN1 hs l m x) works_eq N.1 0 (by omega) (by have : N.1 = 10000 := rfl; omega)
end Go.Proofs.Ytnlbhjmbaedadaa
