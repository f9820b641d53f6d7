/- Texts of this claim, joined: Pd to Pw. -/
import Derived.KernelRfl
import Derived.Test.YtnlbhjmbaedadaaProg
import Derived.WalkKit
import Derived.Test.YtnlbhjmbaedadaaQPressShown1
set_option linter.unusedVariables false
set_option linter.unusedSimpArgs false
namespace Go.Proofs.Ytnlbhjmbaedadaa
open Go.Vi

/-- What sheets need on the first and on the second machine, together. -/
def s1 : List (Int × Int) → Int
  | [] => 0
  | s :: l => s.1 + s1 l
def s2 : List (Int × Int) → Int
  | [] => 0
  | s :: l => s.2 + s2 l
theorem s1_map : ∀ l : List (Int × Int), (l.map (hr 0)).sum = s1 l
  | [] => rfl
  | s :: l => by simp only [List.map_cons, List.sum_cons, s1_map l, s1]; rfl
theorem s2_map : ∀ l : List (Int × Int), (l.map (hr 1)).sum = s2 l
  | [] => rfl
  | s :: l => by simp only [List.map_cons, List.sum_cons, s2_map l, s2]; rfl
theorem s1_append : ∀ l m : List (Int × Int), s1 (l ++ m) = s1 l + s1 m
  | [], m => by simp [s1]
  | s :: l, m => by simp only [List.cons_append, s1, s1_append l m]; omega
theorem s2_append : ∀ l m : List (Int × Int), s2 (l ++ m) = s2 l + s2 m
  | [], m => by simp [s2]
  | s :: l, m => by simp only [List.cons_append, s2, s2_append l m]; omega
theorem s1_bnd : ∀ {l : List (Int × Int)}, (∀ s ∈ l, Ok s) → 0 ≤ s1 l ∧ s1 l ≤ 50 * l.length
  | [], _ => by simp [s1]
  | s :: l, h => by
    have := s1_bnd (l := l) (fun s hs => h s (by simp [hs]))
    have ho := h s (by simp)
    unfold Ok at ho
    simp only [s1, List.length_cons]
    omega
theorem s2_bnd : ∀ {l : List (Int × Int)}, (∀ s ∈ l, Ok s) → 0 ≤ s2 l ∧ s2 l ≤ 50 * l.length
  | [], _ => by simp [s2]
  | s :: l, h => by
    have := s2_bnd (l := l) (fun s hs => h s (by simp [hs]))
    have ho := h s (by simp)
    unfold Ok at ho
    simp only [s2, List.length_cons]
    omega
theorem s2_perm {l m : List (Int × Int)} (h : l.Perm m) : s2 l = s2 m := by
  rw [← s2_map, ← s2_map]
  exact sum_perm (h.map _)
theorem s1_perm {l m : List (Int × Int)} (h : l.Perm m) : s1 l = s1 m := by
  rw [← s1_map, ← s1_map]
  exact sum_perm (h.map _)

/-- The sums of the places: up to a place on the first machine, from it on on the second one. -/
def sms : Int → List (Int × Int) → List Int
  | _, [] => []
  | a, s :: l => (a + s.1 + s.2 + s2 l) :: sms (a + s.1) l
/-- The time of sheets in their order. -/
def tm : Int → Int → List (Int × Int) → Int
  | _, b, [] => b
  | a, b, s :: l => tm (a + s.1) (max (a + s.1) b + s.2) l
theorem sms_len : ∀ (l : List (Int × Int)) (a : Int), (sms a l).length = l.length
  | [], _ => rfl
  | s :: l, a => by simp only [sms, List.length_cons, sms_len l]
theorem tm_sms : ∀ (l : List (Int × Int)) (a b : Int), tm a b l = (sms a l).foldl max (b + s2 l)
  | [], a, b => by simp [tm, sms, s2]
  | s :: l, a, b => by
    simp only [tm, sms, s2, List.foldl_cons]
    rw [tm_sms l]
    congr 1
    omega
theorem tm_cons {s : Int × Int} {l : List (Int × Int)} (hs : 0 ≤ s.1) : tm 0 0 (s :: l) = (sms s.1 l).foldl max (s.1 + s.2 + s2 l) := by
  rw [tm_sms]
  simp only [sms, s2, List.foldl_cons, Int.zero_add]
  congr 1
  omega
theorem tm_enp : ∀ (l : List (Int × Int)) (a b : Int), tm a b l = (enp a b l).getLastD b
  | [], a, b => rfl
  | s :: l, a, b => by
    simp only [tm, enp, List.getLastD_cons]
    exact tm_enp l _ _
theorem sms_get : ∀ {l : List (Int × Int)} {a : Int} {k : Nat} (h : k < l.length), (sms a l)[k]'(by rw [sms_len]; exact h) = a + s1 (l.take (k + 1)) + s2 (l.drop k)
  | [], a, k, h => by simp at h
  | s :: l, a, 0, h => by simp [sms, s1, s2]; omega
  | s :: l, a, k + 1, h => by
    simp only [sms, List.getElem_cons_succ, List.take_succ_cons, List.drop_succ_cons, s1]
    rw [sms_get (by simp at h; omega)]
    omega

theorem sums_loop (n : Nat × Nat) (hn : 1000 ≤ n.1) (l : List (Int × Int)) (hs : l.length < 100) (hb : ∀ s ∈ l, Ok s) : ∀ (m k : Nat), k ≤ l.length → l.length - k < m →
    DL66_1 n m l (l.length : Int) (k : Int) ((sms 0 l).take k) = some (sms 0 l)
  | 0, k, _, h => by omega
  | m + 1, k, hk, h => by
    rw [DL66_1_succ]
    unfold DF66_1
    by_cases hlt : k < l.length
    · have ih := sums_loop n hn l hs hb m (k + 1) (by omega) (by omega)
      have b1 : bounds none (some (((k + 1 : Nat) : Int))) none l.length = true := by simp [bounds]; omega
      have b2 : bounds (some (k : Int)) none none l.length = true := by simp [bounds]; omega
      have hok : ∀ (mc : Int) (x : Int × Int), Ok x → 0 ≤ hr mc x ∧ hr mc x ≤ 1000 := by
        intro mc x h
        unfold Ok at h
        unfold hr
        split <;> omega
      have t1 : D63 n ((l.take (k + 1)).map (hr 0)) = some (s1 (l.take (k + 1))) := by
        rw [total_eq hn (by simp; omega) (fun x hx => ?_), s1_map]
        obtain ⟨y, hy, e⟩ := List.mem_map.1 hx
        rw [← e]
        exact hok 0 y (hb y (List.mem_of_mem_take hy))
      have t2 : D63 n ((l.drop k).map (hr 1)) = some (s2 (l.drop k)) := by
        rw [total_eq hn (by simp; omega) (fun x hx => ?_), s2_map]
        obtain ⟨y, hy, e⟩ := List.mem_map.1 hx
        rw [← e]
        exact hok 1 y (hb y (List.mem_of_mem_drop hy))
      have c1 := s1_bnd (l := l.take (k + 1)) (fun s h => hb s (List.mem_of_mem_take h))
      have c2 := s2_bnd (l := l.drop k) (fun s h => hb s (List.mem_of_mem_drop h))
      rw [List.length_take] at c1
      rw [List.length_drop] at c2
      rw [dlt_t hlt, cond_true, wr_succ (by omega), b1, b2, Int.toNat_natCast, Int.toNat_natCast, cond_true, all_eq hn (.inl rfl) (by simp; omega), Option.bind_some, t1, Option.bind_some, cond_true, all_eq hn (.inr rfl) (by simp; omega), Option.bind_some, t2, Option.bind_some,
        lim_dec (by simp [sms_len]; omega), cond_true, wr_ok (by omega) (by omega), ← ih, take_snoc (l := sms 0 l) (by rw [sms_len]; exact hlt), sms_get hlt, Int.zero_add]
    · rw [dlt_f hlt, cond_false, List.take_of_length_le (by rw [sms_len]; omega)]
theorem sums_eq {n : Nat × Nat} (hn : 1000 ≤ n.1) {l : List (Int × Int)} (hs : l.length < 100) (hb : ∀ s ∈ l, Ok s) : D66 n l = some (sms 0 l) := by
  unfold D66
  exact sums_loop n hn l hs hb n.1 0 (by omega) (by omega)
theorem time_eq {n : Nat × Nat} (hn : 1000 ≤ n.1) {l : List (Int × Int)} (h0 : 0 < l.length) (hs : l.length < 100) (hb : ∀ s ∈ l, Ok s) : D61 n l = some (tm 0 0 l) := by
  unfold D61
  rw [sums_eq hn hs hb, Option.bind_some]
  match l, h0 with
  | s :: l, _ =>
    have ho := hb s (by simp)
    unfold Ok at ho
    rw [tm_cons ho.1]
    simp only [sms, Int.zero_add]
    rw [show inB 0 ((s.1 + s.2 + s2 l) :: sms s.1 l).length = true from inB_nat (k := 0) (by simp), cond_true]
    rw [show idx ((s.1 + s.2 + s2 l) :: sms s.1 l) 0 = some (s.1 + s.2 + s2 l) from rfl, Option.bind_some]
    rw [show bounds (some 1) none none ((s.1 + s.2 + s2 l) :: sms s.1 l).length = true by simp [bounds]; omega, cond_true]
    simp only [Int.toNat_one, Nat.zero_add, List.drop_succ_cons, List.drop_zero, List.length_cons, Nat.add_sub_cancel]
    rw [List.take_of_length_le (Nat.le_refl _), great_eq hn (by rw [sms_len]; simp at hs; omega)]
    rfl
theorem rtime_eq {n : Nat × Nat} (hn : 1000 ≤ n.1) {o : List Int} {l : List (Int × Int)} (hg : Good l) (ho : Ord l.length o) : D62 n l o = some (tm 0 0 (pk l o)) := by
  unfold D62
  rw [rends_eq hn hg ho, Option.bind_some, tm_enp]
  have hlen : ∀ (l : List (Int × Int)) (a b : Int), (enp a b l).length = l.length := by
    intro l
    induction l with
    | nil => intro a b; rfl
    | cons s l ih => intro a b; simp only [enp, List.length_cons, ih]
  have h1 := hlen (pk l o) 0 0
  rw [pk_len, ho.len] at h1
  have hp := hg.pos
  have h7 := hg.len
  generalize enp 0 0 (pk l o) = q at h1 ⊢
  simp only []
  rw [wr_ok (by omega) (by omega), show ((q.length : Int) - 1) = ((q.length - 1 : Nat) : Int) by omega, inB_nat (by omega), cond_true, idx_nat (by omega), Option.bind_some]
  congr 1
  have : q ≠ [] := by intro e; rw [e] at h1; simp at h1; omega
  rw [List.getLastD_eq_getLast?, List.getLast?_eq_getElem?, List.getElem?_eq_getElem (by omega), Option.getD_some]

def timeS (l : List (Int × Int)) (o : List Int) : Int × Int := if (put l o).2 ≠ 0 then (0, (put l o).2) else (tm 0 0 (pk l o), 0)
theorem ord_pk {l : List (Int × Int)} {o : List Int} (hg : Good l) (ho : Ord l.length o) : 0 < (pk l o).length ∧ (pk l o).length < 100 := by
  rw [pk_len, ho.len]
  have := hg.pos
  have := hg.len
  omega
theorem Time_eq {n : Nat × Nat} (hn : 1000 ≤ n.1) {o : List Int} (hs : o.length < 800) (l : List (Int × Int)) : D19 n l o = some (timeS l o) := by
  unfold D19 timeS
  rw [put_eq hn hs, Option.bind_some]
  by_cases h : (put l o).2 = 0
  · obtain ⟨hg, ho⟩ := put_zero.1 h
    rw [show ((put l o).2 != 0) = false by simp [h], cond_false, if_neg (by simpa using h), put_ord hg ho, time_eq hn (ord_pk hg ho).1 (ord_pk hg ho).2 (pk_ok hg ho)]
    rfl
  · rw [show ((put l o).2 != 0) = true by simpa using h, cond_true, if_pos h]
theorem rTime_eq {n : Nat × Nat} (hn : 1000 ≤ n.1) {o : List Int} (hs : o.length < 800) (l : List (Int × Int)) : D20 n l o = some (timeS l o) := by
  unfold D20 timeS
  rw [ordered_eq hn hs, Option.bind_some]
  by_cases h : (put l o).2 = 0
  · obtain ⟨hg, ho⟩ := put_zero.1 h
    rw [show ((put l o).2 != 0) = false by simp [h], cond_false, if_neg (by simpa using h), rtime_eq hn hg ho]
    rfl
  · rw [show ((put l o).2 != 0) = true by simpa using h, cond_true, if_pos h]

theorem foldl_max_mem : ∀ (l : List Int) (a : Int), l.foldl max a = a ∨ l.foldl max a ∈ l
  | [], a => .inl rfl
  | x :: l, a => by
    rw [List.foldl_cons]
    rcases foldl_max_mem l (max a x) with h | h
    · by_cases e : a ≤ x
      · rw [h, Int.max_eq_right e]; exact .inr (by simp)
      · rw [h, Int.max_eq_left (by omega)]; exact .inl rfl
    · exact .inr (List.mem_cons_of_mem _ h)
theorem foldl_max_ge : ∀ (l : List Int) (a : Int), a ≤ l.foldl max a ∧ ∀ x ∈ l, x ≤ l.foldl max a
  | [], a => ⟨Int.le_refl _, fun x h => by simp at h⟩
  | y :: l, a => by
    rw [List.foldl_cons]
    obtain ⟨h1, h2⟩ := foldl_max_ge l (max a y)
    refine ⟨by omega, fun x hx => ?_⟩
    rcases List.mem_cons.1 hx with e | hx
    · subst e; omega
    · exact h2 x hx
/-- The time is one of the sums, and none is greater. -/
theorem tm_mem {l : List (Int × Int)} (h0 : 0 < l.length) (hb : ∀ s ∈ l, Ok s) : tm 0 0 l ∈ sms 0 l := by
  match l, h0 with
  | s :: l, _ =>
    have ho := hb s (by simp)
    unfold Ok at ho
    rw [tm_cons ho.1]
    simp only [sms, Int.zero_add]
    rcases foldl_max_mem (sms s.1 l) (s.1 + s.2 + s2 l) with h | h
    · rw [h]; simp
    · exact List.mem_cons_of_mem _ h
theorem tm_ge {l : List (Int × Int)} (hb : ∀ s ∈ l, Ok s) {x : Int} (hx : x ∈ sms 0 l) : x ≤ tm 0 0 l := by
  rw [tm_sms]
  exact (foldl_max_ge _ _).2 x hx
theorem tm_bnd {l : List (Int × Int)} (hb : ∀ s ∈ l, Ok s) : 0 ≤ tm 0 0 l ∧ tm 0 0 l ≤ 100 * l.length := by
  by_cases h0 : 0 < l.length
  · obtain ⟨k, hk, e⟩ := List.getElem_of_mem (tm_mem h0 hb)
    rw [sms_len] at hk
    rw [sms_get hk] at e
    have c1 := s1_bnd (l := l.take (k + 1)) (fun s h => hb s (List.mem_of_mem_take h))
    have c2 := s2_bnd (l := l.drop k) (fun s h => hb s (List.mem_of_mem_drop h))
    rw [List.length_take] at c1
    rw [List.length_drop] at c2
    omega
  · rw [List.length_eq_zero_iff.1 (by omega : l.length = 0)]
    simp [tm]

def idleS (l : List (Int × Int)) (o : List Int) : Int × Int := if (put l o).2 ≠ 0 then (0, (put l o).2) else (tm 0 0 (pk l o) - s2 l, 0)
theorem Idle_eq {n : Nat × Nat} (hn : 1000 ≤ n.1) {o : List Int} (hs : o.length < 800) (l : List (Int × Int)) : D21 n l o = some (idleS l o) := by
  unfold D21 idleS
  rw [put_eq hn hs, Option.bind_some]
  by_cases h : (put l o).2 = 0
  · obtain ⟨hg, ho⟩ := put_zero.1 h
    have hp := ord_pk hg ho
    have hok := pk_ok hg ho
    rw [show ((put l o).2 != 0) = false by simp [h], cond_false, if_neg (by simpa using h), put_ord hg ho, time_eq hn hp.1 hp.2 hok, Option.bind_some]
    simp only []
    rw [all_eq hn (.inr rfl) (by omega), Option.bind_some, total_eq hn (by simp; omega) (fun x hx => ?_), s2_map, Option.bind_some, s2_perm (pk_perm ho)]
    · have b1 := tm_bnd hok
      have b2 := s2_bnd hg.ok
      have := hg.len
      rw [wr_ok (by omega) (by omega)]
    · obtain ⟨y, hy, e⟩ := List.mem_map.1 hx
      have := hok y hy
      unfold Ok at this
      rw [← e]
      simp only [hr]
      split <;> omega
  · rw [show ((put l o).2 != 0) = true by simpa using h, cond_true, if_pos h]
theorem ridle_loop (n : Nat × Nat) (l : List (Int × Int)) (hs : l.length < 100) (hb : ∀ s ∈ l, Ok s) : ∀ (m k : Nat) (v : Int), k ≤ l.length → l.length - k < m → -10000 + 50 * (l.length - k) ≤ v → v ≤ 100000 →
    DL22_1 n m l v (k : Int) = some (v - s2 (l.drop k), 0)
  | 0, k, v, _, h, _, _ => by omega
  | m + 1, k, v, hk, h, v0, v1 => by
    rw [DL22_1_succ]
    unfold DF22_1
    by_cases hlt : k < l.length
    · have ho := hb _ (List.getElem_mem hlt)
      unfold Ok at ho
      have ih := ridle_loop n l hs hb m (k + 1) (v - l[k].2) (by omega) (by omega) (by omega) (by omega)
      rw [dlt_t hlt, cond_true, idx_nat hlt, wr_succ (by omega), Option.bind_some, wr_ok (by omega) (by omega), ih, drop_cons hlt]
      simp only [s2]
      congr 2
      omega
    · rw [dlt_f hlt, cond_false, List.drop_of_length_le (by omega)]
      simp [s2]
theorem rIdle_eq {n : Nat × Nat} (hn : 1000 ≤ n.1) {o : List Int} (hs : o.length < 800) (l : List (Int × Int)) : D22 n l o = some (idleS l o) := by
  unfold D22 idleS
  rw [ordered_eq hn hs, Option.bind_some]
  by_cases h : (put l o).2 = 0
  · obtain ⟨hg, ho⟩ := put_zero.1 h
    have hp := ord_pk hg ho
    have b1 := tm_bnd (pk_ok hg ho)
    have := hg.len
    rw [show ((put l o).2 != 0) = false by simp [h], cond_false, if_neg (by simpa using h), rtime_eq hn hg ho, Option.bind_some]
    have := ridle_loop n l (by omega) hg.ok n.1 0 (tm 0 0 (pk l o)) (by omega) (by omega) (by omega) (by omega)
    simpa using this
  · rw [show ((put l o).2 != 0) = true by simpa using h, cond_true, if_pos h]

theorem fdo_bnd {v : Int} : ∀ {l : List Int} {k : Int}, v ∈ l → 0 ≤ k → k ≤ fdo v k l ∧ fdo v k l < k + l.length
  | [], k, h, _ => by simp at h
  | x :: l, k, h, h0 => by
    unfold fdo
    by_cases e : v = x
    · rw [if_pos e, List.length_cons]; omega
    · rw [if_neg e, List.length_cons]
      have := fdo_bnd (v := v) (l := l) (k := k + 1) (by simpa [e] using h) (by omega)
      omega
def lastS (l : List (Int × Int)) (o : List Int) : Int × Int := if (put l o).2 ≠ 0 then (0, (put l o).2) else (fdo (tm 0 0 (pk l o)) 0 (sms 0 (pk l o)), 0)
theorem Last_eq {n : Nat × Nat} (hn : 1000 ≤ n.1) {o : List Int} (hs : o.length < 800) (l : List (Int × Int)) : D23 n l o = some (lastS l o) := by
  unfold D23 lastS
  rw [put_eq hn hs, Option.bind_some]
  by_cases h : (put l o).2 = 0
  · obtain ⟨hg, ho⟩ := put_zero.1 h
    have hp := ord_pk hg ho
    have hok := pk_ok hg ho
    rw [show ((put l o).2 != 0) = false by simp [h], cond_false, if_neg (by simpa using h), put_ord hg ho]
    simp only []
    rw [sums_eq hn hp.2 hok, time_eq hn hp.1 hp.2 hok]
    simp only [Option.bind_some]
    rw [index_eq hn (by rw [sms_len]; omega), Option.bind_some]
  · rw [show ((put l o).2 != 0) = true by simpa using h, cond_true, if_pos h]

theorem sum_loop (n : Nat × Nat) (l : List (Int × Int)) (o : List Int) (hs : o.length < 100) (ho : Ord l.length o) (hb : ∀ s ∈ pk l o, Ok s) (p : Nat) (hp : p < o.length) : ∀ (m k : Nat) (v : Int), k ≤ o.length → o.length - k < m → 0 ≤ v → v ≤ 100 * k →
    DL67_1 n m l o (p : Int) v (k : Int) = some (v + s1 (((pk l o).take (p + 1)).drop k) + s2 ((pk l o).drop (max k p)))
  | 0, k, v, _, h, _, _ => by omega
  | m + 1, k, v, hk, h, v0, v1 => by
    rw [DL67_1_succ]
    unfold DF67_1
    have hj2 : ∀ w : Int, DL67_2 n (DL67_1 n m) l o (p : Int) w (k : Int) = DL67_1 n m l o (p : Int) w (wr .i64 ((k : Int) + 1)) := fun w => rfl
    by_cases hlt : k < o.length
    · have hlt' : k < (pk l o).length := by rw [pk_len]; exact hlt
      have hok := hb _ (List.getElem_mem hlt')
      unfold Ok at hok
      have ih := fun v => sum_loop n l o hs ho hb p hp m (k + 1) v (by omega) (by omega)
      rw [dlt_t hlt, cond_true, idx_nat hlt]
      simp only [Option.bind_some, pk_idx ho hlt, hj2, wr_succ (show k < 1000000 by omega)]
      by_cases h1 : k ≤ p
      · have d1 : ((pk l o).take (p + 1)).drop k = (pk l o)[k] :: ((pk l o).take (p + 1)).drop (k + 1) := by
          rw [drop_cons (l := (pk l o).take (p + 1)) (k := k) (by rw [List.length_take]; omega), List.getElem_take]
        rw [decide_eq_true (show (k : Int) ≤ p by omega), cond_true, d1]
        by_cases h2 : p ≤ k
        · have e : k = p := by omega
          rw [decide_eq_true (show (k : Int) ≥ p by omega), cond_true, wr_ok (x := v + (pk l o)[k].1) (by omega) (by omega), wr_ok (by omega) (by omega), ih _ (by omega) (by omega), show max k p = k by omega, show max (k + 1) p = k + 1 by omega, drop_cons hlt']
          simp only [s1, s2]
          congr 1
          omega
        · rw [decide_eq_false (show ¬ (k : Int) ≥ p by omega), cond_false, wr_ok (x := v + (pk l o)[k].1) (by omega) (by omega), ih _ (by omega) (by omega), show max k p = p by omega, show max (k + 1) p = p by omega]
          simp only [s1]
          congr 1
          omega
      · rw [decide_eq_false (show ¬ (k : Int) ≤ p by omega), cond_false, decide_eq_true (show (k : Int) ≥ p by omega), cond_true, wr_ok (by omega) (by omega), ih _ (by omega) (by omega), show max k p = k by omega, show max (k + 1) p = k + 1 by omega, drop_cons hlt',
          List.drop_of_length_le (l := (pk l o).take (p + 1)) (i := k) (by rw [List.length_take]; omega), List.drop_of_length_le (l := (pk l o).take (p + 1)) (i := k + 1) (by rw [List.length_take]; omega)]
        simp only [s1, s2]
        congr 1
        omega
    · rw [dlt_f hlt, cond_false, List.drop_of_length_le (by rw [List.length_take]; omega), List.drop_of_length_le (by rw [pk_len]; omega)]
      simp [s1, s2]
theorem sum_eq {n : Nat × Nat} (hn : 1000 ≤ n.1) {o : List Int} {l : List (Int × Int)} (hg : Good l) (ho : Ord l.length o) {p : Nat} (hp : p < o.length) : D67 n l o (p : Int) = some ((sms 0 (pk l o))[p]'(by rw [sms_len, pk_len]; exact hp)) := by
  have hl := ho.len
  have h7 := hg.len
  unfold D67
  have := sum_loop n l o (by omega) ho (pk_ok hg ho) p hp n.1 0 0 (by omega) (by omega) (by omega) (by omega)
  rw [sms_get (by rw [pk_len]; exact hp)]
  simpa using this
theorem rlast_loop (n : Nat × Nat) (hn : 1000 ≤ n.1) (l : List (Int × Int)) (o : List Int) (hg : Good l) (ho : Ord l.length o) : ∀ (m k : Nat), k ≤ o.length → o.length - k < m → tm 0 0 (pk l o) ∈ (sms 0 (pk l o)).drop k →
    DL24_1 n m l o (k : Int) = some (fdo (tm 0 0 (pk l o)) k ((sms 0 (pk l o)).drop k), 0)
  | 0, k, _, h, _ => by omega
  | m + 1, k, hk, h, hm => by
    have hl := ho.len
    have h7 := hg.len
    rw [DL24_1_succ]
    unfold DF24_1
    by_cases hlt : k < o.length
    · have hlt' : k < (sms 0 (pk l o)).length := by rw [sms_len, pk_len]; exact hlt
      have ih := rlast_loop n hn l o hg ho m (k + 1) (by omega) (by omega)
      rw [sum_eq hn hg ho hlt, rtime_eq hn hg ho, drop_cons hlt']
      rw [drop_cons hlt'] at hm
      simp only [Option.bind_some, fdo]
      generalize tm 0 0 (pk l o) = t at *
      by_cases e : t = (sms 0 (pk l o))[k]
      · rw [if_pos e, show ((sms 0 (pk l o))[k] != t) = false by simp [e], cond_false]
      · rw [if_neg e, show ((sms 0 (pk l o))[k] != t) = true by simpa using Ne.symm e, cond_true, wr_succ (by omega), ih ((List.mem_cons.1 hm).resolve_left e)]
        rfl
    · rw [List.drop_of_length_le (by rw [sms_len, pk_len]; omega)] at hm
      simp at hm
theorem rLast_eq {n : Nat × Nat} (hn : 1000 ≤ n.1) {o : List Int} (hs : o.length < 800) (l : List (Int × Int)) : D24 n l o = some (lastS l o) := by
  unfold D24 lastS
  rw [ordered_eq hn hs, Option.bind_some]
  by_cases h : (put l o).2 = 0
  · obtain ⟨hg, ho⟩ := put_zero.1 h
    have hp := ord_pk hg ho
    rw [show ((put l o).2 != 0) = false by simp [h], cond_false, if_neg (by simpa using h)]
    have := rlast_loop n hn l o hg ho n.1 0 (by omega) (by omega) (by simpa using tm_mem hp.1 (pk_ok hg ho))
    simpa using this
  · rw [show ((put l o).2 != 0) = true by simpa using h, cond_true, if_pos h]

/-- What a sheet adds to the bound of a machine and hours. -/
def ct (m : Int) (h : Int) (s : Int × Int) : Int := if hr m s < h then min s.1 s.2 else hr (1 - m) s
def cs (m : Int) (h : Int) : List (Int × Int) → Int
  | [] => 0
  | s :: l => ct m h s + cs m h l
def bnd (l : List (Int × Int)) (m : Int) (h : Int) : Int := h + cs m h l
theorem cs_append (m h : Int) : ∀ l k : List (Int × Int), cs m h (l ++ k) = cs m h l + cs m h k
  | [], k => by simp [cs]
  | s :: l, k => by simp only [List.cons_append, cs, cs_append m h l k]; omega
theorem cs_map (m h : Int) : ∀ l : List (Int × Int), (l.map (ct m h)).sum = cs m h l
  | [] => rfl
  | s :: l => by simp only [List.map_cons, List.sum_cons, cs_map m h l, cs]
theorem cs_perm {m h : Int} {l k : List (Int × Int)} (hp : l.Perm k) : cs m h l = cs m h k := by
  rw [← cs_map, ← cs_map]
  exact sum_perm (hp.map _)
theorem hr0 (s : Int × Int) : hr 0 s = s.1 := rfl
theorem hr1 (s : Int × Int) : hr 1 s = s.2 := rfl
theorem ct0 (h : Int) (s : Int × Int) : ct 0 h s = if s.1 < h then min s.1 s.2 else s.2 := rfl
theorem ct1 (h : Int) (s : Int × Int) : ct 1 h s = if s.2 < h then min s.1 s.2 else s.1 := rfl
theorem cs0_le (h : Int) : ∀ l : List (Int × Int), cs 0 h l ≤ s2 l
  | [] => by simp [cs, s2]
  | s :: l => by
    have := cs0_le h l
    simp only [cs, s2, ct0]
    split <;> omega
theorem cs1_le (h : Int) : ∀ l : List (Int × Int), (∀ s ∈ l, s.2 < h) → cs 1 h l ≤ s2 l
  | [], _ => by simp [cs, s2]
  | s :: l, hl => by
    have := cs1_le h l (fun s hs => hl s (by simp [hs]))
    have := hl s (by simp)
    simp only [cs, s2, ct1]
    split <;> omega
theorem tm_low (a b : Int) (l : List (Int × Int)) : b + s2 l ≤ tm a b l := by
  rw [tm_sms]
  exact (foldl_max_ge _ _).1
theorem weak0 {h : Int} : ∀ (l : List (Int × Int)) (a b : Int), (∃ s ∈ l, h ≤ s.1) → a + h + cs 0 h l ≤ tm a b l
  | [], a, b, hx => by obtain ⟨s, hs, _⟩ := hx; simp at hs
  | s :: l, a, b, hx => by
    simp only [tm, cs, ct0]
    by_cases e : s.1 < h
    · rw [if_pos e]
      have := weak0 (h := h) l (a + s.1) (max (a + s.1) b + s.2) (by
        obtain ⟨t, ht, hh⟩ := hx
        rcases List.mem_cons.1 ht with e' | ht
        · subst e'; omega
        · exact ⟨t, ht, hh⟩)
      omega
    · rw [if_neg e]
      have := tm_low (a + s.1) (max (a + s.1) b + s.2) l
      have := cs0_le h l
      omega
theorem weak1 {h : Int} : ∀ (l : List (Int × Int)) (a b : Int), (∃ s ∈ l, h ≤ s.2) → a + h + cs 1 h l ≤ tm a b l
  | [], a, b, hx => by obtain ⟨s, hs, _⟩ := hx; simp at hs
  | s :: l, a, b, hx => by
    simp only [tm, cs, ct1]
    by_cases e : ∃ t ∈ l, h ≤ t.2
    · have := weak1 (h := h) l (a + s.1) (max (a + s.1) b + s.2) e
      split <;> omega
    · have hl : ∀ t ∈ l, t.2 < h := fun t ht => by
        by_cases c : t.2 < h
        · exact c
        · exact absurd ⟨t, ht, by omega⟩ e
      have hs : h ≤ s.2 := by
        obtain ⟨t, ht, hh⟩ := hx
        rcases List.mem_cons.1 ht with e' | ht
        · subst e'; exact hh
        · have := hl t ht; omega
      rw [if_neg (by omega)]
      have := tm_low (a + s.1) (max (a + s.1) b + s.2) l
      have := cs1_le h l hl
      omega
/-- No bound is greater than the time of any order. -/
theorem weak {l : List (Int × Int)} {m : Int} (hm : m = 0 ∨ m = 1) {s : Int × Int} (hs : s ∈ l) : bnd l m (hr m s) ≤ tm 0 0 l := by
  unfold bnd
  rcases hm with e | e <;> subst e
  · have := weak0 (h := hr 0 s) l 0 0 ⟨s, hs, Int.le_refl _⟩
    omega
  · have := weak1 (h := hr 1 s) l 0 0 ⟨s, hs, Int.le_refl _⟩
    omega
theorem bnd_perm {l k : List (Int × Int)} (m h : Int) (hp : l.Perm k) : bnd l m h = bnd k m h := by
  unfold bnd
  rw [cs_perm hp]

/-- One sheet may stand before another one by the rule. -/
def Bf (s t : Int × Int) : Prop := (s.1 < s.2 ∧ ¬ t.1 < t.2) ∨ (s.1 < s.2 ∧ t.1 < t.2 ∧ s.1 ≤ t.1) ∨ (¬ s.1 < s.2 ∧ ¬ t.1 < t.2 ∧ t.2 ≤ s.2)
theorem cs0_ge_a {h : Int} : ∀ {l : List (Int × Int)}, (∀ s ∈ l, s.1 < s.2 ∧ s.1 ≤ h) → s1 l ≤ cs 0 h l
  | [], _ => by simp [cs, s1]
  | s :: l, hl => by
    have := cs0_ge_a (h := h) (l := l) (fun s hs => hl s (by simp [hs]))
    have := hl s (by simp)
    simp only [cs, s1, ct0]
    split <;> omega
theorem cs0_ge_b {h : Int} : ∀ {l : List (Int × Int)}, (∀ s ∈ l, s.1 < s.2 → h ≤ s.1) → s2 l ≤ cs 0 h l
  | [], _ => by simp [cs, s2]
  | s :: l, hl => by
    have := cs0_ge_b (h := h) (l := l) (fun s hs => hl s (by simp [hs]))
    have := hl s (by simp)
    simp only [cs, s2, ct0]
    split <;> omega
theorem cs1_ge_b {h : Int} : ∀ {l : List (Int × Int)}, (∀ s ∈ l, ¬ s.1 < s.2 ∧ s.2 ≤ h) → s2 l ≤ cs 1 h l
  | [], _ => by simp [cs, s2]
  | s :: l, hl => by
    have := cs1_ge_b (h := h) (l := l) (fun s hs => hl s (by simp [hs]))
    have := hl s (by simp)
    simp only [cs, s2, ct1]
    split <;> omega
theorem cs1_ge_a {h : Int} : ∀ {l : List (Int × Int)}, (∀ s ∈ l, ¬ s.1 < s.2 → h ≤ s.2) → s1 l ≤ cs 1 h l
  | [], _ => by simp [cs, s1]
  | s :: l, hl => by
    have := cs1_ge_a (h := h) (l := l) (fun s hs => hl s (by simp [hs]))
    have := hl s (by simp)
    simp only [cs, s1, ct1]
    split <;> omega
/-- Sheets as the rule has them: one bound is at least the time. -/
theorem strong {l : List (Int × Int)} (h0 : 0 < l.length) (hb : ∀ s ∈ l, Ok s) (hp : l.Pairwise Bf) : ∃ m s, (m = 0 ∨ m = 1) ∧ s ∈ l ∧ tm 0 0 l = bnd l m (hr m s) := by
  obtain ⟨k, hk, e⟩ := List.getElem_of_mem (tm_mem h0 hb)
  rw [sms_len] at hk
  rw [sms_get hk, Int.zero_add] at e
  have hl : l = l.take k ++ l[k] :: l.drop (k + 1) := by rw [← drop_cons hk, List.take_append_drop]
  have hin : l[k] ∈ l := List.getElem_mem hk
  rw [take_snoc hk, drop_cons hk, s1_append] at e
  generalize l.take k = A at hl e
  generalize l.drop (k + 1) = B at hl e
  generalize l[k] = s at hl hin e
  simp only [s1, s2] at e
  have hp' := hp
  rw [hl, List.pairwise_append, List.pairwise_cons] at hp'
  obtain ⟨_, ⟨pB, _⟩, pA⟩ := hp'
  have pA : ∀ t ∈ A, Bf t s := fun t ht => pA t ht s (by simp)
  by_cases f : s.1 < s.2
  · refine ⟨0, s, .inl rfl, hin, Int.le_antisymm ?_ (weak (.inl rfl) hin)⟩
    have c : bnd l 0 (hr 0 s) = s.1 + (cs 0 s.1 A + (s.2 + cs 0 s.1 B)) := by
      rw [hl]
      simp only [bnd, cs_append, cs, ct0, hr0, Int.lt_irrefl, if_false]
    have cA := cs0_ge_a (h := s.1) (l := A) (fun t ht => by have := pA t ht; unfold Bf at this; omega)
    have cB := cs0_ge_b (h := s.1) (l := B) (fun t ht => by have := pB t ht; unfold Bf at this; omega)
    omega
  · refine ⟨1, s, .inr rfl, hin, Int.le_antisymm ?_ (weak (.inr rfl) hin)⟩
    have c : bnd l 1 (hr 1 s) = s.2 + (cs 1 s.2 A + (s.1 + cs 1 s.2 B)) := by
      rw [hl]
      simp only [bnd, cs_append, cs, ct1, hr1, Int.lt_irrefl, if_false]
    have cA := cs1_ge_a (h := s.2) (l := A) (fun t ht => by have := pA t ht; unfold Bf at this; omega)
    have cB := cs1_ge_b (h := s.2) (l := B) (fun t ht => by have := pB t ht; unfold Bf at this; omega)
    omega
end Go.Proofs.Ytnlbhjmbaedadaa
set_option linter.unusedVariables false
set_option linter.unusedSimpArgs false
set_option maxRecDepth 100000
namespace Go.Proofs.Ytnlbhjmbaedadaa
open Go.Vi
abbrev R70 := Bool
noncomputable def c70 : Code := bodyOf Try.f70
noncomputable def an70 : Ann := (.s .l (.s .l (.s (.s .l (.j [1, 2, 7, 8, 39, 40, 41, 42, 43, 56, 57, 58, 59, 60] .l .l)) (.s (.s .l (.j [1, 2, 7, 8, 56, 57, 58, 59, 60] .l .l)) (.s (.s .l (.j [1, 2] .l .l)) .l)))))
def pk70 : List PK := [.c (.sl (.pair (.int .i64) (.int .i64))), .c (.int .i64), .c (.int .i64)]
def rk70 : List RK := [.c .bool 6]
noncomputable def rt70 (st : St) : Option R70 := rtG rk70 st
noncomputable def E70 (n : Nat × Nat) : Env := { T := tab, phi := noPhi, eff := fun _ => false, fuel := n.1, hold := n.2 }
noncomputable def kq70_1 (n : Nat × Nat) : St → Option R70 := run (E70 n) (cB (cB (cB c70))) (Ann.snd (Ann.snd (Ann.snd an70))) rt70 (fun _ _ => none) rt70
noncomputable def kc70_2 (n : Nat × Nat) : St → Option R70 := fun s => normC [1, 2, 7, 8, 39, 40, 41, 42, 43, 56, 57, 58, 59, 60] s (kq70_1 n)
noncomputable def kq70_3 (n : Nat × Nat) : St → Option R70 := run (E70 n) (cB (cB (cB (cB c70)))) (Ann.snd (Ann.snd (Ann.snd (Ann.snd an70)))) rt70 (fun _ _ => none) rt70
noncomputable def kc70_4 (n : Nat × Nat) : St → Option R70 := fun s => normC [1, 2, 7, 8, 56, 57, 58, 59, 60] s (kq70_3 n)
noncomputable def kq70_5 (n : Nat × Nat) : St → Option R70 := run (E70 n) (cB (cB (cB (cB (cB c70))))) (Ann.snd (Ann.snd (Ann.snd (Ann.snd (Ann.snd an70))))) rt70 (fun _ _ => none) rt70
noncomputable def kc70_6 (n : Nat × Nat) : St → Option R70 := fun s => normC [1, 2] s (kq70_5 n)
noncomputable def S70 (n : Nat × Nat) (sheets0 : List (Int × Int)) (i1 : Int) (j2 : Int) : Option R70 := run (E70 n) c70 an70 rt70 (fun _ _ => none) rt70 { tm := [.c (.sl (.pair (.int .i64) (.int .i64)) sheets0 false), .c (.int .i64 i1), .c (.int .i64 j2), uu, uu, uu, uu, uu, uu, uu, uu, uu, uu, uu, uu, uu, uu, uu, uu, uu, uu, uu, uu, uu, uu, uu, uu, uu, uu, uu, uu, uu, uu, uu, uu, uu, uu, uu, uu, uu, uu, uu, uu, uu, uu, uu, uu, uu, uu, uu, uu, uu, uu, uu, uu, uu, uu, uu, uu, uu, uu, uu, uu, uu, uu, uu, uu, uu, uu, uu], hp := emp }
theorem S70_eq (n : Nat × Nat) (sheets0 : List (Int × Int)) (i1 : Int) (j2 : Int) : S70 n sheets0 i1 j2 =
    (idx sheets0 i1).bind fun x1' =>
    (idx sheets0 j2).bind fun x2' =>
    (bif ((decide (x1'.1 < x1'.2)) != (decide (x2'.1 < x2'.2))) then some (decide (x1'.1 < x1'.2))
    else ((bif (decide (x1'.1 < x1'.2) == true) then some (x1'.1 != x2'.1)
        else some false)).bind fun b3' =>
      (bif b3' then some (decide (x1'.1 < x2'.1))
      else ((bif (decide (x1'.1 ≥ x1'.2) == true) then some (x1'.2 != x2'.2)
          else some false)).bind fun b4' =>
        (bif b4' then some (decide (x1'.2 > x2'.2))
        else some (decide (i1 < j2))))) := by kernel_rfl
theorem S70_run (n : Nat × Nat) (xs : pksDen pk70) : S70 n xs.1 xs.2.1 xs.2.2.1 = runG (E70 n) noScope c70 an70 (rtG rk70) (fun _ _ => none) (rtG rk70) (st0 pk70 xs Try.f70.ntmps) := by kernel_rfl
noncomputable def P70 (n : Nat × Nat) := phiOf pk70 rk70 (fun xs => S70 n xs.1 xs.2.1 xs.2.2.1)
theorem call70 : CallOK Try.prog 70 := callOK_of Try.func70 (by kernel_rfl) (by kernel_rfl)
theorem env70 (n : Nat × Nat) : EnvOK Try.prog (E70 n) := envOK0 noPhi_ok rfl rfl
theorem par70 (n : Nat × Nat) : EnvPar (E70 n) := envPar0 noPhi_par rfl
theorem FC70 (n : Nat × Nat) : FCs Try.prog 70 (P70 n) := phiOf_FCs fun xs r h vs hv => FC.of_runG tabOK eqsOK (env70 n) (par70 n) mixed (fun _ => noScope_ok) Try.func70 (c := c70) (an := an70) (pks := pk70) (rks := rk70) (by kernel_rfl) (by kernel_rfl) hv ((S70_run n xs).symm.trans h)
abbrev R28 := List Int × Int
noncomputable def c28 : Code := bodyOf Try.f28
noncomputable def an28 : Ann := (.s .l (.s .l (.s (.s .l (.j [0, 33, 34, 35, 36] .l .l)) (.s .l (.s (.s .l (.j [5] (.j [0, 5, 6, 33, 34, 35, 36] (.s (.s .l (.j [0, 5, 6, 33, 34, 35, 36] .l .l)) (.s (.j [0, 5, 6, 33, 34, 35, 36] (.s .l (.s (.s .l (.j [0, 5, 6, 7, 33, 34, 35, 36] (.j [0, 5, 6, 7, 8, 33, 34, 35, 36] (.s (.s .l (.j [0, 5, 6, 7, 8, 33, 34, 35, 36] .l .l)) (.j [] (.j [0, 5, 6, 7, 8, 33, 34, 35, 36] (.s .l (.j [0, 5, 6, 7, 8, 33, 34, 35, 36] .l .l)) .l) .l)) .l) .l)) .l)) .l) .l)) .l) .l)) .l)))))
def pk28 : List PK := [.c (.sl (.pair (.int .i64) (.int .i64)))]
def rk28 : List RK := [.own (.int .i64) 2, .c (.int .i64) 3]
noncomputable def rt28 (st : St) : Option R28 := rtG rk28 st
noncomputable def E28 (n : Nat × Nat) : Env := { T := tab, phi := (consPhi 26 (fun _ => true) (P26 n) (consPhi 70 (fun _ => true) (P70 n) noPhi)), eff := fun _ => false, fuel := n.1, hold := n.2 }
noncomputable def kq28_1 (n : Nat × Nat) : St → Option R28 := run (E28 n) (cB (cB (cB c28))) (Ann.snd (Ann.snd (Ann.snd an28))) rt28 (fun _ _ => none) rt28
noncomputable def kc28_2 (n : Nat × Nat) : St → Option R28 := fun s => normC [0, 33, 34, 35, 36] s (kq28_1 n)
noncomputable def kq28_3 (n : Nat × Nat) : St → Option R28 := run (E28 n) (cB (cB (cB (cB (cB c28))))) (Ann.snd (Ann.snd (Ann.snd (Ann.snd (Ann.snd an28))))) rt28 (fun _ _ => none) rt28
noncomputable def kc28_4 (n : Nat × Nat) : St → Option R28 := fun s => normC [5] s (kq28_3 n)
noncomputable def xb28_5 (n : Nat × Nat) : Nat → St → Option R28 := fun j s => bif Nat.beq j 0 then normC [5] s (kq28_3 n) else (fun _ _ => none) j s
noncomputable def F28_6 (n : Nat × Nat) : (St → Option R28) → St → Option R28 := fun K s => run (E28 n) (cA (cA (cB (cA (cB (cB (cB (cB c28)))))))) (Ann.fst (Ann.fst (Ann.snd (Ann.fst (Ann.snd (Ann.snd (Ann.snd (Ann.snd an28)))))))) (fun s => normC [0, 5, 6, 33, 34, 35, 36] s K) (xb28_5 n) rt28 s
noncomputable def kq28_7 (n : Nat × Nat) (m1 : Nat) : St → Option R28 := run (E28 n) (cB (cA (cA (cB (cA (cB (cB (cB (cB c28))))))))) (Ann.snd (Ann.fst (Ann.fst (Ann.snd (Ann.fst (Ann.snd (Ann.snd (Ann.snd (Ann.snd an28))))))))) (fun s => normC [0, 5, 6, 33, 34, 35, 36] s (loopN (F28_6 n) m1)) (xb28_5 n) rt28
noncomputable def kc28_8 (n : Nat × Nat) (m1 : Nat) : St → Option R28 := fun s => normC [0, 5, 6, 33, 34, 35, 36] s (kq28_7 n m1)
noncomputable def kq28_9 (n : Nat × Nat) (m1 : Nat) : St → Option R28 := run (E28 n) (cB (cB (cA (cA (cB (cA (cB (cB (cB (cB c28)))))))))) (Ann.snd (Ann.snd (Ann.fst (Ann.fst (Ann.snd (Ann.fst (Ann.snd (Ann.snd (Ann.snd (Ann.snd an28)))))))))) (fun s => normC [0, 5, 6, 33, 34, 35, 36] s (loopN (F28_6 n) m1)) (xb28_5 n) rt28
noncomputable def kc28_10 (n : Nat × Nat) (m1 : Nat) : St → Option R28 := fun s => normC [0, 5, 6, 33, 34, 35, 36] s (kq28_9 n m1)
noncomputable def xb28_11 (n : Nat × Nat) (m1 : Nat) : Nat → St → Option R28 := fun j s => bif Nat.beq j 1 then normC [0, 5, 6, 33, 34, 35, 36] s (kq28_9 n m1) else (xb28_5 n) j s
noncomputable def kq28_12 (n : Nat × Nat) (m1 : Nat) : St → Option R28 := run (E28 n) (cB (cB (cA (cA (cB (cA (cA (cB (cA (cB (cB (cB (cB c28))))))))))))) (Ann.snd (Ann.snd (Ann.fst (Ann.fst (Ann.snd (Ann.fst (Ann.fst (Ann.snd (Ann.fst (Ann.snd (Ann.snd (Ann.snd (Ann.snd an28))))))))))))) (kc28_10 n m1) (xb28_11 n m1) rt28
noncomputable def kc28_13 (n : Nat × Nat) (m1 : Nat) : St → Option R28 := fun s => normC [0, 5, 6, 7, 33, 34, 35, 36] s (kq28_12 n m1)
noncomputable def xb28_14 (n : Nat × Nat) (m1 : Nat) : Nat → St → Option R28 := fun j s => bif Nat.beq j 2 then normC [0, 5, 6, 7, 33, 34, 35, 36] s (kq28_12 n m1) else (xb28_11 n m1) j s
noncomputable def F28_15 (n : Nat × Nat) (m1 : Nat) : (St → Option R28) → St → Option R28 := fun K s => run (E28 n) (cA (cA (cB (cA (cB (cA (cA (cB (cA (cA (cB (cA (cB (cB (cB (cB c28)))))))))))))))) (Ann.fst (Ann.fst (Ann.snd (Ann.fst (Ann.snd (Ann.fst (Ann.fst (Ann.snd (Ann.fst (Ann.fst (Ann.snd (Ann.fst (Ann.snd (Ann.snd (Ann.snd (Ann.snd an28)))))))))))))))) (fun s => normC [0, 5, 6, 7, 8, 33, 34, 35, 36] s K) (xb28_14 n m1) rt28 s
noncomputable def kq28_16 (n : Nat × Nat) (m1 m2 : Nat) : St → Option R28 := run (E28 n) (cB (cA (cA (cB (cA (cB (cA (cA (cB (cA (cA (cB (cA (cB (cB (cB (cB c28))))))))))))))))) (Ann.snd (Ann.fst (Ann.fst (Ann.snd (Ann.fst (Ann.snd (Ann.fst (Ann.fst (Ann.snd (Ann.fst (Ann.fst (Ann.snd (Ann.fst (Ann.snd (Ann.snd (Ann.snd (Ann.snd an28))))))))))))))))) (fun s => normC [0, 5, 6, 7, 8, 33, 34, 35, 36] s (loopN (F28_15 n m1) m2)) (xb28_14 n m1) rt28
noncomputable def kc28_17 (n : Nat × Nat) (m1 m2 : Nat) : St → Option R28 := fun s => normC [0, 5, 6, 7, 8, 33, 34, 35, 36] s (kq28_16 n m1 m2)
noncomputable def kq28_18 (n : Nat × Nat) (m1 m2 : Nat) : St → Option R28 := run (E28 n) (cB (cB (cA (cA (cB (cA (cB (cA (cA (cB (cA (cA (cB (cA (cB (cB (cB (cB c28)))))))))))))))))) (Ann.snd (Ann.snd (Ann.fst (Ann.fst (Ann.snd (Ann.fst (Ann.snd (Ann.fst (Ann.fst (Ann.snd (Ann.fst (Ann.fst (Ann.snd (Ann.fst (Ann.snd (Ann.snd (Ann.snd (Ann.snd an28)))))))))))))))))) (fun s => normC [0, 5, 6, 7, 8, 33, 34, 35, 36] s (loopN (F28_15 n m1) m2)) (xb28_14 n m1) rt28
noncomputable def kc28_19 (n : Nat × Nat) (m1 m2 : Nat) : St → Option R28 := fun s => normC [0, 5, 6, 7, 8, 33, 34, 35, 36] s (loopN (fun _ => (kq28_18 n m1 m2)) n.2)
noncomputable def xb28_20 (n : Nat × Nat) (m1 m2 : Nat) : Nat → St → Option R28 := fun j s => bif Nat.beq j 3 then normC [0, 5, 6, 7, 8, 33, 34, 35, 36] s (loopN (fun _ => (kq28_18 n m1 m2)) n.2) else (xb28_14 n m1) j s
noncomputable def kc28_21 (n : Nat × Nat) (m1 m2 : Nat) : St → Option R28 := fun s => normC [0, 5, 6, 7, 8, 33, 34, 35, 36] s (kc28_19 n m1 m2)
noncomputable def L28_1 (n : Nat × Nat) (m : Nat) (sheets0 : List (Int × Int)) (i6 : Int) (out5 : List Int) : Option R28 := loopN (F28_6 n) m { tm := [.c (.sl (.pair (.int .i64) (.int .i64)) sheets0 false), uu, uu, uu, uu, .own 5 none false, .c (.int .i64 i6), uu, uu, uu, uu, uu, uu, uu, uu, uu, uu, uu, uu, uu, uu, uu, uu, uu, uu, uu, uu, uu, uu, uu, uu, uu, uu, uu, uu, uu, uu, uu, uu, uu, uu, uu, uu, uu, uu], hp := (upd emp 5 (.arr (.int .i64) out5 false)) }
noncomputable def L28_2 (n : Nat × Nat) (m1 : Nat) (m : Nat) (sheets0 : List (Int × Int)) (i6 : Int) (place7 : Int) (j8 : Int) (out5 : List Int) : Option R28 := loopN (F28_15 n m1) m { tm := [.c (.sl (.pair (.int .i64) (.int .i64)) sheets0 false), uu, uu, uu, uu, .own 5 none false, .c (.int .i64 i6), .c (.int .i64 place7), .c (.int .i64 j8), uu, uu, uu, uu, uu, uu, uu, uu, uu, uu, uu, uu, uu, uu, uu, uu, uu, uu, uu, uu, uu, uu, uu, uu, uu, uu, uu, uu, uu, uu, uu, uu, uu, uu, uu, uu], hp := (upd emp 5 (.arr (.int .i64) out5 false)) }
noncomputable def L28_3 (n : Nat × Nat) (m1 m2 : Nat) (sheets0 : List (Int × Int)) (i6 : Int) (place7 : Int) (j8 : Int) (out5 : List Int) : Option R28 := loopN (fun _ => (kq28_18 n m1 m2)) n.2 { tm := [.c (.sl (.pair (.int .i64) (.int .i64)) sheets0 false), uu, uu, uu, uu, .own 5 none false, .c (.int .i64 i6), .c (.int .i64 place7), .c (.int .i64 j8), uu, uu, uu, uu, uu, uu, uu, uu, uu, uu, uu, uu, uu, uu, uu, uu, uu, uu, uu, uu, uu, uu, uu, uu, uu, uu, uu, uu, uu, uu, uu, uu, uu, uu, uu, uu], hp := (upd emp 5 (.arr (.int .i64) out5 false)) }
theorem L28_1_eq (n : Nat × Nat) (m1 : Nat) (sheets0 : List (Int × Int)) (i6 : Int) (out5 : List Int) : L28_1 n (m1 + 1) sheets0 i6 out5 =
    (bif decide (i6 < (sheets0.length : Int)) then L28_2 n m1 n.1 sheets0 i6 0 0 out5
    else some (out5, 0)) := by kernel_rfl
theorem L28_2_eq (n : Nat × Nat) (m1 m2 : Nat) (sheets0 : List (Int × Int)) (i6 : Int) (place7 : Int) (j8 : Int) (out5 : List Int) : L28_2 n m1 (m2 + 1) sheets0 i6 place7 j8 out5 =
    (bif decide (j8 < (sheets0.length : Int)) then ((bif ((j8 != i6) == true) then (S70 n sheets0 j8 i6).bind fun r2' =>
          some r2'
        else some false)).bind fun b3' =>
      (bif b3' then L28_3 n m1 m2 sheets0 i6 (wr .i64 (place7 + 1)) j8 out5
      else L28_3 n m1 m2 sheets0 i6 place7 j8 out5)
    else (bif inB place7 out5.length then (idx out5 place7).bind fun x4' =>
        L28_1 n m1 sheets0 (wr .i64 (i6 + 1)) (out5.set (Int.toNat place7) i6)
      else none)) := by kernel_rfl
theorem L28_3_raw (n : Nat × Nat) (m1 m2 : Nat) (sheets0 : List (Int × Int)) (i6 : Int) (place7 : Int) (j8 : Int) (out5 : List Int) : (kq28_18 n m1 m2) { tm := [.c (.sl (.pair (.int .i64) (.int .i64)) sheets0 false), uu, uu, uu, uu, .own 5 none false, .c (.int .i64 i6), .c (.int .i64 place7), .c (.int .i64 j8), uu, uu, uu, uu, uu, uu, uu, uu, uu, uu, uu, uu, uu, uu, uu, uu, uu, uu, uu, uu, uu, uu, uu, uu, uu, uu, uu, uu, uu, uu, uu, uu, uu, uu, uu, uu], hp := (upd emp 5 (.arr (.int .i64) out5 false)) } =
    L28_2 n m1 m2 sheets0 i6 place7 (wr .i64 (j8 + 1)) out5 := by kernel_rfl
noncomputable def S28 (n : Nat × Nat) (sheets0 : List (Int × Int)) : Option R28 := run (E28 n) c28 an28 rt28 (fun _ _ => none) rt28 { tm := [.c (.sl (.pair (.int .i64) (.int .i64)) sheets0 false), uu, uu, uu, uu, uu, uu, uu, uu, uu, uu, uu, uu, uu, uu, uu, uu, uu, uu, uu, uu, uu, uu, uu, uu, uu, uu, uu, uu, uu, uu, uu, uu, uu, uu, uu, uu, uu, uu, uu, uu, uu, uu, uu, uu], hp := emp }
theorem S28_eq (n : Nat × Nat) (sheets0 : List (Int × Int)) : S28 n sheets0 =
    (S26 n sheets0).bind fun r1' =>
    (bif (r1' != 0) then some ([], r1')
    else (bif decide (0 ≤ (sheets0.length : Int)) && decide ((sheets0.length : Int) ≤ (sheets0.length : Int)) && decide ((sheets0.length : Int) ≤ lim) then L28_1 n n.1 sheets0 0 (List.replicate (Int.toNat (sheets0.length : Int)) (0 : Int))
      else none)) := by kernel_rfl
theorem S28_run (n : Nat × Nat) (xs : pksDen pk28) : S28 n xs.1 = runG (E28 n) noScope c28 an28 (rtG rk28) (fun _ _ => none) (rtG rk28) (st0 pk28 xs Try.f28.ntmps) := by kernel_rfl
noncomputable def P28 (n : Nat × Nat) := phiOf pk28 rk28 (fun xs => S28 n xs.1)
theorem call28 : CallOK Try.prog 28 := callOK_of Try.func28 (by kernel_rfl) (by kernel_rfl)
theorem env28 (n : Nat × Nat) : EnvOK Try.prog (E28 n) := envOK0 (consPhi_ok (FC26 n) call26 (consPhi_ok (FC70 n) call70 noPhi_ok)) rfl rfl
theorem par28 (n : Nat × Nat) : EnvPar (E28 n) := envPar0 (consPhi_par phiOf_Par1 (consPhi_par phiOf_Par1 noPhi_par)) rfl
theorem FC28 (n : Nat × Nat) : FCs Try.prog 28 (P28 n) := phiOf_FCs fun xs r h vs hv => FC.of_runG tabOK eqsOK (env28 n) (par28 n) mixed (fun _ => noScope_ok) Try.func28 (c := c28) (an := an28) (pks := pk28) (rks := rk28) (by kernel_rfl) (by kernel_rfl) hv ((S28_run n xs).symm.trans h)
/-D 70 -/
noncomputable def D70 (n : Nat × Nat) (sheets0 : List (Int × Int)) (i1 : Int) (j2 : Int) : Option R70 :=
    (idx sheets0 i1).bind fun x1' =>
    (idx sheets0 j2).bind fun x2' =>
    (bif ((decide (x1'.1 < x1'.2)) != (decide (x2'.1 < x2'.2))) then some (decide (x1'.1 < x1'.2))
    else ((bif (decide (x1'.1 < x1'.2) == true) then some (x1'.1 != x2'.1)
        else some false)).bind fun b3' =>
      (bif b3' then some (decide (x1'.1 < x2'.1))
      else ((bif (decide (x1'.1 ≥ x1'.2) == true) then some (x1'.2 != x2'.2)
          else some false)).bind fun b4' =>
        (bif b4' then some (decide (x1'.2 > x2'.2))
        else some (decide (i1 < j2)))))
theorem S70_D (n : Nat × Nat) (hn : n.2 = 1) : S70 n = D70 n := by
  funext sheets0 i1 j2; refine (S70_eq n sheets0 i1 j2).trans ?_
  unfold D70
  first | with_reducible rfl | rfl
/-D 28 -/
noncomputable def DL28_3 (n : Nat × Nat) (f1 : (List (Int × Int)) → Int → List Int → Option R28) (f2 : (List (Int × Int)) → Int → Int → Int → List Int → Option R28) (sheets0 : List (Int × Int)) (i6 : Int) (place7 : Int) (j8 : Int) (out5 : List Int) : Option R28 :=
    f2 sheets0 i6 place7 (wr .i64 (j8 + 1)) out5
theorem DL28_3_eq (n : Nat × Nat) (hn : n.2 = 1) (m1 m2 : Nat) : L28_3 n m1 m2 = DL28_3 n (L28_1 n m1) (L28_2 n m1 m2) := by
  funext sheets0 i6 place7 j8 out5; refine ((held_eq hn _).trans (L28_3_raw n m1 m2 sheets0 i6 place7 j8 out5)).trans ?_
  unfold DL28_3
  (try simp only [S26_D n hn, S70_D n hn]) <;> first | with_reducible rfl | rfl
noncomputable def DF28_2 (n : Nat × Nat) (f1 : (List (Int × Int)) → Int → List Int → Option R28) (f2 : (List (Int × Int)) → Int → Int → Int → List Int → Option R28) (sheets0 : List (Int × Int)) (i6 : Int) (place7 : Int) (j8 : Int) (out5 : List Int) : Option R28 :=
    (bif decide (j8 < (sheets0.length : Int)) then ((bif ((j8 != i6) == true) then (D70 n sheets0 j8 i6).bind fun r2' =>
          some r2'
        else some false)).bind fun b3' =>
      (bif b3' then DL28_3 n f1 f2 sheets0 i6 (wr .i64 (place7 + 1)) j8 out5
      else DL28_3 n f1 f2 sheets0 i6 place7 j8 out5)
    else (bif inB place7 out5.length then (idx out5 place7).bind fun x4' =>
        f1 sheets0 (wr .i64 (i6 + 1)) (out5.set (Int.toNat place7) i6)
      else none))
noncomputable def DL28_2 (n : Nat × Nat) (f1 : (List (Int × Int)) → Int → List Int → Option R28) (m : Nat) : (List (Int × Int)) → Int → Int → Int → List Int → Option R28 := Nat.rec (motive := fun _ => (List (Int × Int)) → Int → Int → Int → List Int → Option R28) (fun _ _ _ _ _ => none) (fun _ ih => DF28_2 n f1 ih) m
theorem DL28_2_succ (n : Nat × Nat) (f1 : (List (Int × Int)) → Int → List Int → Option R28) (m : Nat) : DL28_2 n f1 (m + 1) = DF28_2 n f1 (DL28_2 n f1 m) := rfl
theorem DL28_2_eq (n : Nat × Nat) (hn : n.2 = 1) (m1 : Nat) : ∀ m, L28_2 n m1 m = DL28_2 n (L28_1 n m1) m
  | 0 => by funext sheets0 i6 place7 j8 out5; kernel_rfl
  | m + 1 => by
    have ih := DL28_2_eq n hn m1 m
    funext sheets0 i6 place7 j8 out5; refine (L28_2_eq n m1 m sheets0 i6 place7 j8 out5).trans ?_
    rw [DL28_2_succ]
    unfold DF28_2
    (try simp only [ih, DL28_3_eq n hn, S26_D n hn, S70_D n hn]) <;> first | with_reducible rfl | rfl
noncomputable def DF28_1 (n : Nat × Nat) (f1 : (List (Int × Int)) → Int → List Int → Option R28) (sheets0 : List (Int × Int)) (i6 : Int) (out5 : List Int) : Option R28 :=
    (bif decide (i6 < (sheets0.length : Int)) then DL28_2 n f1 n.1 sheets0 i6 0 0 out5
    else some (out5, 0))
noncomputable def DL28_1 (n : Nat × Nat) (m : Nat) : (List (Int × Int)) → Int → List Int → Option R28 := Nat.rec (motive := fun _ => (List (Int × Int)) → Int → List Int → Option R28) (fun _ _ _ => none) (fun _ ih => DF28_1 n ih) m
theorem DL28_1_succ (n : Nat × Nat) (m : Nat) : DL28_1 n (m + 1) = DF28_1 n (DL28_1 n m) := rfl
theorem DL28_1_eq (n : Nat × Nat) (hn : n.2 = 1) : ∀ m, L28_1 n m = DL28_1 n m
  | 0 => by funext sheets0 i6 out5; kernel_rfl
  | m + 1 => by
    have ih := DL28_1_eq n hn m
    funext sheets0 i6 out5; refine (L28_1_eq n m sheets0 i6 out5).trans ?_
    rw [DL28_1_succ]
    unfold DF28_1
    (try simp only [ih, DL28_3_eq n hn, DL28_2_eq n hn, S26_D n hn, S70_D n hn]) <;> first | with_reducible rfl | rfl
noncomputable def D28 (n : Nat × Nat) (sheets0 : List (Int × Int)) : Option R28 :=
    (D26 n sheets0).bind fun r1' =>
    (bif (r1' != 0) then some ([], r1')
    else (bif decide (0 ≤ (sheets0.length : Int)) && decide ((sheets0.length : Int) ≤ (sheets0.length : Int)) && decide ((sheets0.length : Int) ≤ lim) then DL28_1 n n.1 sheets0 0 (List.replicate (Int.toNat (sheets0.length : Int)) (0 : Int))
      else none))
theorem S28_D (n : Nat × Nat) (hn : n.2 = 1) : S28 n = D28 n := by
  funext sheets0; refine (S28_eq n sheets0).trans ?_
  unfold D28
  (try simp only [DL28_3_eq n hn, DL28_2_eq n hn, DL28_1_eq n hn, S26_D n hn, S70_D n hn]) <;> first | with_reducible rfl | rfl
end Go.Proofs.Ytnlbhjmbaedadaa
set_option linter.unusedVariables false
set_option linter.unusedSimpArgs false
namespace Go.Proofs.Ytnlbhjmbaedadaa
open Go.Vi

def sh (l : List (Int × Int)) (i : Int) : Int × Int := l.getD i.toNat (0, 0)
theorem idx_sh {l : List (Int × Int)} {i : Int} (h0 : 0 ≤ i) (h1 : i < l.length) : idx l i = some (sh l i) := by
  rw [idx_int (k := i.toNat) (by omega) (by omega)]
  simp [sh, show i.toNat < l.length by omega]
theorem sh_mem {l : List (Int × Int)} {i : Int} (h0 : 0 ≤ i) (h1 : i < l.length) : sh l i ∈ l := by
  unfold sh
  rw [List.getD_eq_getElem?_getD, List.getElem?_eq_getElem (by omega), Option.getD_some]
  exact List.getElem_mem _
/-- A sheet is before another one in the order of the rule. -/
def Bef (l : List (Int × Int)) (i j : Int) : Prop :=
  ((sh l i).1 < (sh l i).2 ∧ ¬ (sh l j).1 < (sh l j).2) ∨ ((sh l i).1 < (sh l i).2 ∧ (sh l j).1 < (sh l j).2 ∧ ((sh l i).1 < (sh l j).1 ∨ (sh l i).1 = (sh l j).1 ∧ i < j)) ∨
  (¬ (sh l i).1 < (sh l i).2 ∧ ¬ (sh l j).1 < (sh l j).2 ∧ ((sh l j).2 < (sh l i).2 ∨ (sh l j).2 = (sh l i).2 ∧ i < j))
instance (l : List (Int × Int)) (i j : Int) : Decidable (Bef l i j) := by unfold Bef; exact inferInstance
theorem Bef.trans {l : List (Int × Int)} {i j k : Int} (h1 : Bef l i j) (h2 : Bef l j k) : Bef l i k := by
  unfold Bef at *
  omega
theorem Bef.irrefl {l : List (Int × Int)} {i : Int} : ¬ Bef l i i := by
  unfold Bef
  omega
theorem Bef.asymm {l : List (Int × Int)} {i j : Int} (h1 : Bef l i j) : ¬ Bef l j i := fun h2 => (h1.trans h2).irrefl.elim
theorem Bef.bf {l : List (Int × Int)} {i j : Int} (h : Bef l i j) : Bf (sh l i) (sh l j) := by
  unfold Bef at h
  unfold Bf
  omega
theorem before_eq (n : Nat × Nat) {l : List (Int × Int)} {i j : Int} (hi : 0 ≤ i ∧ i < l.length) (hj : 0 ≤ j ∧ j < l.length) : D70 n l i j = some (decide (Bef l i j)) := by
  unfold D70
  rw [idx_sh hi.1 hi.2, idx_sh hj.1 hj.2, Option.bind_some, Option.bind_some]
  have hb : decide (Bef l i j) = true ↔ Bef l i j := decide_eq_true_iff
  revert hb
  generalize decide (Bef l i j) = b
  unfold Bef
  generalize sh l i = s
  generalize sh l j = t
  intro hb
  by_cases f : s.1 < s.2 <;> by_cases g : t.1 < t.2
  · rw [decide_eq_true f, decide_eq_true g]
    simp only [bne_self_eq_false, cond_false, beq_self_eq_true, cond_true, Option.bind_some, decide_eq_false (show ¬ s.1 ≥ s.2 by omega)]
    by_cases e : s.1 = t.1
    · simp only [e, bne_self_eq_false, cond_false, show (false == true) = false from rfl, Option.bind_some]
      congr 1
      rw [Bool.eq_iff_iff, hb, decide_eq_true_iff]
      omega
    · rw [show (s.1 != t.1) = true by simpa using e, cond_true]
      congr 1
      rw [Bool.eq_iff_iff, hb, decide_eq_true_iff]
      omega
  · rw [decide_eq_true f, decide_eq_false g]
    simp only [show (true != false) = true from rfl, cond_true]
    congr 1
    rw [Bool.eq_iff_iff, hb]
    simp only [true_iff]
    omega
  · rw [decide_eq_false f, decide_eq_true g]
    simp only [show (false != true) = true from rfl, cond_true]
    congr 1
    rw [Bool.eq_iff_iff, hb]
    simp only [Bool.false_eq_true, false_iff]
    omega
  · rw [decide_eq_false f, decide_eq_false g]
    simp only [bne_self_eq_false, cond_false, beq_self_eq_true, cond_true, Option.bind_some, show (false == true) = false from rfl, decide_eq_true (show s.1 ≥ s.2 by omega)]
    by_cases e : s.2 = t.2
    · simp only [e, bne_self_eq_false, cond_false]
      congr 1
      rw [Bool.eq_iff_iff, hb, decide_eq_true_iff]
      omega
    · rw [show (s.2 != t.2) = true by simpa using e, cond_true]
      congr 1
      rw [Bool.eq_iff_iff, hb, decide_eq_true_iff]
      omega

/-- Numbers are put into a list that falls, and numbers one after the other. -/
def insR (c : Int → Int → Bool) (x : Int) : List Int → List Int
  | [] => [x]
  | y :: Q => bif c x y then y :: insR c x Q else x :: y :: Q
def srt (c : Int → Int → Bool) : List Int → List Int → List Int
  | Q, [] => Q
  | Q, x :: r => srt c (insR c x Q) r
theorem insR_perm (c : Int → Int → Bool) (x : Int) : ∀ Q, (insR c x Q).Perm (x :: Q)
  | [] => List.Perm.refl _
  | y :: Q => by
    unfold insR
    cases c x y
    · exact List.Perm.refl _
    · exact (List.Perm.cons y (insR_perm c x Q)).trans (List.Perm.swap x y Q)
theorem insR_len (c : Int → Int → Bool) (x : Int) (Q : List Int) : (insR c x Q).length = Q.length + 1 := (insR_perm c x Q).length_eq
theorem srt_perm (c : Int → Int → Bool) : ∀ r Q, (srt c Q r).Perm (r ++ Q)
  | [], Q => List.Perm.refl _
  | x :: r, Q => by
    unfold srt
    refine (srt_perm c r _).trans (((insR_perm c x Q).append_left r).trans ?_)
    exact List.perm_middle
theorem insR_sort {c : Int → Int → Bool} {R : Int → Int → Prop} (ht : ∀ i j k, R i j → R j k → R i k) {x : Int} : ∀ {Q : List Int}, (∀ y ∈ Q, (c x y = true → R x y) ∧ (c x y = false → R y x)) → Q.Pairwise (fun a b => R b a) → (insR c x Q).Pairwise (fun a b => R b a)
  | [], _, _ => by simp [insR]
  | y :: Q, h, hp => by
    rw [List.pairwise_cons] at hp
    unfold insR
    cases e : c x y
    · rw [cond_false]
      have hy := (h y (by simp)).2 e
      refine List.pairwise_cons.2 ⟨fun z hz => ?_, List.pairwise_cons.2 hp⟩
      rcases List.mem_cons.1 hz with e' | hz
      · subst e'; exact hy
      · exact ht _ _ _ (hp.1 z hz) hy
    · rw [cond_true]
      refine List.pairwise_cons.2 ⟨fun z hz => ?_, insR_sort ht (fun y hy => h y (by simp [hy])) hp.2⟩
      rcases List.mem_cons.1 ((insR_perm c x Q).mem_iff.1 hz) with e' | hz
      · subst e'; exact (h y (by simp)).1 e
      · exact hp.1 z hz
theorem srt_sort {c : Int → Int → Bool} {R : Int → Int → Prop} (ht : ∀ i j k, R i j → R j k → R i k) {P : Int → Prop} (hc : ∀ x y, P x → P y → y < x → (c x y = true → R x y) ∧ (c x y = false → R y x)) : ∀ {r Q : List Int}, (∀ x ∈ r, P x) → (∀ x ∈ Q, P x) → (∀ x ∈ r, ∀ y ∈ Q, y < x) → r.Pairwise (· < ·) → Q.Pairwise (fun a b => R b a) → (srt c Q r).Pairwise (fun a b => R b a)
  | [], Q, _, _, _, _, hQ => hQ
  | x :: r, Q, pr, pQ, hlt, hr, hQ => by
    unfold srt
    rw [List.pairwise_cons] at hr
    refine srt_sort ht hc (fun y hy => pr y (by simp [hy])) (fun y hy => ?_) (fun y hy z hz => ?_) hr.2 (insR_sort ht (fun y hy => hc x y (pr x (by simp)) (pQ y hy) (hlt x (by simp) y hy)) hQ)
    · rcases List.mem_cons.1 ((insR_perm c x Q).mem_iff.1 hy) with e | hy
      · subst e; exact pr y (by simp)
      · exact pQ y hy
    · rcases List.mem_cons.1 ((insR_perm c x Q).mem_iff.1 hz) with e | hz
      · subst e; exact hr.1 y hy
      · exact hlt y (by simp [hy]) z hz

theorem idx_at {α : Type} {A r : List α} {y : α} {k : Nat} (h : A.length = k) : idx (A ++ y :: r) (k : Int) = some y := by
  rw [idx_nat (by simp; omega)]
  simp [← h]
theorem set_at {α : Type} {A r : List α} {y z : α} {k : Nat} (h : A.length = k) : (A ++ y :: r).set k z = A ++ z :: r := by
  subst h
  induction A with
  | nil => rfl
  | cons a A ih => simp only [List.cons_append, List.length_cons, List.set_cons_succ, ih]
def cm86 (l : List (Int × Int)) (x y : Int) : Bool := decide ((sh l x).1 < (sh l y).1)
def cm87 (l : List (Int × Int)) (x y : Int) : Bool := decide ((sh l y).2 < (sh l x).2)
theorem cmp86 (n : Nat × Nat) {l : List (Int × Int)} (hb : ∀ s ∈ l, Ok s) {i j : Int} (hi : 0 ≤ i ∧ i < l.length) (hj : 0 ≤ j ∧ j < l.length) : ∃ r : Int, D86 n i j l = some r ∧ decide (r < 0) = cm86 l i j := by
  unfold D86 cm86
  rw [idx_sh hi.1 hi.2, idx_sh hj.1 hj.2]
  have o1 := hb _ (sh_mem hi.1 hi.2)
  have o2 := hb _ (sh_mem hj.1 hj.2)
  unfold Ok at o1 o2
  refine ⟨(sh l i).1 - (sh l j).1, ?_, ?_⟩
  · simp only [Option.bind_some]
    rw [wr_ok (by omega) (by omega)]
  · exact decide_eq_decide.2 (by omega)
theorem cmp87 (n : Nat × Nat) {l : List (Int × Int)} (hb : ∀ s ∈ l, Ok s) {i j : Int} (hi : 0 ≤ i ∧ i < l.length) (hj : 0 ≤ j ∧ j < l.length) : ∃ r : Int, D87 n i j l = some r ∧ decide (r < 0) = cm87 l i j := by
  unfold D87 cm87
  rw [idx_sh hi.1 hi.2, idx_sh hj.1 hj.2]
  have o1 := hb _ (sh_mem hi.1 hi.2)
  have o2 := hb _ (sh_mem hj.1 hj.2)
  unfold Ok at o1 o2
  refine ⟨(sh l j).2 - (sh l i).2, ?_, ?_⟩
  · simp only [Option.bind_some]
    rw [wr_ok (by omega) (by omega)]
  · exact decide_eq_decide.2 (by omega)

theorem in86_loop (n : Nat × Nat) (l : List (Int × Int)) (hb : ∀ s ∈ l, Ok s) (f : Int → Int → Int → List Int → List (Int × Int) → Option R95c86io1001) (b i : Int) (x : Int) (hx : 0 ≤ x ∧ x < l.length) : ∀ (m : Nat) (Q T : List Int), Q.length < m → Q.length < 1000 → (∀ y ∈ Q, 0 ≤ y ∧ y < l.length) →
    DL95c86io1001_2 n f m 0 b i (Q.length : Int) (Q.reverse ++ x :: T) l = f 0 b (wr .i64 (i + 1)) ((insR (cm86 l) x Q).reverse ++ T) l
  | 0, Q, T, h, _, _ => by omega
  | m + 1, [], T, h, _, hQ => by
    rw [DL95c86io1001_2_succ]
    unfold DF95c86io1001_2
    simp [insR]
  | m + 1, y :: Q, T, h, h8, hQ => by
    rw [DL95c86io1001_2_succ]
    unfold DF95c86io1001_2
    rw [List.length_cons] at h h8
    have hy := hQ y (by simp)
    obtain ⟨r, hr, hd⟩ := cmp86 n hb hx hy
    have ih := in86_loop n l hb f b i x hx m Q (y :: T) (by omega) (by omega) (fun z hz => hQ z (by simp [hz]))
    have e : (y :: Q).reverse ++ x :: T = Q.reverse ++ y :: x :: T := by simp
    have w : wr .i64 (((y :: Q).length : Int) - 1) = (Q.length : Int) := by rw [List.length_cons, wr_ok (by omega) (by omega)]; omega
    have a1 : ∀ T' : List Int, idx (Q.reverse ++ y :: x :: T') ((y :: Q).length : Int) = some x := fun T' => by
      have := idx_at (A := Q.reverse ++ [y]) (r := T') (y := x) (k := (y :: Q).length) (by simp)
      simpa using this
    have a2 : ∀ T' : List Int, idx (Q.reverse ++ y :: T') (Q.length : Int) = some y := fun T' => idx_at (by simp)
    have a3 : (Q.reverse ++ y :: x :: T).set (y :: Q).length y = Q.reverse ++ y :: y :: T := by
      have := set_at (A := Q.reverse ++ [y]) (r := T) (y := x) (z := y) (k := (y :: Q).length) (by simp)
      rw [List.append_assoc, List.append_assoc] at this
      exact this
    have a4 : (Q.reverse ++ y :: y :: T).set Q.length x = Q.reverse ++ x :: y :: T := set_at (by simp)
    rw [e]
    rw [decide_eq_true (show (((y :: Q).length : Nat) : Int) > 0 by rw [List.length_cons]; omega), w]
    simp only [beq_self_eq_true, cond_true]
    rw [inB_nat (show (y :: Q).length < (Q.reverse ++ y :: x :: T).length by simp <;> omega), inB_nat (show Q.length < (Q.reverse ++ y :: x :: T).length by simp <;> omega)]
    simp only [cond_true, a1, a2, Option.bind_some, hr, hd]
    unfold insR
    cases cm86 l x y
    · simp only [cond_false]
      congr 1
      simp
    · simp only [cond_true]
      rw [Int.toNat_natCast, Int.toNat_natCast, a3, a2, inB_nat (show Q.length < (Q.reverse ++ y :: y :: T).length by simp <;> omega)]
      simp only [cond_true, Option.bind_some, a4, ih]
      congr 1
      simp
theorem so86_loop (n : Nat × Nat) (hn : 1000 ≤ n.1) (l : List (Int × Int)) (hb : ∀ s ∈ l, Ok s) : ∀ (m : Nat) (r Q : List Int), r.length < m → Q.length + r.length < 900 → (∀ y ∈ Q, 0 ≤ y ∧ y < l.length) → (∀ y ∈ r, 0 ≤ y ∧ y < l.length) →
    DL95c86io1001_1 n m 0 ((Q.length + r.length : Nat) : Int) (Q.length : Int) (Q.reverse ++ r) l = some ((), (srt (cm86 l) Q r).reverse, l, ())
  | 0, r, Q, h, _, _, _ => by omega
  | m + 1, [], Q, h, _, _, _ => by
    rw [DL95c86io1001_1_succ]
    unfold DF95c86io1001_1
    rw [dlt_f (by simp), cond_false]
    simp [srt]
  | m + 1, x :: r, Q, h, h8, hQ, hr => by
    rw [DL95c86io1001_1_succ]
    unfold DF95c86io1001_1
    rw [List.length_cons] at h h8
    have ih := so86_loop n hn l hb m r (insR (cm86 l) x Q) (by omega) (by rw [insR_len]; omega) (fun y hy => by
      rcases List.mem_cons.1 ((insR_perm _ x Q).mem_iff.1 hy) with e | hy
      · subst e; exact hr y (by simp)
      · exact hQ y hy) (fun y hy => hr y (by simp [hy]))
    rw [dlt_t (by simp), cond_true, in86_loop n l hb _ _ _ x (hr x (by simp)) n.1 Q r (by omega) (by omega) hQ, wr_succ (by omega)]
    rw [insR_len] at ih
    rw [show Q.length + 1 + r.length = Q.length + (x :: r).length by rw [List.length_cons]; omega] at ih
    rw [ih]
    rfl
theorem sort86_eq {n : Nat × Nat} (hn : 1000 ≤ n.1) {l : List (Int × Int)} (hb : ∀ s ∈ l, Ok s) {r : List Int} (h7 : r.length ≤ 7) (hr : ∀ y ∈ r, 0 ≤ y ∧ y < l.length) : D85c86io11 n r l = some ((), (srt (cm86 l) [] r).reverse, l, ()) := by
  have h95 : D95c86io1001 n r 0 (r.length : Int) l = some ((), (srt (cm86 l) [] r).reverse, l, ()) := by
    unfold D95c86io1001
    match r, h7, hr with
    | [], _, _ =>
      have : n.1 = (n.1 - 1) + 1 := by omega
      rw [this, DL95c86io1001_1_succ]
      unfold DF95c86io1001_1
      rw [show wr .i64 ((0 : Int) + 1) = 1 by rw [wr_ok (by omega) (by omega)]; omega]
      rfl
    | x :: r, h7, hr =>
      have := so86_loop n hn l hb n.1 r [x] (by simp at h7; omega) (by simp at h7 ⊢; omega) (fun y hy => by rw [List.mem_singleton] at hy; subst hy; exact hr y (by simp)) (fun y hy => hr y (by simp [hy]))
      rw [show wr .i64 ((0 : Int) + 1) = 1 by rw [wr_ok (by omega) (by omega)]; omega]
      simpa [srt, insR, Nat.add_comm] using this
  have hl : (srt (cm86 l) [] r).reverse.length = r.length := by
    rw [List.length_reverse, (srt_perm (cm86 l) r []).length_eq]
    simp
  have h94 : D94c86io101 n r (r.length : Int) l = some ((), (srt (cm86 l) [] r).reverse, l, ()) := by
    unfold D94c86io101
    obtain ⟨k, hk⟩ : ∃ k, n.1 = k + 1 := ⟨n.1 - 1, by omega⟩
    rw [hk, DL94c86io101_1_succ]
    unfold DF94c86io101_1
    rw [decide_eq_false (show ¬ (20 : Int) ≤ (r.length : Int) by omega), cond_false, h95]
    simp only [Option.bind_some]
    rw [show Nat.beq (srt (cm86 l) [] r).reverse.length r.length = true by rw [hl]; exact Nat.beq_refl _, cond_true, hk, DL94c86io101_2_succ]
    unfold DF94c86io101_2
    rw [decide_eq_false (show ¬ (20 : Int) < (r.length : Int) by omega), cond_false]
  unfold D85c86io11
  rw [h94]
  simp only [Option.bind_some]
  rw [show Nat.beq (srt (cm86 l) [] r).reverse.length r.length = true by rw [hl]; exact Nat.beq_refl _, cond_true]

theorem in87_loop (n : Nat × Nat) (l : List (Int × Int)) (hb : ∀ s ∈ l, Ok s) (f : Int → Int → Int → List Int → List (Int × Int) → Option R95c87io1001) (b i : Int) (x : Int) (hx : 0 ≤ x ∧ x < l.length) : ∀ (m : Nat) (Q T : List Int), Q.length < m → Q.length < 1000 → (∀ y ∈ Q, 0 ≤ y ∧ y < l.length) →
    DL95c87io1001_2 n f m 0 b i (Q.length : Int) (Q.reverse ++ x :: T) l = f 0 b (wr .i64 (i + 1)) ((insR (cm87 l) x Q).reverse ++ T) l
  | 0, Q, T, h, _, _ => by omega
  | m + 1, [], T, h, _, hQ => by
    rw [DL95c87io1001_2_succ]
    unfold DF95c87io1001_2
    simp [insR]
  | m + 1, y :: Q, T, h, h8, hQ => by
    rw [DL95c87io1001_2_succ]
    unfold DF95c87io1001_2
    rw [List.length_cons] at h h8
    have hy := hQ y (by simp)
    obtain ⟨r, hr, hd⟩ := cmp87 n hb hx hy
    have ih := in87_loop n l hb f b i x hx m Q (y :: T) (by omega) (by omega) (fun z hz => hQ z (by simp [hz]))
    have e : (y :: Q).reverse ++ x :: T = Q.reverse ++ y :: x :: T := by simp
    have w : wr .i64 (((y :: Q).length : Int) - 1) = (Q.length : Int) := by rw [List.length_cons, wr_ok (by omega) (by omega)]; omega
    have a1 : ∀ T' : List Int, idx (Q.reverse ++ y :: x :: T') ((y :: Q).length : Int) = some x := fun T' => by
      have := idx_at (A := Q.reverse ++ [y]) (r := T') (y := x) (k := (y :: Q).length) (by simp)
      simpa using this
    have a2 : ∀ T' : List Int, idx (Q.reverse ++ y :: T') (Q.length : Int) = some y := fun T' => idx_at (by simp)
    have a3 : (Q.reverse ++ y :: x :: T).set (y :: Q).length y = Q.reverse ++ y :: y :: T := by
      have := set_at (A := Q.reverse ++ [y]) (r := T) (y := x) (z := y) (k := (y :: Q).length) (by simp)
      rw [List.append_assoc, List.append_assoc] at this
      exact this
    have a4 : (Q.reverse ++ y :: y :: T).set Q.length x = Q.reverse ++ x :: y :: T := set_at (by simp)
    rw [e]
    rw [decide_eq_true (show (((y :: Q).length : Nat) : Int) > 0 by rw [List.length_cons]; omega), w]
    simp only [beq_self_eq_true, cond_true]
    rw [inB_nat (show (y :: Q).length < (Q.reverse ++ y :: x :: T).length by simp <;> omega), inB_nat (show Q.length < (Q.reverse ++ y :: x :: T).length by simp <;> omega)]
    simp only [cond_true, a1, a2, Option.bind_some, hr, hd]
    unfold insR
    cases cm87 l x y
    · simp only [cond_false]
      congr 1
      simp
    · simp only [cond_true]
      rw [Int.toNat_natCast, Int.toNat_natCast, a3, a2, inB_nat (show Q.length < (Q.reverse ++ y :: y :: T).length by simp <;> omega)]
      simp only [cond_true, Option.bind_some, a4, ih]
      congr 1
      simp
theorem so87_loop (n : Nat × Nat) (hn : 1000 ≤ n.1) (l : List (Int × Int)) (hb : ∀ s ∈ l, Ok s) : ∀ (m : Nat) (r Q : List Int), r.length < m → Q.length + r.length < 900 → (∀ y ∈ Q, 0 ≤ y ∧ y < l.length) → (∀ y ∈ r, 0 ≤ y ∧ y < l.length) →
    DL95c87io1001_1 n m 0 ((Q.length + r.length : Nat) : Int) (Q.length : Int) (Q.reverse ++ r) l = some ((), (srt (cm87 l) Q r).reverse, l, ())
  | 0, r, Q, h, _, _, _ => by omega
  | m + 1, [], Q, h, _, _, _ => by
    rw [DL95c87io1001_1_succ]
    unfold DF95c87io1001_1
    rw [dlt_f (by simp), cond_false]
    simp [srt]
  | m + 1, x :: r, Q, h, h8, hQ, hr => by
    rw [DL95c87io1001_1_succ]
    unfold DF95c87io1001_1
    rw [List.length_cons] at h h8
    have ih := so87_loop n hn l hb m r (insR (cm87 l) x Q) (by omega) (by rw [insR_len]; omega) (fun y hy => by
      rcases List.mem_cons.1 ((insR_perm _ x Q).mem_iff.1 hy) with e | hy
      · subst e; exact hr y (by simp)
      · exact hQ y hy) (fun y hy => hr y (by simp [hy]))
    rw [dlt_t (by simp), cond_true, in87_loop n l hb _ _ _ x (hr x (by simp)) n.1 Q r (by omega) (by omega) hQ, wr_succ (by omega)]
    rw [insR_len] at ih
    rw [show Q.length + 1 + r.length = Q.length + (x :: r).length by rw [List.length_cons]; omega] at ih
    rw [ih]
    rfl
theorem sort87_eq {n : Nat × Nat} (hn : 1000 ≤ n.1) {l : List (Int × Int)} (hb : ∀ s ∈ l, Ok s) {r : List Int} (h7 : r.length ≤ 7) (hr : ∀ y ∈ r, 0 ≤ y ∧ y < l.length) : D85c87io11 n r l = some ((), (srt (cm87 l) [] r).reverse, l, ()) := by
  have h95 : D95c87io1001 n r 0 (r.length : Int) l = some ((), (srt (cm87 l) [] r).reverse, l, ()) := by
    unfold D95c87io1001
    match r, h7, hr with
    | [], _, _ =>
      have : n.1 = (n.1 - 1) + 1 := by omega
      rw [this, DL95c87io1001_1_succ]
      unfold DF95c87io1001_1
      rw [show wr .i64 ((0 : Int) + 1) = 1 by rw [wr_ok (by omega) (by omega)]; omega]
      rfl
    | x :: r, h7, hr =>
      have := so87_loop n hn l hb n.1 r [x] (by simp at h7; omega) (by simp at h7 ⊢; omega) (fun y hy => by rw [List.mem_singleton] at hy; subst hy; exact hr y (by simp)) (fun y hy => hr y (by simp [hy]))
      rw [show wr .i64 ((0 : Int) + 1) = 1 by rw [wr_ok (by omega) (by omega)]; omega]
      simpa [srt, insR, Nat.add_comm] using this
  have hl : (srt (cm87 l) [] r).reverse.length = r.length := by
    rw [List.length_reverse, (srt_perm (cm87 l) r []).length_eq]
    simp
  have h94 : D94c87io101 n r (r.length : Int) l = some ((), (srt (cm87 l) [] r).reverse, l, ()) := by
    unfold D94c87io101
    obtain ⟨k, hk⟩ : ∃ k, n.1 = k + 1 := ⟨n.1 - 1, by omega⟩
    rw [hk, DL94c87io101_1_succ]
    unfold DF94c87io101_1
    rw [decide_eq_false (show ¬ (20 : Int) ≤ (r.length : Int) by omega), cond_false, h95]
    simp only [Option.bind_some]
    rw [show Nat.beq (srt (cm87 l) [] r).reverse.length r.length = true by rw [hl]; exact Nat.beq_refl _, cond_true, hk, DL94c87io101_2_succ]
    unfold DF94c87io101_2
    rw [decide_eq_false (show ¬ (20 : Int) < (r.length : Int) by omega), cond_false]
  unfold D85c87io11
  rw [h94]
  simp only [Option.bind_some]
  rw [show Nat.beq (srt (cm87 l) [] r).reverse.length r.length = true by rw [hl]; exact Nat.beq_refl _, cond_true]

def ix (n : Nat) : List Int := (List.range n).map fun i : Nat => (i : Int)
theorem ix_succ (n : Nat) : ix (n + 1) = ix n ++ [(n : Int)] := by simp [ix, List.range_succ]
theorem ix_mem {n : Nat} {i : Int} : i ∈ ix n ↔ 0 ≤ i ∧ i < n := by
  unfold ix
  rw [List.mem_map]
  constructor
  · rintro ⟨k, hk, e⟩
    rw [List.mem_range] at hk
    omega
  · intro h
    exact ⟨i.toNat, List.mem_range.2 (by omega), by omega⟩
theorem ix_lt (n : Nat) : (ix n).Pairwise (· < ·) := by
  unfold ix
  rw [List.pairwise_map]
  exact List.Pairwise.imp (fun h => by omega) (List.pairwise_lt_range (n := n))
theorem ix_len (n : Nat) : (ix n).length = n := by simp [ix]
def fa (l : List (Int × Int)) (i : Int) : Bool := decide ((sh l i).1 < (sh l i).2)
def frt (l : List (Int × Int)) (k : Nat) : List Int := (ix k).filter (fa l)
def bck (l : List (Int × Int)) (k : Nat) : List Int := (ix k).filter fun i => !fa l i
/-- The order of the rule. -/
def rl (l : List (Int × Int)) : List Int := (srt (cm86 l) [] (frt l l.length)).reverse ++ (srt (cm87 l) [] (bck l l.length)).reverse
theorem frt_len (l : List (Int × Int)) (k : Nat) : (frt l k).length ≤ k := by
  have := List.length_filter_le (fa l) (ix k)
  rw [ix_len] at this
  exact this
theorem bck_len (l : List (Int × Int)) (k : Nat) : (bck l k).length ≤ k := by
  have := List.length_filter_le (fun i => !fa l i) (ix k)
  rw [ix_len] at this
  exact this

theorem rl_perm (l : List (Int × Int)) : (rl l).Perm (ix l.length) := by
  unfold rl
  have h1 := (List.reverse_perm (srt (cm86 l) [] (frt l l.length))).trans (srt_perm (cm86 l) (frt l l.length) [])
  have h2 := (List.reverse_perm (srt (cm87 l) [] (bck l l.length))).trans (srt_perm (cm87 l) (bck l l.length) [])
  rw [List.append_nil] at h1 h2
  exact (h1.append h2).trans (List.filter_append_perm (fa l) (ix l.length))
theorem rl_ord (l : List (Int × Int)) : Ord l.length (rl l) := by
  have h := rl_perm l
  refine ⟨by rw [h.length_eq, ix_len], fun i hi => ix_mem.1 (h.mem_iff.1 hi), ?_⟩
  refine h.symm.nodup ?_
  exact List.Pairwise.imp (fun h => by omega) (ix_lt l.length)
theorem rl_sort (l : List (Int × Int)) : (rl l).Pairwise (Bef l) := by
  unfold rl
  have p1 := srt_perm (cm86 l) (frt l l.length) []
  have p2 := srt_perm (cm87 l) (bck l l.length) []
  rw [List.append_nil] at p1 p2
  have ff : ∀ x ∈ frt l l.length, fa l x = true := fun x hx => (List.mem_filter.1 hx).2
  have fb : ∀ x ∈ bck l l.length, fa l x = false := fun x hx => by simpa using (List.mem_filter.1 hx).2
  refine List.pairwise_append.2 ⟨List.pairwise_reverse.2 ?_, List.pairwise_reverse.2 ?_, fun a ha b hb => ?_⟩
  · refine srt_sort (R := Bef l) (fun i j k => Bef.trans) (P := fun x => fa l x = true) (fun x y hx hy hlt => ?_) ff (fun x hx => by simp at hx) (fun x hx y hy => by simp at hy) (List.Pairwise.filter _ (ix_lt _)) List.Pairwise.nil
    unfold fa at hx hy
    unfold cm86 Bef
    rw [decide_eq_true_iff] at hx hy
    rw [decide_eq_true_iff, decide_eq_false_iff_not]
    omega
  · refine srt_sort (R := Bef l) (fun i j k => Bef.trans) (P := fun x => fa l x = false) (fun x y hx hy hlt => ?_) fb (fun x hx => by simp at hx) (fun x hx y hy => by simp at hy) (List.Pairwise.filter _ (ix_lt _)) List.Pairwise.nil
    unfold fa at hx hy
    unfold cm87 Bef
    rw [decide_eq_false_iff_not] at hx hy
    rw [decide_eq_true_iff, decide_eq_false_iff_not]
    omega
  · rw [List.mem_reverse] at ha hb
    have h1 := ff a (p1.mem_iff.1 ha)
    have h2 := fb b (p2.mem_iff.1 hb)
    unfold fa at h1 h2
    rw [decide_eq_true_iff] at h1
    rw [decide_eq_false_iff_not] at h2
    exact .inl ⟨h1, h2⟩

theorem rule_loop (n : Nat × Nat) (hn : 1000 ≤ n.1) (l : List (Int × Int)) (hl : l.length ≤ 7) (hb : ∀ s ∈ l, Ok s) : ∀ (m k : Nat), k ≤ l.length → l.length - k < m →
    DL69_1 n m l (l.length : Int) (k : Int) l (frt l k) (bck l k) = some (rl l)
  | 0, k, _, h => by omega
  | m + 1, k, hk, h => by
    rw [DL69_1_succ]
    unfold DF69_1
    by_cases hlt : k < l.length
    · have ih := rule_loop n hn l hl hb m (k + 1) (by omega) (by omega)
      have hj2 : ∀ a b, DL69_2 n (DL69_1 n m) l (l.length : Int) (k : Int) l a b = DL69_1 n m l (l.length : Int) (wr .i64 ((k : Int) + 1)) l a b := fun a b => rfl
      have e1 := frt_len l k
      have e2 := bck_len l k
      rw [dlt_t hlt, cond_true, idx_nat hlt, Option.bind_some, hj2, hj2, wr_succ (by omega), lim_dec (by omega), lim_dec (by omega), cond_true, cond_true, ← ih]
      have hsh : sh l (k : Int) = l[k] := by simp [sh, hlt]
      by_cases f : l[k].1 < l[k].2
      · rw [decide_eq_true f, cond_true]
        have hf : fa l (k : Int) = true := by unfold fa; rw [hsh]; exact decide_eq_true f
        unfold frt bck
        rw [ix_succ, List.filter_append, List.filter_append]
        simp [hf]
      · rw [decide_eq_false f, cond_false]
        have hf : fa l (k : Int) = false := by unfold fa; rw [hsh]; exact decide_eq_false f
        unfold frt bck
        rw [ix_succ, List.filter_append, List.filter_append]
        simp [hf]
    · have : k = l.length := by omega
      subst this
      have e1 := frt_len l l.length
      have e2 := bck_len l l.length
      have p1 := (srt_perm (cm86 l) (frt l l.length) []).length_eq
      have p2 := (srt_perm (cm87 l) (bck l l.length) []).length_eq
      rw [List.append_nil] at p1 p2
      rw [dlt_f (by omega), cond_false, sort86_eq (r := frt l l.length) hn hb (by omega) (fun y hy => ix_mem.1 (List.mem_filter.1 hy).1), Option.bind_some]
      simp only []
      rw [show Nat.beq (srt (cm86 l) [] (frt l l.length)).reverse.length (frt l l.length).length = true by rw [List.length_reverse, p1]; exact Nat.beq_refl _, cond_true, sort87_eq (r := bck l l.length) hn hb (by omega) (fun y hy => ix_mem.1 (List.mem_filter.1 hy).1), Option.bind_some]
      simp only []
      rw [show Nat.beq (srt (cm87 l) [] (bck l l.length)).reverse.length (bck l l.length).length = true by rw [List.length_reverse, p2]; exact Nat.beq_refl _, cond_true, decide_eq_true (by simp [lim, p1, p2]; omega), cond_true]
      rfl
theorem rule_eq {n : Nat × Nat} (hn : 1000 ≤ n.1) {l : List (Int × Int)} (hg : Good l) : D69 n l = some (rl l) := by
  unfold D69
  exact rule_loop n hn l hg.len hg.ok n.1 0 (by omega) (by have := hg.len; omega)
def ruleS (l : List (Int × Int)) : List Int × Int := if chk l ≠ 0 then ([], chk l) else (rl l, 0)
theorem Rule_eq {n : Nat × Nat} (hn : 1000 ≤ n.1) (l : List (Int × Int)) : D27 n l = some (ruleS l) := by
  unfold D27 ruleS
  rw [chk_eq hn, Option.bind_some]
  by_cases h : chk l = 0
  · rw [show (chk l != 0) = false by simp [h], cond_false, if_neg (by simpa using h), rule_eq hn (chk_good.1 h)]
    rfl
  · rw [show (chk l != 0) = true by simpa using h, cond_true, if_pos h]

/-- How many of the first k are before one. -/
def cnt (l : List (Int × Int)) (i : Int) (k : Nat) : Nat := ((ix k).filter fun j => decide (j ≠ i) && decide (Bef l j i)).length
theorem place_loop (n : Nat × Nat) (l : List (Int × Int)) (hl : l.length ≤ 7) (f : List (Int × Int) → Int → List Int → Option R28) (i : Int) (hi : 0 ≤ i ∧ i < l.length) (out : List Int) (ho : out.length = l.length) (hc : cnt l i l.length < l.length) : ∀ (m k : Nat), k ≤ l.length → l.length - k < m →
    DL28_2 n f m l i (cnt l i k : Int) (k : Int) out = f l (wr .i64 (i + 1)) (out.set (cnt l i l.length) i)
  | 0, k, _, h => by omega
  | m + 1, k, hk, h => by
    rw [DL28_2_succ]
    unfold DF28_2
    by_cases hlt : k < l.length
    · have ih := place_loop n l hl f i hi out ho hc m (k + 1) (by omega) (by omega)
      have hj3 : ∀ v : Int, DL28_3 n f (DL28_2 n f m) l i v (k : Int) out = DL28_2 n f m l i v (wr .i64 ((k : Int) + 1)) out := fun v => rfl
      have hle : cnt l i k ≤ k := by
        have := List.length_filter_le (fun j => decide (j ≠ i) && decide (Bef l j i)) (ix k)
        rw [ix_len] at this
        exact this
      rw [dlt_t hlt, cond_true, before_eq n ⟨by omega, by omega⟩ hi, hj3, hj3, wr_succ (k := k) (by omega), wr_succ (k := cnt l i k) (by omega)]
      have e : cnt l i (k + 1) = cnt l i k + (if (k : Int) ≠ i ∧ Bef l (k : Int) i then 1 else 0) := by
        unfold cnt
        rw [ix_succ, List.filter_append, List.length_append]
        congr 1
        by_cases c : (k : Int) ≠ i ∧ Bef l (k : Int) i
        · rw [if_pos c]; simp [c]
        · rw [if_neg c]
          have : (decide ((k : Int) ≠ i) && decide (Bef l (k : Int) i)) = false := by
            rw [← Bool.not_eq_true, Bool.and_eq_true, decide_eq_true_iff, decide_eq_true_iff]
            exact c
          rw [List.filter_cons, this]; rfl
      simp only [Option.bind_some]
      by_cases c1 : (k : Int) = i
      · rw [show ((k : Int) != i) = false by simp [c1]]
        simp only [show (false == true) = false from rfl, cond_false, Option.bind_some]
        rw [if_neg (by simp [c1])] at e
        rw [← ih, e]
        rfl
      · rw [show ((k : Int) != i) = true by simpa using c1]
        simp only [beq_self_eq_true, cond_true, Option.bind_some]
        by_cases c2 : Bef l (k : Int) i
        · rw [if_pos ⟨c1, c2⟩] at e
          rw [decide_eq_true c2, cond_true, ← ih, e]
        · rw [if_neg (fun h => c2 h.2)] at e
          rw [decide_eq_false c2, cond_false, ← ih, e]
          rfl
    · have : k = l.length := by omega
      subst this
      rw [dlt_f (by omega), cond_false, inB_nat (by omega), cond_true, idx_nat (by omega), Option.bind_some, Int.toNat_natCast]
/-- At its place in the rule's order stands each sheet. -/
theorem cnt_place {l : List (Int × Int)} {k : Nat} (hk : k < (rl l).length) : cnt l (rl l)[k] l.length = k := by
  have hs := rl_sort l
  have hp := rl_perm l
  unfold cnt
  have := (hp.filter fun j => decide (j ≠ (rl l)[k]) && decide (Bef l j (rl l)[k])).length_eq
  rw [← this]
  have hl : rl l = (rl l).take k ++ (rl l)[k] :: (rl l).drop (k + 1) := by rw [← drop_cons hk, List.take_append_drop]
  have hlen : ((rl l).take k).length = k := by rw [List.length_take]; omega
  generalize (rl l)[k] = x at hl ⊢
  rw [hl] at hs ⊢
  generalize (rl l).take k = A at hs hlen ⊢
  generalize (rl l).drop (k + 1) = B at hs ⊢
  rw [List.pairwise_append, List.pairwise_cons] at hs
  obtain ⟨_, ⟨pB, _⟩, pA⟩ := hs
  rw [List.filter_append, List.filter_cons]
  have eA : A.filter (fun j => decide (j ≠ x) && decide (Bef l j x)) = A := List.filter_eq_self.2 fun a ha => by
    have := pA a ha x (by simp)
    have hne : a ≠ x := fun e => by subst e; exact this.irrefl
    simp [hne, this]
  have eB : B.filter (fun j => decide (j ≠ x) && decide (Bef l j x)) = [] := List.filter_eq_nil_iff.2 fun b hb => by
    have := (pB b hb).asymm
    simp [this]
  rw [eA, eB]
  simp [hlen]
theorem rrule_loop (n : Nat × Nat) (hn : 1000 ≤ n.1) (l : List (Int × Int)) (hl : l.length ≤ 7) : ∀ (m k : Nat) (out : List Int), k ≤ l.length → l.length - k < m → out.length = l.length →
    (∀ p (hp : p < (rl l).length), (rl l)[p] < k → out[p]? = some (rl l)[p]) → DL28_1 n m l (k : Int) out = some (rl l, 0)
  | 0, k, out, _, h, _, _ => by omega
  | m + 1, k, out, hk, h, ho, hp => by
    have hrl := (rl_ord l).len
    rw [DL28_1_succ]
    unfold DF28_1
    by_cases hlt : k < l.length
    · have hin : (k : Int) ∈ rl l := (rl_perm l).mem_iff.2 (ix_mem.2 ⟨by omega, by omega⟩)
      obtain ⟨q, hq, eq⟩ := List.getElem_of_mem hin
      have hc : cnt l (k : Int) l.length = q := by rw [← eq]; exact cnt_place hq
      have c0 : cnt l (k : Int) 0 = 0 := rfl
      have := place_loop n l hl (DL28_1 n m) (k : Int) ⟨by omega, by omega⟩ out ho (by omega) n.1 0 (by omega) (by omega)
      rw [c0] at this
      rw [dlt_t hlt, cond_true]
      refine this.trans ?_
      rw [hc, wr_succ (by omega)]
      refine rrule_loop n hn l hl m (k + 1) _ (by omega) (by omega) (by simp [ho]) (fun p hp' hlt' => ?_)
      by_cases e : p = q
      · subst e
        rw [List.getElem?_set_self (by omega), eq]
      · rw [List.getElem?_set_ne (fun h => e h.symm)]
        refine hp p hp' ?_
        have hne : (rl l)[p] ≠ (k : Int) := fun e' => by
          have hnd := (rl_ord l).nodup
          rw [← eq] at e'
          exact e ((List.getElem_inj hnd).1 e')
        omega
    · rw [dlt_f hlt, cond_false]
      congr 2
      apply List.ext_getElem?
      intro p
      by_cases h' : p < (rl l).length
      · have := (rl_ord l).rng _ (List.getElem_mem h')
        rw [hp p h' (by omega), List.getElem?_eq_getElem h']
      · rw [List.getElem?_eq_none (by omega), List.getElem?_eq_none (by omega)]
theorem rRule_eq {n : Nat × Nat} (hn : 1000 ≤ n.1) (l : List (Int × Int)) : D28 n l = some (ruleS l) := by
  unfold D28 ruleS
  rw [chkr_eq hn, Option.bind_some]
  by_cases h : chk l = 0
  · have hg := chk_good.1 h
    have h7 := hg.len
    rw [show (chk l != 0) = false by simp [h], cond_false, if_neg (by simpa using h)]
    rw [decide_eq_true (show (0 : Int) ≤ (l.length : Int) by omega), decide_eq_true (Int.le_refl _), decide_eq_true (show (l.length : Int) ≤ lim by simp [lim]; omega), Bool.and_self, Bool.and_self, cond_true, Int.toNat_natCast]
    exact rrule_loop n hn l h7 n.1 0 _ (by omega) (by omega) (by simp) (fun p hp hlt => by
      have := (rl_ord l).rng _ (List.getElem_mem hp)
      omega)
  · rw [show (chk l != 0) = true by simpa using h, cond_true, if_pos h]

/-- The sheets of the rule's order, and their time: that of the best orders. -/
theorem rl_bf (l : List (Int × Int)) : (pk l (rl l)).Pairwise Bf := by
  unfold pk
  rw [List.pairwise_map]
  exact List.Pairwise.imp (fun h => h.bf) (rl_sort l)
theorem johnson {l : List (Int × Int)} (hg : Good l) : ∃ m s, (m = 0 ∨ m = 1) ∧ s ∈ l ∧ tm 0 0 (pk l (rl l)) = bnd l m (hr m s) := by
  have ho := rl_ord l
  obtain ⟨m, s, hm, hs, e⟩ := strong (ord_pk hg ho).1 (pk_ok hg ho) (rl_bf l)
  exact ⟨m, s, hm, (pk_perm ho).mem_iff.1 hs, by rw [e, bnd_perm m (hr m s) (pk_perm ho)]⟩
theorem bnd_le {l : List (Int × Int)} {o : List Int} (ho : Ord l.length o) {m : Int} (hm : m = 0 ∨ m = 1) {s : Int × Int} (hs : s ∈ l) : bnd l m (hr m s) ≤ tm 0 0 (pk l o) := by
  rw [← bnd_perm m (hr m s) (pk_perm ho)]
  exact weak hm ((pk_perm ho).mem_iff.2 hs)
theorem rl_best {l : List (Int × Int)} (hg : Good l) {o : List Int} (ho : Ord l.length o) : tm 0 0 (pk l (rl l)) ≤ tm 0 0 (pk l o) := by
  obtain ⟨m, s, hm, hs, e⟩ := johnson hg
  rw [e]
  exact bnd_le ho hm hs
end Go.Proofs.Ytnlbhjmbaedadaa
set_option linter.unusedVariables false
set_option linter.unusedSimpArgs false
set_option maxRecDepth 100000
namespace Go.Proofs.Ytnlbhjmbaedadaa
open Go.Vi
abbrev R34 := Bool × Int
noncomputable def c34 : Code := bodyOf Try.f34
noncomputable def an34 : Ann := (.s .l (.s .l (.s (.s .l (.j [0, 1, 2, 8] .l .l)) (.s (.s .l (.j [0, 1, 2] .l .l)) .l))))
def pk34 : List PK := [.c (.sl (.pair (.int .i64) (.int .i64))), .c (.int .i64), .c (.int .i64)]
def rk34 : List RK := [.c .bool 6, .c (.int .i64) 7]
noncomputable def rt34 (st : St) : Option R34 := rtG rk34 st
noncomputable def E34 (n : Nat × Nat) : Env := { T := tab, phi := (consPhi 26 (fun _ => true) (P26 n) (consPhi 68 (fun _ => true) (P68 n) noPhi)), eff := fun _ => false, fuel := n.1, hold := n.2 }
noncomputable def kq34_1 (n : Nat × Nat) : St → Option R34 := run (E34 n) (cB (cB (cB c34))) (Ann.snd (Ann.snd (Ann.snd an34))) rt34 (fun _ _ => none) rt34
noncomputable def kc34_2 (n : Nat × Nat) : St → Option R34 := fun s => normC [0, 1, 2, 8] s (kq34_1 n)
noncomputable def kq34_3 (n : Nat × Nat) : St → Option R34 := run (E34 n) (cB (cB (cB (cB c34)))) (Ann.snd (Ann.snd (Ann.snd (Ann.snd an34)))) rt34 (fun _ _ => none) rt34
noncomputable def kc34_4 (n : Nat × Nat) : St → Option R34 := fun s => normC [0, 1, 2] s (kq34_3 n)
noncomputable def S34 (n : Nat × Nat) (sheets0 : List (Int × Int)) (i1 : Int) (j2 : Int) : Option R34 := run (E34 n) c34 an34 rt34 (fun _ _ => none) rt34 { tm := [.c (.sl (.pair (.int .i64) (.int .i64)) sheets0 false), .c (.int .i64 i1), .c (.int .i64 j2), uu, uu, uu, uu, uu, uu, uu, uu, uu, uu, uu, uu, uu, uu, uu, uu, uu, uu, uu, uu, uu, uu, uu, uu, uu, uu, uu, uu, uu, uu, uu, uu, uu, uu, uu, uu, uu, uu, uu, uu, uu, uu, uu, uu, uu, uu, uu, uu, uu, uu, uu, uu], hp := emp }
theorem S34_eq (n : Nat × Nat) (sheets0 : List (Int × Int)) (i1 : Int) (j2 : Int) : S34 n sheets0 i1 j2 =
    (S26 n sheets0).bind fun r1' =>
    ((bif ((r1' == 0) == true) then (S68 n i1 0 (wr .i64 ((sheets0.length : Int) - 1))).bind fun r2' =>
        ((bif ((!r2') == false) then (S68 n j2 0 (wr .i64 ((sheets0.length : Int) - 1))).bind fun r3' =>
            some (!r3')
          else some true)).bind fun b4' =>
        some b4'
      else some false)).bind fun b5' =>
    (bif b5' then (bif (2 != 0) then some (false, 2)
      else (idx sheets0 i1).bind fun x6' =>
        (idx sheets0 j2).bind fun x7' =>
        (idx sheets0 j2).bind fun x8' =>
        (idx sheets0 i1).bind fun x9' =>
        some (decide ((if x7'.2 < x6'.1 then x7'.2 else x6'.1) ≤ (if x9'.2 < x8'.1 then x9'.2 else x8'.1)), 0))
    else (bif (r1' != 0) then some (false, r1')
      else (idx sheets0 i1).bind fun x10' =>
        (idx sheets0 j2).bind fun x11' =>
        (idx sheets0 j2).bind fun x12' =>
        (idx sheets0 i1).bind fun x13' =>
        some (decide ((if x11'.2 < x10'.1 then x11'.2 else x10'.1) ≤ (if x13'.2 < x12'.1 then x13'.2 else x12'.1)), 0))) := by kernel_rfl
theorem S34_run (n : Nat × Nat) (xs : pksDen pk34) : S34 n xs.1 xs.2.1 xs.2.2.1 = runG (E34 n) noScope c34 an34 (rtG rk34) (fun _ _ => none) (rtG rk34) (st0 pk34 xs Try.f34.ntmps) := by kernel_rfl
noncomputable def P34 (n : Nat × Nat) := phiOf pk34 rk34 (fun xs => S34 n xs.1 xs.2.1 xs.2.2.1)
theorem call34 : CallOK Try.prog 34 := callOK_of Try.func34 (by kernel_rfl) (by kernel_rfl)
theorem env34 (n : Nat × Nat) : EnvOK Try.prog (E34 n) := envOK0 (consPhi_ok (FC26 n) call26 (consPhi_ok (FC68 n) call68 noPhi_ok)) rfl rfl
theorem par34 (n : Nat × Nat) : EnvPar (E34 n) := envPar0 (consPhi_par phiOf_Par1 (consPhi_par phiOf_Par1 noPhi_par)) rfl
theorem FC34 (n : Nat × Nat) : FCs Try.prog 34 (P34 n) := phiOf_FCs fun xs r h vs hv => FC.of_runG tabOK eqsOK (env34 n) (par34 n) mixed (fun _ => noScope_ok) Try.func34 (c := c34) (an := an34) (pks := pk34) (rks := rk34) (by kernel_rfl) (by kernel_rfl) hv ((S34_run n xs).symm.trans h)
/-D 34 -/
noncomputable def D34 (n : Nat × Nat) (sheets0 : List (Int × Int)) (i1 : Int) (j2 : Int) : Option R34 :=
    (D26 n sheets0).bind fun r1' =>
    ((bif ((r1' == 0) == true) then (D68 n i1 0 (wr .i64 ((sheets0.length : Int) - 1))).bind fun r2' =>
        ((bif ((!r2') == false) then (D68 n j2 0 (wr .i64 ((sheets0.length : Int) - 1))).bind fun r3' =>
            some (!r3')
          else some true)).bind fun b4' =>
        some b4'
      else some false)).bind fun b5' =>
    (bif b5' then (bif (2 != 0) then some (false, 2)
      else (idx sheets0 i1).bind fun x6' =>
        (idx sheets0 j2).bind fun x7' =>
        (idx sheets0 j2).bind fun x8' =>
        (idx sheets0 i1).bind fun x9' =>
        some (decide ((if x7'.2 < x6'.1 then x7'.2 else x6'.1) ≤ (if x9'.2 < x8'.1 then x9'.2 else x8'.1)), 0))
    else (bif (r1' != 0) then some (false, r1')
      else (idx sheets0 i1).bind fun x10' =>
        (idx sheets0 j2).bind fun x11' =>
        (idx sheets0 j2).bind fun x12' =>
        (idx sheets0 i1).bind fun x13' =>
        some (decide ((if x11'.2 < x10'.1 then x11'.2 else x10'.1) ≤ (if x13'.2 < x12'.1 then x13'.2 else x12'.1)), 0)))
theorem S34_D (n : Nat × Nat) (hn : n.2 = 1) : S34 n = D34 n := by
  funext sheets0 i1 j2; refine (S34_eq n sheets0 i1 j2).trans ?_
  unfold D34
  (try simp only [S26_D n hn, S68_D n hn]) <;> first | with_reducible rfl | rfl
abbrev R91 := Int
noncomputable def c91 : Code := bodyOf Try.f91
noncomputable def an91 : Ann := (.s .l (.s (.s .l (.j [2] .l .l)) .l))
def pk91 : List PK := [.c (.pair (.int .i64) (.int .i64)), .c (.int .i64)]
def rk91 : List RK := [.c (.int .i64) 4]
noncomputable def rt91 (st : St) : Option R91 := rtG rk91 st
noncomputable def E91 (n : Nat × Nat) : Env := { T := tab, phi := noPhi, eff := fun _ => false, fuel := n.1, hold := n.2 }
noncomputable def kq91_1 (n : Nat × Nat) : St → Option R91 := run (E91 n) (cB (cB c91)) (Ann.snd (Ann.snd an91)) rt91 (fun _ _ => none) rt91
noncomputable def kc91_2 (n : Nat × Nat) : St → Option R91 := fun s => normC [2] s (kq91_1 n)
noncomputable def S91 (n : Nat × Nat) (s0 : Int × Int) (machine1 : Int) : Option R91 := run (E91 n) c91 an91 rt91 (fun _ _ => none) rt91 { tm := [.agg [.int .i64 s0.1, .int .i64 s0.2], .c (.int .i64 machine1), uu, uu, uu, uu, uu, uu, uu, uu, uu], hp := emp }
theorem S91_eq (n : Nat × Nat) (s0 : Int × Int) (machine1 : Int) : S91 n s0 machine1 =
    (bif (machine1 == 0) then some s0.1
    else some s0.2) := by kernel_rfl
theorem S91_run (n : Nat × Nat) (xs : pksDen pk91) : S91 n xs.1 xs.2.1 = runG (E91 n) noScope c91 an91 (rtG rk91) (fun _ _ => none) (rtG rk91) (st0 pk91 xs Try.f91.ntmps) := by kernel_rfl
noncomputable def P91 (n : Nat × Nat) := phiOf pk91 rk91 (fun xs => S91 n xs.1 xs.2.1)
theorem call91 : CallOK Try.prog 91 := callOK_of Try.func91 (by kernel_rfl) (by kernel_rfl)
theorem env91 (n : Nat × Nat) : EnvOK Try.prog (E91 n) := envOK0 noPhi_ok rfl rfl
theorem par91 (n : Nat × Nat) : EnvPar (E91 n) := envPar0 noPhi_par rfl
theorem FC91 (n : Nat × Nat) : FCs Try.prog 91 (P91 n) := phiOf_FCs fun xs r h vs hv => FC.of_runG tabOK eqsOK (env91 n) (par91 n) mixed (fun _ => noScope_ok) Try.func91 (c := c91) (an := an91) (pks := pk91) (rks := rk91) (by kernel_rfl) (by kernel_rfl) hv ((S91_run n xs).symm.trans h)
abbrev R76 := Int
noncomputable def c76 : Code := bodyOf Try.f76
noncomputable def an76 : Ann := (.s .l (.s .l (.s .l (.s (.s .l (.j [8] (.j [0, 1, 7, 8, 9] (.s (.s .l (.j [0, 1, 7, 8, 9] .l .l)) (.j [] (.j [0, 1, 7, 8, 9] (.s .l (.j [0, 1, 7, 8, 9] .l .l)) .l) .l)) .l) .l)) .l))))
def pk76 : List PK := [.c (.sl (.pair (.int .i64) (.int .i64))), .c (.int .i64), .c (.int .i64)]
def rk76 : List RK := [.c (.int .i64) 6]
noncomputable def rt76 (st : St) : Option R76 := rtG rk76 st
noncomputable def E76 (n : Nat × Nat) : Env := { T := tab, phi := (consPhi 91 (fun _ => true) (P91 n) noPhi), eff := fun _ => false, fuel := n.1, hold := n.2 }
noncomputable def kq76_1 (n : Nat × Nat) : St → Option R76 := run (E76 n) (cB (cB (cB (cB c76)))) (Ann.snd (Ann.snd (Ann.snd (Ann.snd an76)))) rt76 (fun _ _ => none) rt76
noncomputable def kc76_2 (n : Nat × Nat) : St → Option R76 := fun s => normC [8] s (kq76_1 n)
noncomputable def xb76_3 (n : Nat × Nat) : Nat → St → Option R76 := fun j s => bif Nat.beq j 0 then normC [8] s (kq76_1 n) else (fun _ _ => none) j s
noncomputable def F76_4 (n : Nat × Nat) : (St → Option R76) → St → Option R76 := fun K s => run (E76 n) (cA (cA (cB (cA (cB (cB (cB c76))))))) (Ann.fst (Ann.fst (Ann.snd (Ann.fst (Ann.snd (Ann.snd (Ann.snd an76))))))) (fun s => normC [0, 1, 7, 8, 9] s K) (xb76_3 n) rt76 s
noncomputable def kq76_5 (n : Nat × Nat) (m1 : Nat) : St → Option R76 := run (E76 n) (cB (cA (cA (cB (cA (cB (cB (cB c76)))))))) (Ann.snd (Ann.fst (Ann.fst (Ann.snd (Ann.fst (Ann.snd (Ann.snd (Ann.snd an76)))))))) (fun s => normC [0, 1, 7, 8, 9] s (loopN (F76_4 n) m1)) (xb76_3 n) rt76
noncomputable def kc76_6 (n : Nat × Nat) (m1 : Nat) : St → Option R76 := fun s => normC [0, 1, 7, 8, 9] s (kq76_5 n m1)
noncomputable def kq76_7 (n : Nat × Nat) (m1 : Nat) : St → Option R76 := run (E76 n) (cB (cB (cA (cA (cB (cA (cB (cB (cB c76))))))))) (Ann.snd (Ann.snd (Ann.fst (Ann.fst (Ann.snd (Ann.fst (Ann.snd (Ann.snd (Ann.snd an76))))))))) (fun s => normC [0, 1, 7, 8, 9] s (loopN (F76_4 n) m1)) (xb76_3 n) rt76
noncomputable def kc76_8 (n : Nat × Nat) (m1 : Nat) : St → Option R76 := fun s => normC [0, 1, 7, 8, 9] s (loopN (fun _ => (kq76_7 n m1)) n.2)
noncomputable def xb76_9 (n : Nat × Nat) (m1 : Nat) : Nat → St → Option R76 := fun j s => bif Nat.beq j 1 then normC [0, 1, 7, 8, 9] s (loopN (fun _ => (kq76_7 n m1)) n.2) else (xb76_3 n) j s
noncomputable def kc76_10 (n : Nat × Nat) (m1 : Nat) : St → Option R76 := fun s => normC [0, 1, 7, 8, 9] s (kc76_8 n m1)
noncomputable def L76_1 (n : Nat × Nat) (m : Nat) (sheets0 : List (Int × Int)) (machine1 : Int) (h7 : Int) (v8 : Int) (i9 : Int) : Option R76 := loopN (F76_4 n) m { tm := [.c (.sl (.pair (.int .i64) (.int .i64)) sheets0 false), .c (.int .i64 machine1), uu, uu, uu, uu, uu, .c (.int .i64 h7), .c (.int .i64 v8), .c (.int .i64 i9), uu, uu, uu, uu, uu, uu, uu, uu, uu, uu, uu, uu, uu, uu, uu, uu, uu, uu, uu, uu, uu, uu, uu, uu, uu, uu, uu, uu, uu, uu, uu, uu, uu, uu, uu, uu, uu, uu, uu, uu, uu, uu, uu, uu], hp := emp }
noncomputable def L76_2 (n : Nat × Nat) (m1 : Nat) (sheets0 : List (Int × Int)) (machine1 : Int) (h7 : Int) (v8 : Int) (i9 : Int) : Option R76 := loopN (fun _ => (kq76_7 n m1)) n.2 { tm := [.c (.sl (.pair (.int .i64) (.int .i64)) sheets0 false), .c (.int .i64 machine1), uu, uu, uu, uu, uu, .c (.int .i64 h7), .c (.int .i64 v8), .c (.int .i64 i9), uu, uu, uu, uu, uu, uu, uu, uu, uu, uu, uu, uu, uu, uu, uu, uu, uu, uu, uu, uu, uu, uu, uu, uu, uu, uu, uu, uu, uu, uu, uu, uu, uu, uu, uu, uu, uu, uu, uu, uu, uu, uu, uu, uu], hp := emp }
theorem L76_1_eq (n : Nat × Nat) (m1 : Nat) (sheets0 : List (Int × Int)) (machine1 : Int) (h7 : Int) (v8 : Int) (i9 : Int) : L76_1 n (m1 + 1) sheets0 machine1 h7 v8 i9 =
    (bif decide (i9 < (sheets0.length : Int)) then (idx sheets0 i9).bind fun x3' =>
      (S91 n x3' machine1).bind fun r4' =>
      (bif decide (r4' < h7) then (idx sheets0 i9).bind fun x5' =>
        (idx sheets0 i9).bind fun x6' =>
        L76_2 n m1 sheets0 machine1 h7 (wr .i64 (v8 + (if x6'.2 < x5'.1 then x6'.2 else x5'.1))) i9
      else (idx sheets0 i9).bind fun x7' =>
        (S91 n x7' (wr .i64 (1 - machine1))).bind fun r8' =>
        L76_2 n m1 sheets0 machine1 h7 (wr .i64 (v8 + r8')) i9)
    else some v8) := by kernel_rfl
theorem L76_2_raw (n : Nat × Nat) (m1 : Nat) (sheets0 : List (Int × Int)) (machine1 : Int) (h7 : Int) (v8 : Int) (i9 : Int) : (kq76_7 n m1) { tm := [.c (.sl (.pair (.int .i64) (.int .i64)) sheets0 false), .c (.int .i64 machine1), uu, uu, uu, uu, uu, .c (.int .i64 h7), .c (.int .i64 v8), .c (.int .i64 i9), uu, uu, uu, uu, uu, uu, uu, uu, uu, uu, uu, uu, uu, uu, uu, uu, uu, uu, uu, uu, uu, uu, uu, uu, uu, uu, uu, uu, uu, uu, uu, uu, uu, uu, uu, uu, uu, uu, uu, uu, uu, uu, uu, uu], hp := emp } =
    L76_1 n m1 sheets0 machine1 h7 v8 (wr .i64 (i9 + 1)) := by kernel_rfl
noncomputable def S76 (n : Nat × Nat) (sheets0 : List (Int × Int)) (machine1 : Int) (k2 : Int) : Option R76 := run (E76 n) c76 an76 rt76 (fun _ _ => none) rt76 { tm := [.c (.sl (.pair (.int .i64) (.int .i64)) sheets0 false), .c (.int .i64 machine1), .c (.int .i64 k2), uu, uu, uu, uu, uu, uu, uu, uu, uu, uu, uu, uu, uu, uu, uu, uu, uu, uu, uu, uu, uu, uu, uu, uu, uu, uu, uu, uu, uu, uu, uu, uu, uu, uu, uu, uu, uu, uu, uu, uu, uu, uu, uu, uu, uu, uu, uu, uu, uu, uu, uu], hp := emp }
theorem S76_eq (n : Nat × Nat) (sheets0 : List (Int × Int)) (machine1 : Int) (k2 : Int) : S76 n sheets0 machine1 k2 =
    (idx sheets0 k2).bind fun x1' =>
    (S91 n x1' machine1).bind fun r2' =>
    L76_1 n n.1 sheets0 machine1 r2' r2' 0 := by kernel_rfl
theorem S76_run (n : Nat × Nat) (xs : pksDen pk76) : S76 n xs.1 xs.2.1 xs.2.2.1 = runG (E76 n) noScope c76 an76 (rtG rk76) (fun _ _ => none) (rtG rk76) (st0 pk76 xs Try.f76.ntmps) := by kernel_rfl
noncomputable def P76 (n : Nat × Nat) := phiOf pk76 rk76 (fun xs => S76 n xs.1 xs.2.1 xs.2.2.1)
theorem call76 : CallOK Try.prog 76 := callOK_of Try.func76 (by kernel_rfl) (by kernel_rfl)
theorem env76 (n : Nat × Nat) : EnvOK Try.prog (E76 n) := envOK0 (consPhi_ok (FC91 n) call91 noPhi_ok) rfl rfl
theorem par76 (n : Nat × Nat) : EnvPar (E76 n) := envPar0 (consPhi_par phiOf_Par1 noPhi_par) rfl
theorem FC76 (n : Nat × Nat) : FCs Try.prog 76 (P76 n) := phiOf_FCs fun xs r h vs hv => FC.of_runG tabOK eqsOK (env76 n) (par76 n) mixed (fun _ => noScope_ok) Try.func76 (c := c76) (an := an76) (pks := pk76) (rks := rk76) (by kernel_rfl) (by kernel_rfl) hv ((S76_run n xs).symm.trans h)
abbrev R36 := Int × Int
noncomputable def c36 : Code := bodyOf Try.f36
noncomputable def an36 : Ann := (.s .l (.s .l (.s (.s .l (.j [0, 1, 2, 8] .l .l)) (.s (.s .l (.j [0, 1, 2] .l .l)) .l))))
def pk36 : List PK := [.c (.sl (.pair (.int .i64) (.int .i64))), .c (.int .i64), .c (.int .i64)]
def rk36 : List RK := [.c (.int .i64) 6, .c (.int .i64) 7]
noncomputable def rt36 (st : St) : Option R36 := rtG rk36 st
noncomputable def E36 (n : Nat × Nat) : Env := { T := tab, phi := (consPhi 26 (fun _ => true) (P26 n) (consPhi 68 (fun _ => true) (P68 n) (consPhi 76 (fun _ => true) (P76 n) noPhi))), eff := fun _ => false, fuel := n.1, hold := n.2 }
noncomputable def kq36_1 (n : Nat × Nat) : St → Option R36 := run (E36 n) (cB (cB (cB c36))) (Ann.snd (Ann.snd (Ann.snd an36))) rt36 (fun _ _ => none) rt36
noncomputable def kc36_2 (n : Nat × Nat) : St → Option R36 := fun s => normC [0, 1, 2, 8] s (kq36_1 n)
noncomputable def kq36_3 (n : Nat × Nat) : St → Option R36 := run (E36 n) (cB (cB (cB (cB c36)))) (Ann.snd (Ann.snd (Ann.snd (Ann.snd an36)))) rt36 (fun _ _ => none) rt36
noncomputable def kc36_4 (n : Nat × Nat) : St → Option R36 := fun s => normC [0, 1, 2] s (kq36_3 n)
noncomputable def S36 (n : Nat × Nat) (sheets0 : List (Int × Int)) (machine1 : Int) (k2 : Int) : Option R36 := run (E36 n) c36 an36 rt36 (fun _ _ => none) rt36 { tm := [.c (.sl (.pair (.int .i64) (.int .i64)) sheets0 false), .c (.int .i64 machine1), .c (.int .i64 k2), uu, uu, uu, uu, uu, uu, uu, uu, uu, uu, uu, uu, uu, uu, uu, uu, uu, uu, uu, uu, uu, uu, uu, uu, uu, uu, uu, uu, uu, uu], hp := emp }
theorem S36_eq (n : Nat × Nat) (sheets0 : List (Int × Int)) (machine1 : Int) (k2 : Int) : S36 n sheets0 machine1 k2 =
    (S26 n sheets0).bind fun r1' =>
    ((bif ((r1' == 0) == true) then (S68 n machine1 0 1).bind fun r2' =>
        ((bif ((!r2') == false) then (S68 n k2 0 (wr .i64 ((sheets0.length : Int) - 1))).bind fun r3' =>
            some (!r3')
          else some true)).bind fun b4' =>
        some b4'
      else some false)).bind fun b5' =>
    (bif b5' then (bif (2 != 0) then some (0, 2)
      else (S76 n sheets0 machine1 k2).bind fun r6' =>
        some (r6', 0))
    else (bif (r1' != 0) then some (0, r1')
      else (S76 n sheets0 machine1 k2).bind fun r7' =>
        some (r7', 0))) := by kernel_rfl
theorem S36_run (n : Nat × Nat) (xs : pksDen pk36) : S36 n xs.1 xs.2.1 xs.2.2.1 = runG (E36 n) noScope c36 an36 (rtG rk36) (fun _ _ => none) (rtG rk36) (st0 pk36 xs Try.f36.ntmps) := by kernel_rfl
noncomputable def P36 (n : Nat × Nat) := phiOf pk36 rk36 (fun xs => S36 n xs.1 xs.2.1 xs.2.2.1)
theorem call36 : CallOK Try.prog 36 := callOK_of Try.func36 (by kernel_rfl) (by kernel_rfl)
theorem env36 (n : Nat × Nat) : EnvOK Try.prog (E36 n) := envOK0 (consPhi_ok (FC26 n) call26 (consPhi_ok (FC68 n) call68 (consPhi_ok (FC76 n) call76 noPhi_ok))) rfl rfl
theorem par36 (n : Nat × Nat) : EnvPar (E36 n) := envPar0 (consPhi_par phiOf_Par1 (consPhi_par phiOf_Par1 (consPhi_par phiOf_Par1 noPhi_par))) rfl
theorem FC36 (n : Nat × Nat) : FCs Try.prog 36 (P36 n) := phiOf_FCs fun xs r h vs hv => FC.of_runG tabOK eqsOK (env36 n) (par36 n) mixed (fun _ => noScope_ok) Try.func36 (c := c36) (an := an36) (pks := pk36) (rks := rk36) (by kernel_rfl) (by kernel_rfl) hv ((S36_run n xs).symm.trans h)
/-D 91 -/
noncomputable def D91 (n : Nat × Nat) (s0 : Int × Int) (machine1 : Int) : Option R91 :=
    (bif (machine1 == 0) then some s0.1
    else some s0.2)
theorem S91_D (n : Nat × Nat) (hn : n.2 = 1) : S91 n = D91 n := by
  funext s0 machine1; refine (S91_eq n s0 machine1).trans ?_
  unfold D91
  first | with_reducible rfl | rfl
/-D 76 -/
noncomputable def DL76_2 (n : Nat × Nat) (f1 : (List (Int × Int)) → Int → Int → Int → Int → Option R76) (sheets0 : List (Int × Int)) (machine1 : Int) (h7 : Int) (v8 : Int) (i9 : Int) : Option R76 :=
    f1 sheets0 machine1 h7 v8 (wr .i64 (i9 + 1))
theorem DL76_2_eq (n : Nat × Nat) (hn : n.2 = 1) (m1 : Nat) : L76_2 n m1 = DL76_2 n (L76_1 n m1) := by
  funext sheets0 machine1 h7 v8 i9; refine ((held_eq hn _).trans (L76_2_raw n m1 sheets0 machine1 h7 v8 i9)).trans ?_
  unfold DL76_2
  (try simp only [S91_D n hn]) <;> first | with_reducible rfl | rfl
noncomputable def DF76_1 (n : Nat × Nat) (f1 : (List (Int × Int)) → Int → Int → Int → Int → Option R76) (sheets0 : List (Int × Int)) (machine1 : Int) (h7 : Int) (v8 : Int) (i9 : Int) : Option R76 :=
    (bif decide (i9 < (sheets0.length : Int)) then (idx sheets0 i9).bind fun x3' =>
      (D91 n x3' machine1).bind fun r4' =>
      (bif decide (r4' < h7) then (idx sheets0 i9).bind fun x5' =>
        (idx sheets0 i9).bind fun x6' =>
        DL76_2 n f1 sheets0 machine1 h7 (wr .i64 (v8 + (if x6'.2 < x5'.1 then x6'.2 else x5'.1))) i9
      else (idx sheets0 i9).bind fun x7' =>
        (D91 n x7' (wr .i64 (1 - machine1))).bind fun r8' =>
        DL76_2 n f1 sheets0 machine1 h7 (wr .i64 (v8 + r8')) i9)
    else some v8)
noncomputable def DL76_1 (n : Nat × Nat) (m : Nat) : (List (Int × Int)) → Int → Int → Int → Int → Option R76 := Nat.rec (motive := fun _ => (List (Int × Int)) → Int → Int → Int → Int → Option R76) (fun _ _ _ _ _ => none) (fun _ ih => DF76_1 n ih) m
theorem DL76_1_succ (n : Nat × Nat) (m : Nat) : DL76_1 n (m + 1) = DF76_1 n (DL76_1 n m) := rfl
theorem DL76_1_eq (n : Nat × Nat) (hn : n.2 = 1) : ∀ m, L76_1 n m = DL76_1 n m
  | 0 => by funext sheets0 machine1 h7 v8 i9; kernel_rfl
  | m + 1 => by
    have ih := DL76_1_eq n hn m
    funext sheets0 machine1 h7 v8 i9; refine (L76_1_eq n m sheets0 machine1 h7 v8 i9).trans ?_
    rw [DL76_1_succ]
    unfold DF76_1
    (try simp only [ih, DL76_2_eq n hn, S91_D n hn]) <;> first | with_reducible rfl | rfl
noncomputable def D76 (n : Nat × Nat) (sheets0 : List (Int × Int)) (machine1 : Int) (k2 : Int) : Option R76 :=
    (idx sheets0 k2).bind fun x1' =>
    (D91 n x1' machine1).bind fun r2' =>
    DL76_1 n n.1 sheets0 machine1 r2' r2' 0
theorem S76_D (n : Nat × Nat) (hn : n.2 = 1) : S76 n = D76 n := by
  funext sheets0 machine1 k2; refine (S76_eq n sheets0 machine1 k2).trans ?_
  unfold D76
  (try simp only [DL76_2_eq n hn, DL76_1_eq n hn, S91_D n hn]) <;> first | with_reducible rfl | rfl
/-D 36 -/
noncomputable def D36 (n : Nat × Nat) (sheets0 : List (Int × Int)) (machine1 : Int) (k2 : Int) : Option R36 :=
    (D26 n sheets0).bind fun r1' =>
    ((bif ((r1' == 0) == true) then (D68 n machine1 0 1).bind fun r2' =>
        ((bif ((!r2') == false) then (D68 n k2 0 (wr .i64 ((sheets0.length : Int) - 1))).bind fun r3' =>
            some (!r3')
          else some true)).bind fun b4' =>
        some b4'
      else some false)).bind fun b5' =>
    (bif b5' then (bif (2 != 0) then some (0, 2)
      else (D76 n sheets0 machine1 k2).bind fun r6' =>
        some (r6', 0))
    else (bif (r1' != 0) then some (0, r1')
      else (D76 n sheets0 machine1 k2).bind fun r7' =>
        some (r7', 0)))
theorem S36_D (n : Nat × Nat) (hn : n.2 = 1) : S36 n = D36 n := by
  funext sheets0 machine1 k2; refine (S36_eq n sheets0 machine1 k2).trans ?_
  unfold D36
  (try simp only [S26_D n hn, S68_D n hn, S76_D n hn]) <;> first | with_reducible rfl | rfl
abbrev R38 := Int × Int × Int
noncomputable def c38 : Code := bodyOf Try.f38
noncomputable def an38 : Ann := (.s .l (.s .l (.s (.s .l (.j [0, 5] .l .l)) (.s (.s .l (.j [] (.j [0, 5, 7] (.s (.s .l (.j [0, 5, 7] .l .l)) (.s (.j [0, 5, 7] (.s .l (.j [0, 5, 7] (.j [0, 5, 7, 8] (.s (.s .l (.j [0, 5, 7, 8] .l .l)) (.s (.j [0, 5, 7, 8] (.s .l (.j [0, 5, 7, 8] .l .l)) .l) .l)) .l) .l)) .l) .l)) .l) .l)) .l))))
def pk38 : List PK := [.c (.sl (.pair (.int .i64) (.int .i64)))]
def rk38 : List RK := [.c (.int .i64) 2, .c (.int .i64) 3, .c (.int .i64) 4]
noncomputable def rt38 (st : St) : Option R38 := rtG rk38 st
noncomputable def E38 (n : Nat × Nat) : Env := { T := tab, phi := (consPhi 28 (fun _ => true) (P28 n) (consPhi 62 (fun _ => true) (P62 n) (consPhi 76 (fun _ => true) (P76 n) noPhi))), eff := fun _ => false, fuel := n.1, hold := n.2 }
noncomputable def kq38_1 (n : Nat × Nat) : St → Option R38 := run (E38 n) (cB (cB (cB c38))) (Ann.snd (Ann.snd (Ann.snd an38))) rt38 (fun _ _ => none) rt38
noncomputable def kc38_2 (n : Nat × Nat) : St → Option R38 := fun s => normC [0, 5] s (kq38_1 n)
noncomputable def kq38_3 (n : Nat × Nat) : St → Option R38 := run (E38 n) (cB (cB (cB (cB c38)))) (Ann.snd (Ann.snd (Ann.snd (Ann.snd an38)))) rt38 (fun _ _ => none) rt38
noncomputable def kc38_4 (n : Nat × Nat) : St → Option R38 := fun s => normC [] s (kq38_3 n)
noncomputable def xb38_5 (n : Nat × Nat) : Nat → St → Option R38 := fun j s => bif Nat.beq j 0 then normC [] s (kq38_3 n) else (fun _ _ => none) j s
noncomputable def F38_6 (n : Nat × Nat) : (St → Option R38) → St → Option R38 := fun K s => run (E38 n) (cA (cA (cB (cA (cB (cB (cB c38))))))) (Ann.fst (Ann.fst (Ann.snd (Ann.fst (Ann.snd (Ann.snd (Ann.snd an38))))))) (fun s => normC [0, 5, 7] s K) (xb38_5 n) rt38 s
noncomputable def kq38_7 (n : Nat × Nat) (m1 : Nat) : St → Option R38 := run (E38 n) (cB (cA (cA (cB (cA (cB (cB (cB c38)))))))) (Ann.snd (Ann.fst (Ann.fst (Ann.snd (Ann.fst (Ann.snd (Ann.snd (Ann.snd an38)))))))) (fun s => normC [0, 5, 7] s (loopN (F38_6 n) m1)) (xb38_5 n) rt38
noncomputable def kc38_8 (n : Nat × Nat) (m1 : Nat) : St → Option R38 := fun s => normC [0, 5, 7] s (kq38_7 n m1)
noncomputable def kq38_9 (n : Nat × Nat) (m1 : Nat) : St → Option R38 := run (E38 n) (cB (cB (cA (cA (cB (cA (cB (cB (cB c38))))))))) (Ann.snd (Ann.snd (Ann.fst (Ann.fst (Ann.snd (Ann.fst (Ann.snd (Ann.snd (Ann.snd an38))))))))) (fun s => normC [0, 5, 7] s (loopN (F38_6 n) m1)) (xb38_5 n) rt38
noncomputable def kc38_10 (n : Nat × Nat) (m1 : Nat) : St → Option R38 := fun s => normC [0, 5, 7] s (kq38_9 n m1)
noncomputable def xb38_11 (n : Nat × Nat) (m1 : Nat) : Nat → St → Option R38 := fun j s => bif Nat.beq j 1 then normC [0, 5, 7] s (kq38_9 n m1) else (xb38_5 n) j s
noncomputable def kc38_12 (n : Nat × Nat) (m1 : Nat) : St → Option R38 := fun s => normC [0, 5, 7] s (kc38_10 n m1)
noncomputable def xb38_13 (n : Nat × Nat) (m1 : Nat) : Nat → St → Option R38 := fun j s => bif Nat.beq j 2 then normC [0, 5, 7] s (kc38_10 n m1) else (xb38_11 n m1) j s
noncomputable def F38_14 (n : Nat × Nat) (m1 : Nat) : (St → Option R38) → St → Option R38 := fun K s => run (E38 n) (cA (cA (cB (cA (cA (cB (cA (cA (cB (cA (cB (cB (cB c38))))))))))))) (Ann.fst (Ann.fst (Ann.snd (Ann.fst (Ann.fst (Ann.snd (Ann.fst (Ann.fst (Ann.snd (Ann.fst (Ann.snd (Ann.snd (Ann.snd an38))))))))))))) (fun s => normC [0, 5, 7, 8] s K) (xb38_13 n m1) rt38 s
noncomputable def kq38_15 (n : Nat × Nat) (m1 m2 : Nat) : St → Option R38 := run (E38 n) (cB (cA (cA (cB (cA (cA (cB (cA (cA (cB (cA (cB (cB (cB c38)))))))))))))) (Ann.snd (Ann.fst (Ann.fst (Ann.snd (Ann.fst (Ann.fst (Ann.snd (Ann.fst (Ann.fst (Ann.snd (Ann.fst (Ann.snd (Ann.snd (Ann.snd an38)))))))))))))) (fun s => normC [0, 5, 7, 8] s (loopN (F38_14 n m1) m2)) (xb38_13 n m1) rt38
noncomputable def kc38_16 (n : Nat × Nat) (m1 m2 : Nat) : St → Option R38 := fun s => normC [0, 5, 7, 8] s (kq38_15 n m1 m2)
noncomputable def kq38_17 (n : Nat × Nat) (m1 m2 : Nat) : St → Option R38 := run (E38 n) (cB (cB (cA (cA (cB (cA (cA (cB (cA (cA (cB (cA (cB (cB (cB c38))))))))))))))) (Ann.snd (Ann.snd (Ann.fst (Ann.fst (Ann.snd (Ann.fst (Ann.fst (Ann.snd (Ann.fst (Ann.fst (Ann.snd (Ann.fst (Ann.snd (Ann.snd (Ann.snd an38))))))))))))))) (fun s => normC [0, 5, 7, 8] s (loopN (F38_14 n m1) m2)) (xb38_13 n m1) rt38
noncomputable def kc38_18 (n : Nat × Nat) (m1 m2 : Nat) : St → Option R38 := fun s => normC [0, 5, 7, 8] s (kq38_17 n m1 m2)
noncomputable def xb38_19 (n : Nat × Nat) (m1 m2 : Nat) : Nat → St → Option R38 := fun j s => bif Nat.beq j 3 then normC [0, 5, 7, 8] s (kq38_17 n m1 m2) else (xb38_13 n m1) j s
noncomputable def kc38_20 (n : Nat × Nat) (m1 m2 : Nat) : St → Option R38 := fun s => normC [0, 5, 7, 8] s (kc38_18 n m1 m2)
noncomputable def L38_1 (n : Nat × Nat) (m : Nat) (sheets0 : List (Int × Int)) (machine7 : Int) (r5 : List Int) : Option R38 := loopN (F38_6 n) m { tm := [.c (.sl (.pair (.int .i64) (.int .i64)) sheets0 false), uu, uu, uu, uu, .own 5 none false, uu, .c (.int .i64 machine7), uu, uu, uu, uu, uu, uu, uu, uu, uu, uu, uu, uu, uu, uu, uu, uu, uu, uu, uu, uu, uu, uu, uu, uu, uu, uu, uu, uu, uu], hp := (upd emp 5 (.arr (.int .i64) r5 false)) }
noncomputable def L38_2 (n : Nat × Nat) (m1 : Nat) (m : Nat) (sheets0 : List (Int × Int)) (machine7 : Int) (k8 : Int) (r5 : List Int) : Option R38 := loopN (F38_14 n m1) m { tm := [.c (.sl (.pair (.int .i64) (.int .i64)) sheets0 false), uu, uu, uu, uu, .own 5 none false, uu, .c (.int .i64 machine7), .c (.int .i64 k8), uu, uu, uu, uu, uu, uu, uu, uu, uu, uu, uu, uu, uu, uu, uu, uu, uu, uu, uu, uu, uu, uu, uu, uu, uu, uu, uu, uu], hp := (upd emp 5 (.arr (.int .i64) r5 false)) }
theorem L38_1_eq (n : Nat × Nat) (m1 : Nat) (sheets0 : List (Int × Int)) (machine7 : Int) (r5 : List Int) : L38_1 n (m1 + 1) sheets0 machine7 r5 =
    (bif decide (machine7 < 2) then L38_2 n m1 n.1 sheets0 machine7 0 r5
    else some (0, 0, 14)) := by kernel_rfl
theorem L38_2_eq (n : Nat × Nat) (m1 m2 : Nat) (sheets0 : List (Int × Int)) (machine7 : Int) (k8 : Int) (r5 : List Int) : L38_2 n m1 (m2 + 1) sheets0 machine7 k8 r5 =
    (bif decide (k8 < (sheets0.length : Int)) then (S76 n sheets0 machine7 k8).bind fun r2' =>
      (S62 n sheets0 r5).bind fun r3' =>
      (bif (r2' == r3') then some (machine7, k8, 0)
      else L38_2 n m1 m2 sheets0 machine7 (wr .i64 (k8 + 1)) r5)
    else L38_1 n m1 sheets0 (wr .i64 (machine7 + 1)) r5) := by kernel_rfl
noncomputable def S38 (n : Nat × Nat) (sheets0 : List (Int × Int)) : Option R38 := run (E38 n) c38 an38 rt38 (fun _ _ => none) rt38 { tm := [.c (.sl (.pair (.int .i64) (.int .i64)) sheets0 false), uu, uu, uu, uu, uu, uu, uu, uu, uu, uu, uu, uu, uu, uu, uu, uu, uu, uu, uu, uu, uu, uu, uu, uu, uu, uu, uu, uu, uu, uu, uu, uu, uu, uu, uu, uu], hp := emp }
theorem S38_eq (n : Nat × Nat) (sheets0 : List (Int × Int)) : S38 n sheets0 =
    (S28 n sheets0).bind fun r1' =>
    (bif (r1'.2 != 0) then some (0, 0, r1'.2)
    else L38_1 n n.1 sheets0 0 r1'.1) := by kernel_rfl
theorem S38_run (n : Nat × Nat) (xs : pksDen pk38) : S38 n xs.1 = runG (E38 n) noScope c38 an38 (rtG rk38) (fun _ _ => none) (rtG rk38) (st0 pk38 xs Try.f38.ntmps) := by kernel_rfl
noncomputable def P38 (n : Nat × Nat) := phiOf pk38 rk38 (fun xs => S38 n xs.1)
theorem call38 : CallOK Try.prog 38 := callOK_of Try.func38 (by kernel_rfl) (by kernel_rfl)
theorem env38 (n : Nat × Nat) : EnvOK Try.prog (E38 n) := envOK0 (consPhi_ok (FC28 n) call28 (consPhi_ok (FC62 n) call62 (consPhi_ok (FC76 n) call76 noPhi_ok))) rfl rfl
theorem par38 (n : Nat × Nat) : EnvPar (E38 n) := envPar0 (consPhi_par phiOf_Par1 (consPhi_par phiOf_Par1 (consPhi_par phiOf_Par1 noPhi_par))) rfl
theorem FC38 (n : Nat × Nat) : FCs Try.prog 38 (P38 n) := phiOf_FCs fun xs r h vs hv => FC.of_runG tabOK eqsOK (env38 n) (par38 n) mixed (fun _ => noScope_ok) Try.func38 (c := c38) (an := an38) (pks := pk38) (rks := rk38) (by kernel_rfl) (by kernel_rfl) hv ((S38_run n xs).symm.trans h)
/-D 38 -/
noncomputable def DF38_2 (n : Nat × Nat) (f1 : (List (Int × Int)) → Int → List Int → Option R38) (f2 : (List (Int × Int)) → Int → Int → List Int → Option R38) (sheets0 : List (Int × Int)) (machine7 : Int) (k8 : Int) (r5 : List Int) : Option R38 :=
    (bif decide (k8 < (sheets0.length : Int)) then (D76 n sheets0 machine7 k8).bind fun r2' =>
      (D62 n sheets0 r5).bind fun r3' =>
      (bif (r2' == r3') then some (machine7, k8, 0)
      else f2 sheets0 machine7 (wr .i64 (k8 + 1)) r5)
    else f1 sheets0 (wr .i64 (machine7 + 1)) r5)
noncomputable def DL38_2 (n : Nat × Nat) (f1 : (List (Int × Int)) → Int → List Int → Option R38) (m : Nat) : (List (Int × Int)) → Int → Int → List Int → Option R38 := Nat.rec (motive := fun _ => (List (Int × Int)) → Int → Int → List Int → Option R38) (fun _ _ _ _ => none) (fun _ ih => DF38_2 n f1 ih) m
theorem DL38_2_succ (n : Nat × Nat) (f1 : (List (Int × Int)) → Int → List Int → Option R38) (m : Nat) : DL38_2 n f1 (m + 1) = DF38_2 n f1 (DL38_2 n f1 m) := rfl
theorem DL38_2_eq (n : Nat × Nat) (hn : n.2 = 1) (m1 : Nat) : ∀ m, L38_2 n m1 m = DL38_2 n (L38_1 n m1) m
  | 0 => by funext sheets0 machine7 k8 r5; kernel_rfl
  | m + 1 => by
    have ih := DL38_2_eq n hn m1 m
    funext sheets0 machine7 k8 r5; refine (L38_2_eq n m1 m sheets0 machine7 k8 r5).trans ?_
    rw [DL38_2_succ]
    unfold DF38_2
    (try simp only [ih, S28_D n hn, S62_D n hn, S76_D n hn]) <;> first | with_reducible rfl | rfl
noncomputable def DF38_1 (n : Nat × Nat) (f1 : (List (Int × Int)) → Int → List Int → Option R38) (sheets0 : List (Int × Int)) (machine7 : Int) (r5 : List Int) : Option R38 :=
    (bif decide (machine7 < 2) then DL38_2 n f1 n.1 sheets0 machine7 0 r5
    else some (0, 0, 14))
noncomputable def DL38_1 (n : Nat × Nat) (m : Nat) : (List (Int × Int)) → Int → List Int → Option R38 := Nat.rec (motive := fun _ => (List (Int × Int)) → Int → List Int → Option R38) (fun _ _ _ => none) (fun _ ih => DF38_1 n ih) m
theorem DL38_1_succ (n : Nat × Nat) (m : Nat) : DL38_1 n (m + 1) = DF38_1 n (DL38_1 n m) := rfl
theorem DL38_1_eq (n : Nat × Nat) (hn : n.2 = 1) : ∀ m, L38_1 n m = DL38_1 n m
  | 0 => by funext sheets0 machine7 r5; kernel_rfl
  | m + 1 => by
    have ih := DL38_1_eq n hn m
    funext sheets0 machine7 r5; refine (L38_1_eq n m sheets0 machine7 r5).trans ?_
    rw [DL38_1_succ]
    unfold DF38_1
    (try simp only [ih, DL38_2_eq n hn, S28_D n hn, S62_D n hn, S76_D n hn]) <;> first | with_reducible rfl | rfl
noncomputable def D38 (n : Nat × Nat) (sheets0 : List (Int × Int)) : Option R38 :=
    (D28 n sheets0).bind fun r1' =>
    (bif (r1'.2 != 0) then some (0, 0, r1'.2)
    else DL38_1 n n.1 sheets0 0 r1'.1)
theorem S38_D (n : Nat × Nat) (hn : n.2 = 1) : S38 n = D38 n := by
  funext sheets0; refine (S38_eq n sheets0).trans ?_
  unfold D38
  (try simp only [DL38_2_eq n hn, DL38_1_eq n hn, S28_D n hn, S62_D n hn, S76_D n hn]) <;> first | with_reducible rfl | rfl
abbrev R40 := (List (Int × Int)) × Int
noncomputable def c40 : Code := bodyOf Try.f40
noncomputable def an40 : Ann := (.s .l (.s .l (.s (.s .l (.j [0] .l .l)) (.s .l (.s (.s .l (.j [5] (.j [0, 5, 6] (.s (.s .l (.j [0, 5, 6] .l .l)) (.s (.j [0, 5, 6] .l .l) .l)) .l) .l)) .l)))))
def pk40 : List PK := [.c (.sl (.pair (.int .i64) (.int .i64)))]
def rk40 : List RK := [.own (.pair (.int .i64) (.int .i64)) 2, .c (.int .i64) 3]
noncomputable def rt40 (st : St) : Option R40 := rtG rk40 st
noncomputable def E40 (n : Nat × Nat) : Env := { T := tab, phi := (consPhi 26 (fun _ => true) (P26 n) noPhi), eff := fun _ => false, fuel := n.1, hold := n.2 }
noncomputable def kq40_1 (n : Nat × Nat) : St → Option R40 := run (E40 n) (cB (cB (cB c40))) (Ann.snd (Ann.snd (Ann.snd an40))) rt40 (fun _ _ => none) rt40
noncomputable def kc40_2 (n : Nat × Nat) : St → Option R40 := fun s => normC [0] s (kq40_1 n)
noncomputable def kq40_3 (n : Nat × Nat) : St → Option R40 := run (E40 n) (cB (cB (cB (cB (cB c40))))) (Ann.snd (Ann.snd (Ann.snd (Ann.snd (Ann.snd an40))))) rt40 (fun _ _ => none) rt40
noncomputable def kc40_4 (n : Nat × Nat) : St → Option R40 := fun s => normC [5] s (kq40_3 n)
noncomputable def xb40_5 (n : Nat × Nat) : Nat → St → Option R40 := fun j s => bif Nat.beq j 0 then normC [5] s (kq40_3 n) else (fun _ _ => none) j s
noncomputable def F40_6 (n : Nat × Nat) : (St → Option R40) → St → Option R40 := fun K s => run (E40 n) (cA (cA (cB (cA (cB (cB (cB (cB c40)))))))) (Ann.fst (Ann.fst (Ann.snd (Ann.fst (Ann.snd (Ann.snd (Ann.snd (Ann.snd an40)))))))) (fun s => normC [0, 5, 6] s K) (xb40_5 n) rt40 s
noncomputable def kq40_7 (n : Nat × Nat) (m1 : Nat) : St → Option R40 := run (E40 n) (cB (cA (cA (cB (cA (cB (cB (cB (cB c40))))))))) (Ann.snd (Ann.fst (Ann.fst (Ann.snd (Ann.fst (Ann.snd (Ann.snd (Ann.snd (Ann.snd an40))))))))) (fun s => normC [0, 5, 6] s (loopN (F40_6 n) m1)) (xb40_5 n) rt40
noncomputable def kc40_8 (n : Nat × Nat) (m1 : Nat) : St → Option R40 := fun s => normC [0, 5, 6] s (kq40_7 n m1)
noncomputable def kq40_9 (n : Nat × Nat) (m1 : Nat) : St → Option R40 := run (E40 n) (cB (cB (cA (cA (cB (cA (cB (cB (cB (cB c40)))))))))) (Ann.snd (Ann.snd (Ann.fst (Ann.fst (Ann.snd (Ann.fst (Ann.snd (Ann.snd (Ann.snd (Ann.snd an40)))))))))) (fun s => normC [0, 5, 6] s (loopN (F40_6 n) m1)) (xb40_5 n) rt40
noncomputable def kc40_10 (n : Nat × Nat) (m1 : Nat) : St → Option R40 := fun s => normC [0, 5, 6] s (kq40_9 n m1)
noncomputable def xb40_11 (n : Nat × Nat) (m1 : Nat) : Nat → St → Option R40 := fun j s => bif Nat.beq j 1 then normC [0, 5, 6] s (kq40_9 n m1) else (xb40_5 n) j s
noncomputable def L40_1 (n : Nat × Nat) (m : Nat) (sheets0 : List (Int × Int)) (i6 : Int) (out5 : List (Int × Int)) : Option R40 := loopN (F40_6 n) m { tm := [.c (.sl (.pair (.int .i64) (.int .i64)) sheets0 false), uu, uu, uu, uu, .own 5 none false, .c (.int .i64 i6), uu, uu, uu, uu, uu, uu, uu, uu, uu, uu, uu, uu, uu, uu, uu, uu, uu, uu, uu, uu, uu, uu, uu, uu, uu, uu, uu], hp := (upd emp 5 (.arr (.pair (.int .i64) (.int .i64)) out5 true)) }
theorem L40_1_eq (n : Nat × Nat) (m1 : Nat) (sheets0 : List (Int × Int)) (i6 : Int) (out5 : List (Int × Int)) : L40_1 n (m1 + 1) sheets0 i6 out5 =
    (bif decide (i6 ≥ 0) then (idx sheets0 i6).bind fun x2' =>
      (idx sheets0 i6).bind fun x3' =>
      (bif decide (out5.length + [(x2'.2, x3'.1)].length ≤ lim) then L40_1 n m1 sheets0 (wr .i64 (i6 - 1)) (out5 ++ [(x2'.2, x3'.1)])
      else none)
    else some (out5, 0)) := by kernel_rfl
noncomputable def S40 (n : Nat × Nat) (sheets0 : List (Int × Int)) : Option R40 := run (E40 n) c40 an40 rt40 (fun _ _ => none) rt40 { tm := [.c (.sl (.pair (.int .i64) (.int .i64)) sheets0 false), uu, uu, uu, uu, uu, uu, uu, uu, uu, uu, uu, uu, uu, uu, uu, uu, uu, uu, uu, uu, uu, uu, uu, uu, uu, uu, uu, uu, uu, uu, uu, uu, uu], hp := emp }
theorem S40_eq (n : Nat × Nat) (sheets0 : List (Int × Int)) : S40 n sheets0 =
    (S26 n sheets0).bind fun r1' =>
    (bif (r1' != 0) then some ([], r1')
    else L40_1 n n.1 sheets0 (wr .i64 ((sheets0.length : Int) - 1)) []) := by kernel_rfl
theorem S40_run (n : Nat × Nat) (xs : pksDen pk40) : S40 n xs.1 = runG (E40 n) noScope c40 an40 (rtG rk40) (fun _ _ => none) (rtG rk40) (st0 pk40 xs Try.f40.ntmps) := by kernel_rfl
noncomputable def P40 (n : Nat × Nat) := phiOf pk40 rk40 (fun xs => S40 n xs.1)
theorem call40 : CallOK Try.prog 40 := callOK_of Try.func40 (by kernel_rfl) (by kernel_rfl)
theorem env40 (n : Nat × Nat) : EnvOK Try.prog (E40 n) := envOK0 (consPhi_ok (FC26 n) call26 noPhi_ok) rfl rfl
theorem par40 (n : Nat × Nat) : EnvPar (E40 n) := envPar0 (consPhi_par phiOf_Par1 noPhi_par) rfl
theorem FC40 (n : Nat × Nat) : FCs Try.prog 40 (P40 n) := phiOf_FCs fun xs r h vs hv => FC.of_runG tabOK eqsOK (env40 n) (par40 n) mixed (fun _ => noScope_ok) Try.func40 (c := c40) (an := an40) (pks := pk40) (rks := rk40) (by kernel_rfl) (by kernel_rfl) hv ((S40_run n xs).symm.trans h)
/-D 40 -/
noncomputable def DF40_1 (n : Nat × Nat) (f1 : (List (Int × Int)) → Int → (List (Int × Int)) → Option R40) (sheets0 : List (Int × Int)) (i6 : Int) (out5 : List (Int × Int)) : Option R40 :=
    (bif decide (i6 ≥ 0) then (idx sheets0 i6).bind fun x2' =>
      (idx sheets0 i6).bind fun x3' =>
      (bif decide (out5.length + [(x2'.2, x3'.1)].length ≤ lim) then f1 sheets0 (wr .i64 (i6 - 1)) (out5 ++ [(x2'.2, x3'.1)])
      else none)
    else some (out5, 0))
noncomputable def DL40_1 (n : Nat × Nat) (m : Nat) : (List (Int × Int)) → Int → (List (Int × Int)) → Option R40 := Nat.rec (motive := fun _ => (List (Int × Int)) → Int → (List (Int × Int)) → Option R40) (fun _ _ _ => none) (fun _ ih => DF40_1 n ih) m
theorem DL40_1_succ (n : Nat × Nat) (m : Nat) : DL40_1 n (m + 1) = DF40_1 n (DL40_1 n m) := rfl
theorem DL40_1_eq (n : Nat × Nat) (hn : n.2 = 1) : ∀ m, L40_1 n m = DL40_1 n m
  | 0 => by funext sheets0 i6 out5; kernel_rfl
  | m + 1 => by
    have ih := DL40_1_eq n hn m
    funext sheets0 i6 out5; refine (L40_1_eq n m sheets0 i6 out5).trans ?_
    rw [DL40_1_succ]
    unfold DF40_1
    (try simp only [ih, S26_D n hn]) <;> first | with_reducible rfl | rfl
noncomputable def D40 (n : Nat × Nat) (sheets0 : List (Int × Int)) : Option R40 :=
    (D26 n sheets0).bind fun r1' =>
    (bif (r1' != 0) then some ([], r1')
    else DL40_1 n n.1 sheets0 (wr .i64 ((sheets0.length : Int) - 1)) [])
theorem S40_D (n : Nat × Nat) (hn : n.2 = 1) : S40 n = D40 n := by
  funext sheets0; refine (S40_eq n sheets0).trans ?_
  unfold D40
  (try simp only [DL40_1_eq n hn, S26_D n hn]) <;> first | with_reducible rfl | rfl
abbrev R42 := Int
noncomputable def c42 : Code := bodyOf Try.f42
noncomputable def an42 : Ann := (.s .l (.s .l (.s (.s .l (.j [0, 1, 2, 3, 27, 28, 29, 30, 31] .l .l)) (.s .l (.s (.s .l (.j [9] .l .l)) .l)))))
def pk42 : List PK := [.c (.sl (.pair (.int .i64) (.int .i64))), .c (.sl (.int .i64)), .c (.int .i64), .c (.int .i64)]
def rk42 : List RK := [.c (.int .i64) 8]
noncomputable def rt42 (st : St) : Option R42 := rtG rk42 st
noncomputable def E42 (n : Nat × Nat) : Env := { T := tab, phi := (consPhi 36 (fun _ => true) (P36 n) (consPhi 59 (fun _ => true) (P59 n) (consPhi 62 (fun _ => true) (P62 n) noPhi))), eff := fun _ => false, fuel := n.1, hold := n.2 }
noncomputable def kq42_1 (n : Nat × Nat) : St → Option R42 := run (E42 n) (cB (cB (cB c42))) (Ann.snd (Ann.snd (Ann.snd an42))) rt42 (fun _ _ => none) rt42
noncomputable def kc42_2 (n : Nat × Nat) : St → Option R42 := fun s => normC [0, 1, 2, 3, 27, 28, 29, 30, 31] s (kq42_1 n)
noncomputable def kq42_3 (n : Nat × Nat) : St → Option R42 := run (E42 n) (cB (cB (cB (cB (cB c42))))) (Ann.snd (Ann.snd (Ann.snd (Ann.snd (Ann.snd an42))))) rt42 (fun _ _ => none) rt42
noncomputable def kc42_4 (n : Nat × Nat) : St → Option R42 := fun s => normC [9] s (kq42_3 n)
noncomputable def S42 (n : Nat × Nat) (sheets0 : List (Int × Int)) (order1 : List Int) (machine2 : Int) (k3 : Int) : Option R42 := run (E42 n) c42 an42 rt42 (fun _ _ => none) rt42 { tm := [.c (.sl (.pair (.int .i64) (.int .i64)) sheets0 false), .c (.sl (.int .i64) order1 false), .c (.int .i64 machine2), .c (.int .i64 k3), uu, uu, uu, uu, uu, uu, uu, uu, uu, uu, uu, uu, uu, uu, uu, uu, uu, uu, uu, uu, uu, uu, uu, uu, uu, uu, uu, uu, uu, uu], hp := emp }
theorem S42_eq (n : Nat × Nat) (sheets0 : List (Int × Int)) (order1 : List Int) (machine2 : Int) (k3 : Int) : S42 n sheets0 order1 machine2 k3 =
    (S59 n sheets0 order1).bind fun r1' =>
    (bif (r1' != 0) then some r1'
    else (S36 n sheets0 machine2 k3).bind fun r2' =>
      ((bif ((r2'.2 == 0) == true) then (S62 n sheets0 order1).bind fun r3' =>
          some (r2'.1 != r3')
        else some false)).bind fun b4' =>
      (bif b4' then some 14
      else some r2'.2)) := by kernel_rfl
theorem S42_run (n : Nat × Nat) (xs : pksDen pk42) : S42 n xs.1 xs.2.1 xs.2.2.1 xs.2.2.2.1 = runG (E42 n) noScope c42 an42 (rtG rk42) (fun _ _ => none) (rtG rk42) (st0 pk42 xs Try.f42.ntmps) := by kernel_rfl
noncomputable def P42 (n : Nat × Nat) := phiOf pk42 rk42 (fun xs => S42 n xs.1 xs.2.1 xs.2.2.1 xs.2.2.2.1)
theorem call42 : CallOK Try.prog 42 := callOK_of Try.func42 (by kernel_rfl) (by kernel_rfl)
theorem env42 (n : Nat × Nat) : EnvOK Try.prog (E42 n) := envOK0 (consPhi_ok (FC36 n) call36 (consPhi_ok (FC59 n) call59 (consPhi_ok (FC62 n) call62 noPhi_ok))) rfl rfl
theorem par42 (n : Nat × Nat) : EnvPar (E42 n) := envPar0 (consPhi_par phiOf_Par1 (consPhi_par phiOf_Par1 (consPhi_par phiOf_Par1 noPhi_par))) rfl
theorem FC42 (n : Nat × Nat) : FCs Try.prog 42 (P42 n) := phiOf_FCs fun xs r h vs hv => FC.of_runG tabOK eqsOK (env42 n) (par42 n) mixed (fun _ => noScope_ok) Try.func42 (c := c42) (an := an42) (pks := pk42) (rks := rk42) (by kernel_rfl) (by kernel_rfl) hv ((S42_run n xs).symm.trans h)
/-D 42 -/
noncomputable def D42 (n : Nat × Nat) (sheets0 : List (Int × Int)) (order1 : List Int) (machine2 : Int) (k3 : Int) : Option R42 :=
    (D59 n sheets0 order1).bind fun r1' =>
    (bif (r1' != 0) then some r1'
    else (D36 n sheets0 machine2 k3).bind fun r2' =>
      ((bif ((r2'.2 == 0) == true) then (D62 n sheets0 order1).bind fun r3' =>
          some (r2'.1 != r3')
        else some false)).bind fun b4' =>
      (bif b4' then some 14
      else some r2'.2))
theorem S42_D (n : Nat × Nat) (hn : n.2 = 1) : S42 n = D42 n := by
  funext sheets0 order1 machine2 k3; refine (S42_eq n sheets0 order1 machine2 k3).trans ?_
  unfold D42
  (try simp only [S36_D n hn, S59_D n hn, S62_D n hn]) <;> first | with_reducible rfl | rfl
end Go.Proofs.Ytnlbhjmbaedadaa
set_option linter.unusedVariables false
set_option linter.unusedSimpArgs false
namespace Go.Proofs.Ytnlbhjmbaedadaa
open Go.Vi

theorem min_if (a b : Int) : (if b < a then b else a) = min a b := by
  by_cases h : b < a
  · rw [if_pos h, Int.min_eq_right (by omega)]
  · rw [if_neg h, Int.min_eq_left (by omega)]
theorem ct_bnd {m h : Int} {s : Int × Int} (hs : Ok s) : 0 ≤ ct m h s ∧ ct m h s ≤ 50 := by
  unfold Ok at hs
  unfold ct hr
  split <;> (try split) <;> omega
theorem cs_bnd {m h : Int} : ∀ {l : List (Int × Int)}, (∀ s ∈ l, Ok s) → 0 ≤ cs m h l ∧ cs m h l ≤ 50 * l.length
  | [], _ => by simp [cs]
  | s :: l, hl => by
    have := cs_bnd (m := m) (h := h) (l := l) (fun s hs => hl s (by simp [hs]))
    have := ct_bnd (m := m) (h := h) (hl s (by simp))
    simp only [cs, List.length_cons]
    omega
theorem hr_bnd {m : Int} {s : Int × Int} (hs : Ok s) : 0 ≤ hr m s ∧ hr m s ≤ 50 := by
  unfold Ok at hs
  unfold hr
  split <;> omega
theorem bound_loop (n : Nat × Nat) (l : List (Int × Int)) (hl : l.length ≤ 7) (hb : ∀ s ∈ l, Ok s) (mc : Int) (hm : mc = 0 ∨ mc = 1) (j : Int) (hj : 0 ≤ j ∧ j < l.length) : ∀ (m k : Nat) (v : Int), k ≤ l.length → l.length - k < m → 0 ≤ v → v ≤ 1000 + 50 * k →
    DL75_1 n m j v (l.length : Int) (k : Int) (l.map (hr mc)) (l.map (hr (1 - mc))) = some (v + cs mc (hr mc (sh l j)) (l.drop k))
  | 0, k, v, _, h, _, _ => by omega
  | m + 1, k, v, hk, h, v0, v1 => by
    rw [DL75_1_succ]
    unfold DF75_1
    by_cases hlt : k < l.length
    · have ho := hb _ (List.getElem_mem hlt)
      have hcb := ct_bnd (m := mc) (h := hr mc (sh l j)) ho
      have ih := bound_loop n l hl hb mc hm j hj m (k + 1) (v + ct mc (hr mc (sh l j)) l[k]) (by omega) (by omega) (by omega) (by omega)
      have hj2 : ∀ w : Int, DL75_2 n (DL75_1 n m) j w (l.length : Int) (k : Int) (l.map (hr mc)) (l.map (hr (1 - mc))) = DL75_1 n m j w (l.length : Int) (wr .i64 ((k : Int) + 1)) (l.map (hr mc)) (l.map (hr (1 - mc))) := fun w => rfl
      have ej : idx (l.map (hr mc)) j = some (hr mc (sh l j)) := by
        rw [idx_int (k := j.toNat) (by omega) (by simp; omega)]
        simp [sh, show j.toNat < l.length by omega]
      have ij : inB j (l.map (hr mc)).length = true := by
        rw [show j = ((j.toNat : Nat) : Int) by omega]
        exact inB_nat (by simp; omega)
      rw [dlt_t hlt, cond_true, inB_nat (by simpa using hlt), cond_true, idx_nat (by simpa using hlt), Option.bind_some, ij, cond_true, ej, Option.bind_some, inB_nat (by simpa using hlt), cond_true, idx_nat (by simpa using hlt), Option.bind_some, cond_true, Option.bind_some, hj2, hj2, wr_succ (by omega), drop_cons hlt]
      simp only [List.getElem_map, cs]
      by_cases c : hr mc l[k] < hr mc (sh l j)
      · have e : ct mc (hr mc (sh l j)) l[k] = min (hr mc l[k]) (hr (1 - mc) l[k]) := by
          unfold ct
          rw [if_pos c]
          rcases hm with e | e <;> subst e
          · rfl
          · rw [Int.min_comm]; rfl
        rw [decide_eq_true c, cond_true, min_if, ← e, wr_ok (by omega) (by omega), ih]
        congr 1
        omega
      · have e : ct mc (hr mc (sh l j)) l[k] = hr (1 - mc) l[k] := by
          unfold ct
          rw [if_neg c]
        rw [decide_eq_false c, cond_false, ← e, wr_ok (by omega) (by omega), ih]
        congr 1
        omega
    · rw [dlt_f hlt, cond_false, List.drop_of_length_le (by omega)]
      simp [cs]
def bd (l : List (Int × Int)) (m k : Int) : Int := bnd l m (hr m (sh l k))
theorem bd_bnd {l : List (Int × Int)} (hg : Good l) {m k : Int} (hk : 0 ≤ k ∧ k < l.length) : 0 ≤ bd l m k ∧ bd l m k ≤ 1000 := by
  have h1 := cs_bnd (m := m) (h := hr m (sh l k)) hg.ok
  have h2 := hr_bnd (m := m) (hg.ok _ (sh_mem hk.1 hk.2))
  have := hg.len
  unfold bd bnd
  omega
theorem bound_eq {n : Nat × Nat} (hn : 1000 ≤ n.1) {l : List (Int × Int)} (hg : Good l) {m k : Int} (hm : m = 0 ∨ m = 1) (hk : 0 ≤ k ∧ k < l.length) : D75 n l m k = some (bd l m k) := by
  have h7 := hg.len
  have ej : idx (l.map (hr m)) k = some (hr m (sh l k)) := by
    rw [idx_int (k := k.toNat) (by omega) (by simp; omega)]
    simp [sh, show k.toNat < l.length by omega]
  have ij : inB k (l.map (hr m)).length = true := by
    rw [show k = ((k.toNat : Nat) : Int) by omega]
    exact inB_nat (by simp; omega)
  have hb := hr_bnd (m := m) (hg.ok _ (sh_mem hk.1 hk.2))
  unfold D75
  rw [wr_ok (by omega) (by omega), all_eq hn hm (by omega), Option.bind_some, all_eq hn (by omega) (by omega), Option.bind_some, ij, cond_true, ej, Option.bind_some]
  have := bound_loop n l h7 hg.ok m hm k hk n.1 0 (hr m (sh l k)) (by omega) (by omega) (by omega) (by omega)
  simpa [bd, bnd] using this
theorem needs_eq (n : Nat × Nat) {m : Int} (s : Int × Int) : D91 n s m = some (hr m s) := by
  unfold D91 hr
  by_cases h : m = 0
  · simp [h]
  · rw [show (m == 0) = false by simpa using h, cond_false, if_neg h]
theorem rbound_loop (n : Nat × Nat) (l : List (Int × Int)) (hl : l.length ≤ 7) (hb : ∀ s ∈ l, Ok s) (mc : Int) (hm : mc = 0 ∨ mc = 1) (h : Int) : ∀ (m k : Nat) (v : Int), k ≤ l.length → l.length - k < m → 0 ≤ v → v ≤ 1000 + 50 * k →
    DL76_1 n m l mc h v (k : Int) = some (v + cs mc h (l.drop k))
  | 0, k, v, _, h, _, _ => by omega
  | m + 1, k, v, hk, h', v0, v1 => by
    rw [DL76_1_succ]
    unfold DF76_1
    by_cases hlt : k < l.length
    · have ho := hb _ (List.getElem_mem hlt)
      have hcb := ct_bnd (m := mc) (h := h) ho
      have ih := rbound_loop n l hl hb mc hm h m (k + 1) (v + ct mc h l[k]) (by omega) (by omega) (by omega) (by omega)
      have hj2 : ∀ w : Int, DL76_2 n (DL76_1 n m) l mc h w (k : Int) = DL76_1 n m l mc h w (wr .i64 ((k : Int) + 1)) := fun w => rfl
      rw [dlt_t hlt, cond_true, idx_nat hlt, drop_cons hlt]
      simp only [Option.bind_some, needs_eq, hj2, wr_succ (show k < 1000000 by omega), cs, wr_ok (x := 1 - mc) (by omega) (by omega)]
      by_cases c : hr mc l[k] < h
      · have e : ct mc h l[k] = min l[k].1 l[k].2 := by
          unfold ct
          rw [if_pos c]
        rw [decide_eq_true c, cond_true, min_if, ← e, wr_ok (by omega) (by omega), ih]
        congr 1
        omega
      · have e : ct mc h l[k] = hr (1 - mc) l[k] := by
          unfold ct
          rw [if_neg c]
        rw [decide_eq_false c, cond_false, ← e, wr_ok (by omega) (by omega), ih]
        congr 1
        omega
    · rw [dlt_f hlt, cond_false, List.drop_of_length_le (by omega)]
      simp [cs]
theorem rbound_eq {n : Nat × Nat} (hn : 1000 ≤ n.1) {l : List (Int × Int)} (hg : Good l) {m k : Int} (hm : m = 0 ∨ m = 1) (hk : 0 ≤ k ∧ k < l.length) : D76 n l m k = some (bd l m k) := by
  have hb := hr_bnd (m := m) (hg.ok _ (sh_mem hk.1 hk.2))
  have h7 := hg.len
  unfold D76
  rw [idx_sh hk.1 hk.2]
  simp only [Option.bind_some, needs_eq]
  have := rbound_loop n l hg.len hg.ok m hm (hr m (sh l k)) n.1 0 (hr m (sh l k)) (by omega) (by omega) (by omega) (by omega)
  simpa [bd, bnd] using this

def boundS (l : List (Int × Int)) (m k : Int) : Int × Int := if chk l ≠ 0 then (0, chk l) else if (m = 0 ∨ m = 1) ∧ 0 ≤ k ∧ k < l.length then (bd l m k, 0) else (0, 2)
theorem Bound_eq {n : Nat × Nat} (hn : 1000 ≤ n.1) (l : List (Int × Int)) (m k : Int) : D35 n l m k = some (boundS l m k) := by
  unfold D35 boundS
  rw [chk_eq hn, Option.bind_some]
  by_cases h : chk l = 0
  · rw [show (chk l != 0) = false by simp [h], cond_false, if_neg (by simpa using h)]
    by_cases c : (m = 0 ∨ m = 1) ∧ 0 ≤ k ∧ k < l.length
    · rw [if_pos c, decide_eq_false (show ¬ m < 0 by omega), decide_eq_false (show ¬ m > 1 by omega), decide_eq_false (show ¬ k < 0 by omega), decide_eq_false (show ¬ k ≥ (l.length : Int) by omega)]
      simp only [beq_self_eq_true, cond_true, cond_false, Option.bind_some, bound_eq hn (chk_good.1 h) c.1 c.2]
    · rw [if_neg c]
      by_cases a : m < 0
      · simp [a]
      by_cases b : m > 1
      · simp [a, b]
      by_cases d : k < 0
      · simp [a, b, d]
      simp [a, b, d, show (l.length : Int) ≤ k by omega]
  · rw [show (chk l != 0) = true by simpa using h, cond_true, if_pos h]
theorem rBound_eq {n : Nat × Nat} (hn : 1000 ≤ n.1) (l : List (Int × Int)) (m k : Int) : D36 n l m k = some (boundS l m k) := by
  unfold D36 boundS
  rw [chkr_eq hn, Option.bind_some]
  by_cases h : chk l = 0
  · have hg := chk_good.1 h
    have h7 := hg.len
    rw [h, if_neg (by simp), wr_ok (by omega) (by omega)]
    simp only [beq_self_eq_true, cond_true, in_eq, Option.bind_some]
    by_cases c : (m = 0 ∨ m = 1) ∧ 0 ≤ k ∧ k < l.length
    · rw [if_pos c, decide_eq_true (show 0 ≤ m by omega), decide_eq_true (show m ≤ 1 by omega), decide_eq_true (show 0 ≤ k by omega), decide_eq_true (show k ≤ (l.length : Int) - 1 by omega), rbound_eq hn hg c.1 c.2]
      rfl
    · rw [if_neg c]
      by_cases a : 0 ≤ m <;> by_cases b : m ≤ 1 <;> by_cases d : 0 ≤ k <;> by_cases e : k ≤ (l.length : Int) - 1 <;> first | (exfalso; omega) | (simp [a, b, d, e])
  · rw [show (chk l == 0) = false by simpa using h, show (chk l != 0) = true by simpa using h, if_pos h]
    rfl

def goesS (l : List (Int × Int)) (i j : Int) : Bool × Int := if chk l ≠ 0 then (false, chk l) else if (0 ≤ i ∧ i < l.length) ∧ 0 ≤ j ∧ j < l.length then (decide (min (sh l i).1 (sh l j).2 ≤ min (sh l j).1 (sh l i).2), 0) else (false, 2)
theorem Goes_eq {n : Nat × Nat} (hn : 1000 ≤ n.1) (l : List (Int × Int)) (i j : Int) : D33 n l i j = some (goesS l i j) := by
  unfold D33 goesS
  rw [chk_eq hn, Option.bind_some]
  by_cases h : chk l = 0
  · rw [show (chk l != 0) = false by simp [h], cond_false, if_neg (show ¬ chk l ≠ 0 by simpa using h), min_if, max_if]
    by_cases c : (0 ≤ i ∧ i < l.length) ∧ 0 ≤ j ∧ j < l.length
    · rw [if_pos c, decide_eq_false (show ¬ min i j < 0 by omega), decide_eq_false (show ¬ max i j ≥ (l.length : Int) by omega), idx_sh c.1.1 c.1.2, idx_sh c.2.1 c.2.2]
      simp only [beq_self_eq_true, cond_true, cond_false, Option.bind_some, min_if]
    · rw [if_neg c]
      by_cases a : min i j < 0
      · rw [decide_eq_true a]; rfl
      · rw [decide_eq_false a, decide_eq_true (show max i j ≥ (l.length : Int) by omega)]; rfl
  · rw [show (chk l != 0) = true by simpa using h, cond_true, if_pos h]
theorem rGoes_eq {n : Nat × Nat} (hn : 1000 ≤ n.1) (l : List (Int × Int)) (i j : Int) : D34 n l i j = some (goesS l i j) := by
  unfold D34 goesS
  rw [chkr_eq hn, Option.bind_some]
  by_cases h : chk l = 0
  · have hg := chk_good.1 h
    have h7 := hg.len
    rw [h, if_neg (by simp), wr_ok (by omega) (by omega)]
    simp only [beq_self_eq_true, cond_true, in_eq, Option.bind_some]
    by_cases c : (0 ≤ i ∧ i < l.length) ∧ 0 ≤ j ∧ j < l.length
    · rw [if_pos c, decide_eq_true (show 0 ≤ i by omega), decide_eq_true (show i ≤ (l.length : Int) - 1 by omega), decide_eq_true (show 0 ≤ j by omega), decide_eq_true (show j ≤ (l.length : Int) - 1 by omega), idx_sh c.1.1 c.1.2, idx_sh c.2.1 c.2.2]
      simp only [Option.bind_some, min_if]
      rfl
    · rw [if_neg c]
      by_cases a : 0 ≤ i <;> by_cases b : i ≤ (l.length : Int) - 1 <;> by_cases d : 0 ≤ j <;> by_cases e : j ≤ (l.length : Int) - 1 <;> first | (exfalso; omega) | (simp [a, b, d, e])
  · rw [show (chk l == 0) = false by simpa using h, show (chk l != 0) = true by simpa using h, if_pos h]
    rfl

def turnS (l : List (Int × Int)) : List (Int × Int) × Int := if chk l ≠ 0 then ([], chk l) else (tu l 0, 0)
theorem rturn_loop (n : Nat × Nat) (l : List (Int × Int)) (hl : l.length ≤ 7) : ∀ (m k : Nat), k ≤ l.length → k < m → DL40_1 n m l ((k : Int) - 1) (tu l k) = some (tu l 0, 0)
  | 0, k, _, h => by omega
  | m + 1, k, hk, h => by
    rw [DL40_1_succ]
    unfold DF40_1
    by_cases hz : k = 0
    · subst hz
      rw [decide_eq_false (by omega), cond_false]
    · have hlt : k - 1 < l.length := by omega
      have ih := rturn_loop n l hl m (k - 1) (by omega) (by omega)
      have hs := tu_step l (k - 1) hlt
      rw [show k - 1 + 1 = k by omega] at hs
      rw [decide_eq_true (by omega), cond_true, show (k : Int) - 1 = ((k - 1 : Nat) : Int) by omega, idx_nat hlt]
      simp only [Option.bind_some]
      rw [lim_dec (by rw [tu_len]; omega), cond_true, wr_ok (by omega) (by omega), ← hs, ih]
theorem rTurn_eq {n : Nat × Nat} (hn : 1000 ≤ n.1) (l : List (Int × Int)) : D40 n l = some (turnS l) := by
  unfold D40 turnS
  rw [chkr_eq hn, Option.bind_some]
  by_cases h : chk l = 0
  · have h7 := (chk_good.1 h).len
    rw [show (chk l != 0) = false by simp [h], cond_false, if_neg (by simpa using h), wr_ok (by omega) (by omega)]
    have := rturn_loop n l h7 n.1 l.length (by omega) (by omega)
    rwa [tu_all] at this
  · rw [show (chk l != 0) = true by simpa using h, cond_true, if_pos h]
theorem Turn_eq {n : Nat × Nat} (hn : 1000 ≤ n.1) (l : List (Int × Int)) : D39 n l = some (turnS l) := by
  unfold D39 HF39 turnS
  rw [chk_eq hn, Option.bind_some]
  by_cases h : chk l = 0
  · have h7 := (chk_good.1 h).len
    rw [show (chk l != 0) = false by simp [h], cond_false, if_neg (by simpa using h)]
    have := (chk_good.1 h).pos
    rw [decide_eq_true (show 0 < l.length by omega), decide_eq_true (show l.length ≤ 1000000 by omega)]
    rfl
  · rw [show (chk l != 0) = true by simpa using h, cond_true, if_pos h]

def provesS (l : List (Int × Int)) (o : List Int) (m k : Int) : Int :=
  if (put l o).2 ≠ 0 then (put l o).2 else if (boundS l m k).2 ≠ 0 then (boundS l m k).2 else if (boundS l m k).1 = tm 0 0 (pk l o) then 0 else 14
theorem Proves_eq {n : Nat × Nat} (hn : 1000 ≤ n.1) {o : List Int} (hs : o.length < 800) (l : List (Int × Int)) (m k : Int) : D41 n l o m k = some (provesS l o m k) := by
  unfold D41 provesS
  rw [put_eq hn hs, Option.bind_some]
  by_cases h : (put l o).2 = 0
  · obtain ⟨hg, ho⟩ := put_zero.1 h
    rw [show ((put l o).2 != 0) = false by simp [h], cond_false, if_neg (by simpa using h), put_ord hg ho, Bound_eq hn, Option.bind_some]
    by_cases h2 : (boundS l m k).2 = 0
    · rw [show ((boundS l m k).2 != 0) = false by simp [h2], cond_false, if_neg (by simpa using h2), time_eq hn (ord_pk hg ho).1 (ord_pk hg ho).2 (pk_ok hg ho), Option.bind_some]
      by_cases e : (boundS l m k).1 = tm 0 0 (pk l o)
      · rw [if_pos e, e]; simp
      · rw [if_neg e, show ((boundS l m k).1 != tm 0 0 (pk l o)) = true by simpa using e, cond_true]
    · rw [show ((boundS l m k).2 != 0) = true by simpa using h2, cond_true, if_pos h2]
  · rw [show ((put l o).2 != 0) = true by simpa using h, cond_true, if_pos h]
theorem rProves_eq {n : Nat × Nat} (hn : 1000 ≤ n.1) {o : List Int} (hs : o.length < 800) (l : List (Int × Int)) (m k : Int) : D42 n l o m k = some (provesS l o m k) := by
  unfold D42 provesS
  rw [ordered_eq hn hs, Option.bind_some]
  by_cases h : (put l o).2 = 0
  · obtain ⟨hg, ho⟩ := put_zero.1 h
    rw [show ((put l o).2 != 0) = false by simp [h], cond_false, if_neg (by simpa using h), rBound_eq hn, Option.bind_some]
    by_cases h2 : (boundS l m k).2 = 0
    · rw [show ((boundS l m k).2 == 0) = true by simpa using h2, if_neg (by simpa using h2), rtime_eq hn hg ho]
      simp only [beq_self_eq_true, cond_true, Option.bind_some]
      by_cases e : (boundS l m k).1 = tm 0 0 (pk l o)
      · rw [if_pos e, e]; simp [h2]
      · rw [if_neg e, show ((boundS l m k).1 != tm 0 0 (pk l o)) = true by simpa using e, cond_true]
    · rw [show ((boundS l m k).2 == 0) = false by simpa using h2, if_pos h2]
      simp only [show (false == true) = false from rfl, cond_false, Option.bind_some]
  · rw [show ((put l o).2 != 0) = true by simpa using h, cond_true, if_pos h]

def pr1 (m : Int) (k : Nat) : List (Int × Int) := (ix k).map fun i => (m, i)
theorem pr1_succ (m : Int) (k : Nat) : pr1 m (k + 1) = pr1 m k ++ [(m, (k : Int))] := by
  unfold pr1
  rw [ix_succ, List.map_append]
  rfl
def fst (l : List (Int × Int)) (t : Int) (P : List (Int × Int)) : Option (Int × Int) := P.find? fun p => decide (bd l p.1 p.2 = t)
theorem fst_some {l : List (Int × Int)} {t : Int} {P : List (Int × Int)} {p : Int × Int} (h : fst l t P = some p) : bd l p.1 p.2 = t ∧ p ∈ P :=
  ⟨by simpa using List.find?_some h, List.mem_of_find?_eq_some h⟩
theorem fst_none {l : List (Int × Int)} {t : Int} {P : List (Int × Int)} (h : ∀ p ∈ P, bd l p.1 p.2 ≠ t) : fst l t P = none := by
  unfold fst
  rw [List.find?_eq_none]
  intro p hp
  simpa using h p hp
theorem fst_append {l : List (Int × Int)} {t : Int} {P Q : List (Int × Int)} : fst l t (P ++ Q) = (fst l t P).or (fst l t Q) := List.find?_append
theorem fst_one (l : List (Int × Int)) (t : Int) (p : Int × Int) : fst l t [p] = if bd l p.1 p.2 = t then some p else none := by
  unfold fst
  by_cases e : bd l p.1 p.2 = t
  · rw [if_pos e]; simp [e]
  · rw [if_neg e]; simp [e]
def Inv (l P : List (Int × Int)) (b m k : Int) : Prop := (∀ p ∈ P, bd l p.1 p.2 ≤ b) ∧ (P = [] ∧ b = -1 ∨ fst l b P = some (m, k))
theorem Inv.step {l P : List (Int × Int)} {b m k : Int} (h : Inv l P b m k) {p : Int × Int} (h0 : 0 ≤ bd l p.1 p.2) : Inv l (P ++ [p]) (if bd l p.1 p.2 > b then bd l p.1 p.2 else b) (if bd l p.1 p.2 > b then p.1 else m) (if bd l p.1 p.2 > b then p.2 else k) := by
  obtain ⟨h1, h2⟩ := h
  by_cases c : bd l p.1 p.2 > b
  · rw [if_pos c, if_pos c, if_pos c]
    refine ⟨fun q hq => ?_, .inr ?_⟩
    · rcases List.mem_append.1 hq with hq | hq
      · have := h1 q hq; omega
      · rw [List.mem_singleton] at hq; subst hq; omega
    · rw [fst_append, fst_none (P := P) (fun q hq => by have := h1 q hq; omega), fst_one, if_pos rfl]
      rfl
  · rw [if_neg c, if_neg c, if_neg c]
    refine ⟨fun q hq => ?_, ?_⟩
    · rcases List.mem_append.1 hq with hq | hq
      · exact h1 q hq
      · rw [List.mem_singleton] at hq; subst hq; omega
    · rcases h2 with ⟨_, e⟩ | h2
      · omega
      · exact .inr (by rw [fst_append, h2]; rfl)
theorem prove_loop (n : Nat × Nat) (hn : 1000 ≤ n.1) {l : List (Int × Int)} (hg : Good l) {mc : Int} (hm : mc = 0 ∨ mc = 1) (f : List (Int × Int) → Int → Int → Int → Int → Option R37) (P0 : List (Int × Int)) : ∀ (m k : Nat) (a b c : Int), k ≤ l.length → l.length - k < m → Inv l (P0 ++ pr1 mc k) c a b →
    ∃ a' b' c', Inv l (P0 ++ pr1 mc l.length) c' a' b' ∧ DL37_2 n f m l a b c mc mc (l.length : Int) (k : Int) = f l a' b' c' (wr .i64 (mc + 1))
  | 0, k, a, b, c, _, h, _ => by omega
  | m + 1, k, a, b, c, hk, h, hi => by
    have h7 := hg.len
    rw [DL37_2_succ]
    unfold DF37_2
    by_cases hlt : k < l.length
    · have hj3 : ∀ a b c : Int, DL37_3 n f (DL37_2 n f m) l a b c mc mc (l.length : Int) (k : Int) = DL37_2 n f m l a b c mc mc (l.length : Int) (wr .i64 ((k : Int) + 1)) := fun a b c => rfl
      have hb := bd_bnd hg (m := mc) (k := (k : Int)) ⟨by omega, by omega⟩
      have st := hi.step (p := (mc, (k : Int))) hb.1
      rw [List.append_assoc, ← pr1_succ] at st
      rw [dlt_t hlt, cond_true, bound_eq hn hg hm ⟨by omega, by omega⟩, Option.bind_some, hj3, hj3, wr_succ (by omega)]
      by_cases g : bd l mc (k : Int) > c
      · rw [decide_eq_true g, cond_true]
        simp only [if_pos g] at st
        exact prove_loop n hn hg hm f P0 m (k + 1) _ _ _ (by omega) (by omega) st
      · rw [decide_eq_false g, cond_false]
        simp only [if_neg g] at st
        exact prove_loop n hn hg hm f P0 m (k + 1) _ _ _ (by omega) (by omega) st
    · have : k = l.length := by omega
      subst this
      rw [dlt_f hlt, cond_false]
      exact ⟨a, b, c, hi, rfl⟩
/-- All machines and sheets; the time of the best orders. -/
def prs (l : List (Int × Int)) : List (Int × Int) := pr1 0 l.length ++ pr1 1 l.length
def best (l : List (Int × Int)) : Int := tm 0 0 (pk l (rl l))
theorem prs_mem {l : List (Int × Int)} {p : Int × Int} : p ∈ prs l ↔ (p.1 = 0 ∨ p.1 = 1) ∧ 0 ≤ p.2 ∧ p.2 < l.length := by
  unfold prs pr1
  rw [List.mem_append, List.mem_map, List.mem_map]
  constructor
  · rintro (⟨i, hi, e⟩ | ⟨i, hi, e⟩) <;> rw [ix_mem] at hi <;> subst e
    · exact ⟨.inl rfl, hi⟩
    · exact ⟨.inr rfl, hi⟩
  · rintro ⟨h | h, h'⟩
    · exact .inl ⟨p.2, ix_mem.2 h', by rw [← h]⟩
    · exact .inr ⟨p.2, ix_mem.2 h', by rw [← h]⟩
theorem bd_le {l : List (Int × Int)} (hg : Good l) {p : Int × Int} (hp : p ∈ prs l) : bd l p.1 p.2 ≤ best l := by
  obtain ⟨hm, hk⟩ := prs_mem.1 hp
  exact bnd_le (rl_ord l) hm (sh_mem hk.1 hk.2)
theorem bd_ex {l : List (Int × Int)} (hg : Good l) : ∃ p ∈ prs l, bd l p.1 p.2 = best l := by
  obtain ⟨m, s, hm, hs, e⟩ := johnson hg
  obtain ⟨k, hk, e'⟩ := List.getElem_of_mem hs
  refine ⟨(m, (k : Int)), prs_mem.2 ⟨hm, by omega, by omega⟩, ?_⟩
  unfold best bd
  rw [e, ← e']
  simp [sh, hk]
theorem fst_best {l : List (Int × Int)} (hg : Good l) : ∃ p, fst l (best l) (prs l) = some p := by
  obtain ⟨p, hp, e⟩ := bd_ex hg
  cases h : fst l (best l) (prs l) with
  | some q => exact ⟨q, rfl⟩
  | none =>
    unfold fst at h
    rw [List.find?_eq_none] at h
    exact absurd (decide_eq_true e) (h p hp)
theorem Inv.best {l : List (Int × Int)} (hg : Good l) {b m k : Int} (h : Inv l (prs l) b m k) : fst l (best l) (prs l) = some (m, k) := by
  obtain ⟨p, hp, e⟩ := bd_ex hg
  obtain ⟨h1, h2⟩ := h
  rcases h2 with ⟨h2, _⟩ | h2
  · rw [h2] at hp; simp at hp
  · have := fst_some h2
    have c1 := bd_le hg this.2
    have c2 := h1 p hp
    have : b = Go.Proofs.Ytnlbhjmbaedadaa.best l := by omega
    rwa [this] at h2
def proveS (l : List (Int × Int)) : Int × Int × Int := if chk l ≠ 0 then (0, 0, chk l) else match fst l (best l) (prs l) with | some p => (p.1, p.2, 0) | none => (0, 0, 14)
theorem Prove_eq {n : Nat × Nat} (hn : 1000 ≤ n.1) (l : List (Int × Int)) : D37 n l = some (proveS l) := by
  unfold D37 proveS
  rw [chk_eq hn, Option.bind_some]
  by_cases h : chk l = 0
  · have hg := chk_good.1 h
    have h7 := hg.len
    rw [show (chk l != 0) = false by simp [h], cond_false, if_neg (by simpa using h)]
    obtain ⟨k, hk⟩ : ∃ k, n.1 = k + 3 := ⟨n.1 - 3, by omega⟩
    have e1 : ∀ a b c, DL37_1 n (k + 1) l a b c 2 = some (a, b, 0) := fun a b c => rfl
    obtain ⟨a, b, c, i1, e2⟩ := prove_loop n hn hg (.inl rfl) (DL37_1 n (k + 2)) [] n.1 0 0 0 (-1) (by omega) (by omega) ⟨fun p hp => by simp [pr1, ix] at hp, .inl ⟨rfl, rfl⟩⟩
    rw [List.nil_append] at i1
    obtain ⟨a', b', c', i2, e3⟩ := prove_loop n hn hg (.inr rfl) (DL37_1 n (k + 1)) (pr1 0 l.length) n.1 0 a b c (by omega) (by omega) (by simpa [pr1, ix] using i1)
    have f1 : DL37_1 n n.1 l 0 0 (-1) 0 = DL37_2 n (DL37_1 n (k + 2)) n.1 l 0 0 (-1) 0 0 (l.length : Int) 0 := by
      rw [hk, DL37_1_succ]; rw [← hk]; rfl
    have f2 : DL37_1 n (k + 2) l a b c 1 = DL37_2 n (DL37_1 n (k + 1)) n.1 l a b c 1 1 (l.length : Int) 0 := by
      rw [DL37_1_succ]; rfl
    rw [show wr .i64 ((0 : Int) + 1) = 1 by rw [wr_ok (by omega) (by omega)]; omega] at e2
    rw [show wr .i64 ((1 : Int) + 1) = 2 by rw [wr_ok (by omega) (by omega)]; omega] at e3
    rw [i2.best hg, f1, ← Int.ofNat_zero]
    refine e2.trans ?_
    rw [f2]
    refine e3.trans ?_
    rw [e1]
    rfl
  · rw [show (chk l != 0) = true by simpa using h, cond_true, if_pos h]
theorem rprove_loop (n : Nat × Nat) (hn : 1000 ≤ n.1) {l : List (Int × Int)} (hg : Good l) {mc : Int} (hm : mc = 0 ∨ mc = 1) (f : List (Int × Int) → Int → List Int → Option R38) : ∀ (m k : Nat), k ≤ l.length → l.length - k < m → fst l (best l) (pr1 mc k) = none →
    DL38_2 n f m l mc (k : Int) (rl l) = match fst l (best l) (pr1 mc l.length) with | some p => some (p.1, p.2, 0) | none => f l (wr .i64 (mc + 1)) (rl l)
  | 0, k, _, h, _ => by omega
  | m + 1, k, hk, h, hi => by
    have h7 := hg.len
    rw [DL38_2_succ]
    unfold DF38_2
    by_cases hlt : k < l.length
    · rw [dlt_t hlt, cond_true, rbound_eq hn hg hm ⟨by omega, by omega⟩, Option.bind_some, rtime_eq hn hg (rl_ord l), Option.bind_some, wr_succ (by omega)]
      by_cases e : bd l mc (k : Int) = best l
      · rw [show (bd l mc (k : Int) == tm 0 0 (pk l (rl l))) = true by simpa [best] using e, cond_true]
        have : fst l (best l) (pr1 mc l.length) = some (mc, (k : Int)) := by
          have hs : fst l (best l) (pr1 mc (k + 1)) = some (mc, (k : Int)) := by
            rw [pr1_succ, fst_append, hi, fst_one, if_pos e]
            rfl
          have ext : ∀ j, k + 1 ≤ j → fst l (best l) (pr1 mc j) = some (mc, (k : Int)) := by
            intro j hj
            induction j with
            | zero => omega
            | succ j ih =>
              by_cases c : k + 1 ≤ j
              · rw [pr1_succ, fst_append, ih c]; rfl
              · rw [show j = k by omega]; exact hs
          exact ext _ (by omega)
        rw [this]
      · rw [show (bd l mc (k : Int) == tm 0 0 (pk l (rl l))) = false by simpa [best] using e, cond_false]
        exact rprove_loop n hn hg hm f m (k + 1) (by omega) (by omega) (by rw [pr1_succ, fst_append, hi, fst_one, if_neg e]; rfl)
    · have : k = l.length := by omega
      subst this
      rw [dlt_f hlt, cond_false, hi]
theorem rProve_eq {n : Nat × Nat} (hn : 1000 ≤ n.1) (l : List (Int × Int)) : D38 n l = some (proveS l) := by
  unfold D38 proveS
  rw [rRule_eq hn, Option.bind_some]
  unfold ruleS
  by_cases h : chk l = 0
  · have hg := chk_good.1 h
    have h7 := hg.len
    rw [if_neg (by simpa using h), if_neg (by simpa using h)]
    simp only [bne_self_eq_false, cond_false]
    obtain ⟨k, hk⟩ : ∃ k, n.1 = k + 3 := ⟨n.1 - 3, by omega⟩
    have e1 := rprove_loop n hn hg (.inl rfl) (DL38_1 n (k + 2)) n.1 0 (by omega) (by omega) rfl
    have e2 := rprove_loop n hn hg (.inr rfl) (DL38_1 n (k + 1)) n.1 0 (by omega) (by omega) rfl
    have f1 : DL38_1 n n.1 l 0 (rl l) = DL38_2 n (DL38_1 n (k + 2)) n.1 l 0 0 (rl l) := by
      rw [hk, DL38_1_succ]; rw [← hk]; rfl
    have f2 : DL38_1 n (k + 2) l 1 (rl l) = DL38_2 n (DL38_1 n (k + 1)) n.1 l 1 0 (rl l) := by
      rw [DL38_1_succ]; rfl
    rw [show wr .i64 ((0 : Int) + 1) = 1 by rw [wr_ok (by omega) (by omega)]; omega] at e1
    rw [f1, ← Int.ofNat_zero]
    refine e1.trans ?_
    unfold prs
    rw [fst_append]
    cases h1 : fst l (best l) (pr1 0 l.length) with
    | some p => rfl
    | none =>
      simp only [Option.none_or]
      rw [f2]
      refine e2.trans ?_
      cases h2 : fst l (best l) (pr1 1 l.length) with
      | some p => rfl
      | none =>
        obtain ⟨p, hp⟩ := fst_best hg
        unfold prs at hp
        rw [fst_append, h1, h2] at hp
        simp at hp
  · rw [if_pos h, if_pos h]
    simp only []
    rw [show (chk l != 0) = true by simpa using h, cond_true]


theorem tmod_ok {x y : Int} (h0 : 0 ≤ x) (hy : 0 < y) : Int.tmod x y = x % y := Int.tmod_eq_emod_of_nonneg h0
def By (x : Int) : Prop := 0 ≤ x ∧ x ≤ 255
def gm (t : Int) (x : Int × Int) : Int × Int := (x.1 % (t + 1), x.2 % (t + 1))
theorem made_loop (n : Nat × Nat) (t : Int) (ht : 1 ≤ t ∧ t ≤ 50) (q : List (Int × Int)) (hq : ∀ x ∈ q, By x.1 ∧ By x.2) (hl : q.length ≤ 7) : ∀ (m k : Nat), k ≤ q.length → q.length - k < m → DL43_1 n m t q (q.length : Int) (k : Int) ((q.take k).map (gm t)) = some (q.map (gm t))
  | 0, k, _, h => by omega
  | m + 1, k, hk, h => by
    rw [DL43_1_succ]
    unfold DF43_1
    by_cases hlt : k < q.length
    · have ih := made_loop n t ht q hq hl m (k + 1) (by omega) (by omega)
      obtain ⟨h1, h2⟩ := hq _ (List.getElem_mem hlt)
      unfold By at h1 h2
      rw [dlt_t hlt, cond_true, show inB 0 2 = true from rfl, show inB 1 2 = true from rfl, idx_nat hlt, Option.bind_some, cond_true, wr_succ (by omega), wr_ok (x := t + 1) (by omega) (by omega), show (t + 1 == 0) = false by simp; omega]
      rw [show idx [q[k].1, q[k].2] 0 = some q[k].1 from rfl, show idx [q[k].1, q[k].2] 1 = some q[k].2 from rfl]
      simp only [Option.bind_some, cond_true, cond_false]
      rw [lim_dec (by simp; omega), cond_true, wr_ok (x := q[k].1) (by omega) (by omega), wr_ok (x := q[k].2) (by omega) (by omega), tmod_ok h1.1 (by omega), tmod_ok h2.1 (by omega), ← ih, take_snoc hlt, List.map_append]
      rfl
    · rw [dlt_f hlt, cond_false, List.take_of_length_le (by omega)]
abbrev Fm := Int × Int × (Int × Int) × (Int × Int) × (Int × Int) × (Int × Int) × (Int × Int) × (Int × Int) × Int × Int
def FmOk (f : Fm) : Prop := By f.1 ∧ By f.2.1 ∧ ∀ x ∈ [f.2.2.1, f.2.2.2.1, f.2.2.2.2.1, f.2.2.2.2.2.1, f.2.2.2.2.2.2.1, f.2.2.2.2.2.2.2.1, f.2.2.2.2.2.2.2.2], By x.1 ∧ By x.2
/-- Sheets by numbers are good ones. -/
theorem made_ex {n : Nat × Nat} (hn : 1000 ≤ n.1) {f : Fm} (hf : FmOk f) {most : Int} (hm : 1 ≤ most ∧ most ≤ 7) : ∃ l, D43 n f most = some l ∧ Good l ∧ l.length ≤ most := by
  obtain ⟨h1, h2, h3⟩ := hf
  unfold By at h1 h2
  unfold D43
  have e1 : 0 ≤ f.1 % most := Int.emod_nonneg _ (by omega)
  have e2 : f.1 % most < most := Int.emod_lt_of_pos _ (by omega)
  rw [show (50 == 0) = false from rfl, cond_false, show (most == 0) = false by simp; omega, cond_false, wr_ok (x := f.1) (by omega) (by omega), wr_ok (x := f.2.1) (by omega) (by omega), tmod_ok h1.1 (by omega), tmod_ok h2.1 (by omega), wr_ok (x := 1 + f.1 % most) (by omega) (by omega), wr_ok (x := f.2.1 % 50 + 1) (by omega) (by omega)]
  rw [show bounds none (some (1 + f.1 % most)) none 7 = true by simp [bounds]; omega, cond_true]
  revert h3
  generalize hq : [f.2.2.1, f.2.2.2.1, f.2.2.2.2.1, f.2.2.2.2.2.1, f.2.2.2.2.2.2.1, f.2.2.2.2.2.2.2.1, f.2.2.2.2.2.2.2.2] = q
  have hq7 : q.length = 7 := by rw [← hq]; rfl
  intro h3
  have hlen : (q.take (1 + f.1 % most).toNat).length = (1 + f.1 % most).toNat := by rw [List.length_take]; omega
  have := made_loop n (f.2.1 % 50 + 1) (by omega) (q.take (1 + f.1 % most).toNat) (fun x hx => h3 x (List.mem_of_mem_take hx)) (by omega) n.1 0 (by omega) (by omega)
  refine ⟨(q.take (1 + f.1 % most).toNat).map (gm (f.2.1 % 50 + 1)), this, ⟨by rw [List.length_map]; omega, by rw [List.length_map]; omega, fun s hs => ?_⟩, by rw [List.length_map]; omega⟩
  obtain ⟨x, _, e⟩ := List.mem_map.1 hs
  rw [← e]
  unfold Ok gm
  have a1 := Int.emod_nonneg x.1 (b := f.2.1 % 50 + 1 + 1) (by omega)
  have a2 := Int.emod_lt_of_pos x.1 (b := f.2.1 % 50 + 1 + 1) (by omega)
  have a3 := Int.emod_nonneg x.2 (b := f.2.1 % 50 + 1 + 1) (by omega)
  have a4 := Int.emod_lt_of_pos x.2 (b := f.2.1 % 50 + 1 + 1) (by omega)
  simp only []
  omega

abbrev Bt := Int × Int × Int × Int × Int × Int × Int
def bts (v : Bt) : List Int := [v.1, v.2.1, v.2.2.1, v.2.2.2.1, v.2.2.2.2.1, v.2.2.2.2.2.1, v.2.2.2.2.2.2]
def BtOk (v : Bt) : Prop := ∀ x ∈ bts v, By x
theorem order_loop (n : Nat × Nat) (v : Bt) (hv : BtOk v) (L : Nat) (hL : L ≤ 7) : ∀ (m : Nat) (P T : List Int), T.length < m → P.length + T.length = L → P.Perm (ix P.length) →
    ∃ o, DL48_1 n m (L : Int) (P.length : Int) v.1 v.2.1 v.2.2.1 v.2.2.2.1 v.2.2.2.2.1 v.2.2.2.2.2.1 v.2.2.2.2.2.2 (P ++ T) = some o ∧ o.Perm (ix L)
  | 0, P, T, h, _, _ => by omega
  | m + 1, P, [], h, hl, hp => by
    rw [List.length_nil] at hl
    rw [DL48_1_succ]
    unfold DF48_1
    rw [dlt_f (by omega), cond_false]
    refine ⟨P, by simp, ?_⟩
    rw [← hl]
    simpa using hp
  | m + 1, P, t :: T, h, hl, hp => by
    rw [List.length_cons] at h hl
    rw [DL48_1_succ]
    unfold DF48_1
    have hb7 : (bts v).length = 7 := rfl
    have hx := hv _ (List.getElem_mem (show P.length < (bts v).length by omega))
    have ex : idx [v.1, v.2.1, v.2.2.1, v.2.2.2.1, v.2.2.2.2.1, v.2.2.2.2.2.1, v.2.2.2.2.2.2] (P.length : Int) = some (bts v)[P.length] := idx_nat (l := bts v) (by omega)
    rw [ex]
    generalize (bts v)[P.length]'(by omega) = x at hx
    unfold By at hx
    have j0 := Int.emod_nonneg x (b := ((P.length + 1 : Nat) : Int)) (by omega)
    have j1 := Int.emod_lt_of_pos x (b := ((P.length + 1 : Nat) : Int)) (by omega)
    rw [dlt_t (by omega), cond_true, inB_nat (by simp), cond_true, inB_nat (show P.length < 7 by omega), cond_true, Option.bind_some, wr_succ (by omega), show (((P.length + 1 : Nat) : Int) == 0) = false by simp; omega, cond_false, wr_ok (x := x) (by omega) (by omega), tmod_ok hx.1 (by omega), Int.toNat_natCast, set_at rfl]
    obtain ⟨j, hj⟩ : ∃ j : Nat, x % ((P.length + 1 : Nat) : Int) = (j : Int) := ⟨(x % ((P.length + 1 : Nat) : Int)).toNat, by omega⟩
    rw [hj] at j0 j1 ⊢
    rw [show idx (P ++ t :: T) (P.length : Int) = some t from idx_at rfl, Option.bind_some]
    have ek : idx (P ++ (P.length : Int) :: T) (P.length : Int) = some (P.length : Int) := idx_at rfl
    have ik : inB (P.length : Int) (P ++ (P.length : Int) :: T).length = true := inB_nat (by simp)
    by_cases e : j = P.length
    · subst e
      rw [ik, cond_true, ek, Option.bind_some, cond_true, Option.bind_some, set_at rfl, ik, cond_true, cond_true, ek, Option.bind_some, Int.toNat_natCast, set_at rfl]
      simp only [Option.bind_some]
      have := order_loop n v hv L hL m (P ++ [(P.length : Int)]) T (by omega) (by simp; omega) (by
        rw [List.length_append, List.length_singleton, ix_succ]
        exact hp.append_right _)
      simpa using this
    · have hjl : j < P.length := by omega
      have hP : P = P.take j ++ P[j] :: P.drop (j + 1) := by rw [← drop_cons hjl, List.take_append_drop]
      have hA : (P.take j).length = j := by rw [List.length_take]; omega
      have d1 : idx (P ++ (P.length : Int) :: T) (j : Int) = some P[j] := by
        rw [idx_nat (by simp; omega)]
        congr 1
        exact List.getElem_append_left hjl
      have d2 : idx (P ++ P[j] :: T) (j : Int) = some P[j] := by
        rw [idx_nat (by simp; omega)]
        congr 1
        exact List.getElem_append_left hjl
      have d3 : (P ++ P[j] :: T).set j (P.length : Int) = P.take j ++ (P.length : Int) :: P.drop (j + 1) ++ [P[j]] ++ T := by
        have : P ++ P[j] :: T = P.take j ++ P[j] :: (P.drop (j + 1) ++ P[j] :: T) := by
          have e := congrArg (fun X => X ++ P[j] :: T) hP
          simpa only [List.append_assoc, List.cons_append] using e
        rw [this, set_at hA]
        simp
      have g1 : (P ++ (P.length : Int) :: T).set P.length P[j] = P ++ P[j] :: T := set_at rfl
      have i1 : inB (j : Int) (P ++ (P.length : Int) :: T).length = true := inB_nat (by simp; omega)
      have i2 : inB (j : Int) (P ++ P[j] :: T).length = true := inB_nat (by simp; omega)
      simp only [ik, i1, cond_true, d1, Option.bind_some, ek, g1, i2, d2, Int.toNat_natCast, d3]
      have hlen : (P.take j ++ (P.length : Int) :: P.drop (j + 1) ++ [P[j]]).length = P.length + 1 := by simp; omega
      have := order_loop n v hv L hL m (P.take j ++ (P.length : Int) :: P.drop (j + 1) ++ [P[j]]) T (by omega) (by omega) (by
        rw [hlen, ix_succ]
        refine List.Perm.trans ?_ (hp.append_right [(P.length : Int)])
        have p1 : (P.take j ++ (P.length : Int) :: P.drop (j + 1) ++ [P[j]]).Perm ((P.length : Int) :: P[j] :: (P.take j ++ P.drop (j + 1))) := by
          refine (List.perm_append_singleton _ _).trans ?_
          exact (List.Perm.cons _ List.perm_middle).trans (List.Perm.swap _ _ _)
        have p2 : (P ++ [(P.length : Int)]).Perm ((P.length : Int) :: P[j] :: (P.take j ++ P.drop (j + 1))) := by
          refine (List.perm_append_singleton _ _).trans (List.Perm.cons _ ?_)
          have q := List.perm_middle (a := P[j]) (l₁ := P.take j) (l₂ := P.drop (j + 1))
          rw [← hP] at q
          exact q
        exact p1.trans p2.symm)
      rw [hlen] at this
      exact this
/-- An order by numbers is one. -/
theorem perm_ord {L : Nat} {o : List Int} (hp : o.Perm (ix L)) : Ord L o := by
  refine ⟨by rw [hp.length_eq, ix_len], fun i hi => ix_mem.1 (hp.mem_iff.1 hi), ?_⟩
  refine hp.symm.nodup ?_
  exact List.Pairwise.imp (fun h => by omega) (ix_lt L)
theorem order_ex {n : Nat × Nat} (hn : 1000 ≤ n.1) {v : Bt} (hv : BtOk v) {L : Nat} (hL : L ≤ 7) : ∃ o, D48 n (L : Int) v = some o ∧ Ord L o := by
  unfold D48
  rw [decide_eq_true (show (0 : Int) ≤ (L : Int) by omega), decide_eq_true (Int.le_refl _), decide_eq_true (show (L : Int) ≤ lim by simp [lim]; omega), Bool.and_self, Bool.and_self, cond_true, Int.toNat_natCast, List.length_replicate]
  obtain ⟨o, h1, h2⟩ := order_loop n v hv L hL n.1 [] (List.replicate L 0) (by simp; omega) (by simp) (by simp [ix])
  exact ⟨o, h1, perm_ord h2⟩

/-- Greatest sums of places: when sheets are printed. -/
theorem enp_get : ∀ {l : List (Int × Int)} {a b : Int} {k : Nat} (h : k < (enp a b l).length), (enp a b l)[k] = tm a b (l.take (k + 1))
  | [], a, b, k, h => by simp [enp] at h
  | s :: l, a, b, 0, h => by simp [enp, tm]
  | s :: l, a, b, k + 1, h => by
    simp only [enp, List.getElem_cons_succ, List.take_succ_cons, tm]
    exact enp_get _
theorem enp_len' : ∀ (l : List (Int × Int)) (a b : Int), (enp a b l).length = l.length
  | [], _, _ => rfl
  | s :: l, a, b => by simp only [enp, List.length_cons, enp_len' l]
theorem pk_take (l : List (Int × Int)) (o : List Int) (k : Nat) : pk l (o.take k) = (pk l o).take k := by simp [pk, List.map_take]
theorem pk_drop (l : List (Int × Int)) (o : List Int) (k : Nat) : pk l (o.drop k) = (pk l o).drop k := by simp [pk, List.map_drop]
theorem pk_cons (l : List (Int × Int)) (i : Int) (o : List Int) : pk l (i :: o) = sh l i :: pk l o := rfl
theorem add2_loop (n : Nat × Nat) {l : List (Int × Int)} (hg : Good l) (f1 : (List (Int × Int)) → List Int → Int → Int → List Int → Option R49) (f2 : (List (Int × Int)) → List Int → Int → Int → Int → Int → Int → Int → List Int → Option R49) (o : List Int) (p most a b c d : Int) (out : List Int) (q : List Int) (hq : ∀ i ∈ q, 0 ≤ i ∧ i < l.length) (hl : q.length ≤ 7) :
    ∀ (m k : Nat) (v : Int), k ≤ q.length → q.length - k < m → 0 ≤ v → v ≤ 1000 + 50 * k →
    DL49_4 n f1 f2 m l o p most v a b c d q (q.length : Int) (k : Int) out = f2 l o p (max most (v + s2 (pk l (q.drop k)))) a b c (wr .i64 (d + 1)) out
  | 0, k, v, _, h, _, _ => by omega
  | m + 1, k, v, hk, h, v0, v1 => by
    rw [DL49_4_succ]
    unfold DF49_4
    by_cases hlt : k < q.length
    · have hi := hq _ (List.getElem_mem hlt)
      have ho := hg.ok _ (sh_mem hi.1 hi.2)
      unfold Ok at ho
      have ih := add2_loop n hg f1 f2 o p most a b c d out q hq hl m (k + 1) (v + (sh l q[k]).2) (by omega) (by omega) (by omega) (by omega)
      rw [dlt_t hlt, cond_true, idx_nat hlt, Option.bind_some, idx_sh hi.1 hi.2, Option.bind_some, wr_succ (by omega), wr_ok (x := v + (sh l q[k]).2) (by omega) (by omega), ih, drop_cons hlt, pk_cons, s2, Int.add_assoc]
    · rw [dlt_f hlt, cond_false, List.drop_of_length_le (by omega), max_if]
      simp [pk, s2]
theorem add1_loop (n : Nat × Nat) (hn : 1000 ≤ n.1) {l : List (Int × Int)} (hg : Good l) (f1 : (List (Int × Int)) → List Int → Int → Int → List Int → Option R49) (f2 : (List (Int × Int)) → List Int → Int → Int → Int → Int → Int → Int → List Int → Option R49) {o : List Int} (ho : Ord l.length o) {p r : Nat} (hr : r ≤ p) (hp : p < o.length) (most a b c d : Int) (out : List Int) (q : List Int) (hq : ∀ i ∈ q, 0 ≤ i ∧ i < l.length) (hl : q.length ≤ 7) :
    ∀ (m k : Nat) (v : Int), k ≤ q.length → q.length - k < m → 0 ≤ v → v ≤ 50 * k →
    DL49_3 n f1 f2 m l o (p : Int) most (r : Int) v a b c d q (q.length : Int) (k : Int) out = f2 l o (p : Int) (max most (v + s1 (pk l (q.drop k)) + s2 (((pk l o).take (p + 1)).drop r))) a b c (wr .i64 (d + 1)) out
  | 0, k, v, _, h, _, _ => by omega
  | m + 1, k, v, hk, h, v0, v1 => by
    have hl' := ho.len
    have h7 := hg.len
    rw [DL49_3_succ]
    unfold DF49_3
    by_cases hlt : k < q.length
    · have hi := hq _ (List.getElem_mem hlt)
      have hok := hg.ok _ (sh_mem hi.1 hi.2)
      unfold Ok at hok
      have ih := add1_loop n hn hg f1 f2 ho hr hp most a b c d out q hq hl m (k + 1) (v + (sh l q[k]).1) (by omega) (by omega) (by omega) (by omega)
      rw [dlt_t hlt, cond_true, idx_nat hlt, Option.bind_some, idx_sh hi.1 hi.2, Option.bind_some, wr_succ (by omega), wr_ok (x := v + (sh l q[k]).1) (by omega) (by omega), ih, drop_cons hlt, pk_cons, s1, Int.add_assoc v]
    · rw [dlt_f hlt, cond_false, wr_succ (by omega), show bounds (some (r : Int)) (some ((p + 1 : Nat) : Int)) none o.length = true by simp [bounds]; omega, cond_true, Int.toNat_natCast, Int.toNat_natCast]
      have := add2_loop n hg f1 f2 o (p : Int) most a b c d out ((o.take (p + 1)).drop r) (fun i hi => ho.rng i (List.mem_of_mem_take (List.mem_of_mem_drop hi))) (by simp; omega) n.1 0 v (by omega) (by simp; omega) v0 (by omega)
      refine this.trans ?_
      rw [List.drop_zero, pk_drop, pk_take, List.drop_of_length_le (by omega : q.length ≤ k)]
      simp [pk, s1]
theorem most_loop (n : Nat × Nat) (hn : 1000 ≤ n.1) {l : List (Int × Int)} (hg : Good l) (f1 : (List (Int × Int)) → List Int → Int → Int → List Int → Option R49) {o : List Int} (ho : Ord l.length o) {p : Nat} (hp : p < o.length) (out : List Int) (hout : out.length < 1000) :
    ∀ (m k : Nat) (most : Int), k ≤ p + 1 → p + 1 - k < m →
    DL49_2 n f1 m l o (p : Int) most (o.length : Int) (p : Int) ((p + 1 : Nat) : Int) (k : Int) out = f1 l o (o.length : Int) (wr .i64 ((p : Int) + 1)) (out ++ [((sms 0 ((pk l o).take (p + 1))).drop k).foldl max most])
  | 0, k, most, _, h => by omega
  | m + 1, k, most, hk, h => by
    have hl' := ho.len
    have h7 := hg.len
    have hlen : ((pk l o).take (p + 1)).length = p + 1 := by rw [List.length_take, pk_len]; omega
    rw [DL49_2_succ]
    unfold DF49_2
    by_cases hlt : k < p + 1
    · have ih := most_loop n hn hg f1 ho hp out hout m (k + 1) (max most ((sms 0 ((pk l o).take (p + 1)))[k]'(by rw [sms_len]; omega))) (by omega) (by omega)
      rw [dlt_t hlt, cond_true, wr_succ (by omega), show bounds none (some ((k + 1 : Nat) : Int)) none o.length = true by simp [bounds]; omega, cond_true, Int.toNat_natCast]
      have := add1_loop n hn hg f1 (DL49_2 n f1 m) ho (show k ≤ p by omega) hp most (o.length : Int) (p : Int) ((p + 1 : Nat) : Int) (k : Int) out (o.take (k + 1)) (fun i hi => ho.rng i (List.mem_of_mem_take hi)) (by simp; omega) n.1 0 0 (by omega) (by simp; omega) (by omega) (by omega)
      refine this.trans ?_
      rw [wr_succ (by omega), drop_cons (l := sms 0 ((pk l o).take (p + 1))) (k := k) (by rw [sms_len]; omega), List.foldl_cons, ← ih, sms_get (by omega)]
      congr 2
      rw [List.drop_zero, pk_take, List.take_take, show min (k + 1) (p + 1) = k + 1 by omega]
    · rw [dlt_f hlt, cond_false, lim_dec (by omega), cond_true, List.drop_of_length_le (by rw [sms_len]; omega)]
      rfl
theorem tm_foldl {l : List (Int × Int)} (hb : ∀ s ∈ l, Ok s) : (sms 0 l).foldl max 0 = tm 0 0 l := by
  match l with
  | [] => rfl
  | s :: l =>
    have ho := hb s (by simp)
    have h2 := (s2_bnd (l := l) (fun s hs => hb s (by simp [hs]))).1
    unfold Ok at ho
    rw [tm_cons ho.1]
    simp only [sms, List.foldl_cons, Int.zero_add]
    congr 1
    omega
theorem printed_loop (n : Nat × Nat) (hn : 1000 ≤ n.1) {l : List (Int × Int)} (hg : Good l) {o : List Int} (ho : Ord l.length o) : ∀ (m k : Nat), k ≤ o.length → o.length - k < m →
    DL49_1 n m l o (o.length : Int) (k : Int) ((enp 0 0 (pk l o)).take k) = some (enp 0 0 (pk l o))
  | 0, k, _, h => by omega
  | m + 1, k, hk, h => by
    have hl' := ho.len
    have h7 := hg.len
    have hlen := enp_len' (pk l o) 0 0
    rw [pk_len] at hlen
    rw [DL49_1_succ]
    unfold DF49_1
    by_cases hlt : k < o.length
    · have ih := printed_loop n hn hg ho m (k + 1) (by omega) (by omega)
      have := most_loop n hn hg (DL49_1 n m) ho hlt ((enp 0 0 (pk l o)).take k) (by simp; omega) n.1 0 0 (by omega) (by omega)
      rw [dlt_t hlt, cond_true, wr_succ (by omega)]
      refine this.trans ?_
      rw [wr_succ (by omega), ← ih, take_snoc (l := enp 0 0 (pk l o)) (by omega), List.drop_zero, tm_foldl (fun s hs => pk_ok hg ho s (List.mem_of_mem_take hs)), enp_get]
    · rw [dlt_f hlt, cond_false, List.take_of_length_le (by omega)]
theorem printed_eq {n : Nat × Nat} (hn : 1000 ≤ n.1) {l : List (Int × Int)} (hg : Good l) {o : List Int} (ho : Ord l.length o) : D49 n l o = some (enp 0 0 (pk l o)) := by
  have hl' := ho.len
  have h7 := hg.len
  unfold D49
  exact printed_loop n hn hg ho n.1 0 (by omega) (by omega)
theorem ltime_eq {n : Nat × Nat} (hn : 1000 ≤ n.1) {l : List (Int × Int)} (hg : Good l) {o : List Int} (ho : Ord l.length o) : D46 n l o = some (tm 0 0 (pk l o)) := by
  have hl' := ho.len
  have h7 := hg.len
  have hp := hg.pos
  have hlen := enp_len' (pk l o) 0 0
  rw [pk_len] at hlen
  unfold D46
  rw [printed_eq hn hg ho, Option.bind_some, wr_ok (by omega) (by omega), show (o.length : Int) - 1 = ((o.length - 1 : Nat) : Int) by omega, inB_nat (by omega), cond_true, idx_nat (by omega), Option.bind_some, enp_get, show o.length - 1 + 1 = (pk l o).length by rw [pk_len]; omega, List.take_length]

theorem two_hr {m : Int} (hm : m = 0 ∨ m = 1) (s : Int × Int) : idx [s.1, s.2] m = some (hr m s) := by
  rcases hm with e | e <;> subst e <;> rfl
theorem lbound_loop (n : Nat × Nat) (l : List (Int × Int)) (hl : l.length ≤ 7) (hb : ∀ s ∈ l, Ok s) (mc : Int) (hm : mc = 0 ∨ mc = 1) (h : Int) : ∀ (m k : Nat) (v : Int), k ≤ l.length → l.length - k < m → 0 ≤ v → v ≤ 1000 + 50 * k →
    DL47_1 n m mc h v l (l.length : Int) (k : Int) = some (v + cs mc h (l.drop k))
  | 0, k, v, _, h, _, _ => by omega
  | m + 1, k, v, hk, h', v0, v1 => by
    rw [DL47_1_succ]
    unfold DF47_1
    have hm' : 1 - mc = 0 ∨ 1 - mc = 1 := by omega
    have i1 : inB mc 2 = true := by rcases hm with e | e <;> subst e <;> rfl
    have i2 : inB (1 - mc) 2 = true := by rcases hm with e | e <;> subst e <;> rfl
    by_cases hlt : k < l.length
    · have ho := hb _ (List.getElem_mem hlt)
      have hcb := ct_bnd (m := mc) (h := h) ho
      have ih := lbound_loop n l hl hb mc hm h m (k + 1) (v + ct mc h l[k]) (by omega) (by omega) (by omega) (by omega)
      rw [dlt_t hlt, cond_true, idx_nat hlt, drop_cons hlt]
      simp only [D81, Option.bind_some, wr_ok (x := 1 - mc) (by omega) (by omega), i1, i2, cond_true, two_hr hm, two_hr hm', wr_succ (show k < 1000000 by omega), cs]
      have em : min (hr mc l[k]) (hr (1 - mc) l[k]) = min l[k].1 l[k].2 := by
        rcases hm with e | e <;> subst e
        · rfl
        · exact Int.min_comm _ _
      by_cases c : hr mc l[k] < h
      · have e : ct mc h l[k] = min (hr mc l[k]) (hr (1 - mc) l[k]) := by
          unfold ct
          rw [if_pos c, em]
        by_cases d : hr mc l[k] < hr (1 - mc) l[k]
        · rw [Int.min_eq_left (by omega)] at e
          rw [decide_eq_true c, decide_eq_true d]
          simp only [beq_self_eq_true, cond_true, Option.bind_some]
          rw [← e, wr_ok (by omega) (by omega), ih]
          congr 1
          omega
        · rw [Int.min_eq_right (by omega)] at e
          rw [decide_eq_true c, decide_eq_false d]
          simp only [beq_self_eq_true, cond_true, Option.bind_some, cond_false]
          rw [← e, wr_ok (by omega) (by omega), ih]
          congr 1
          omega
      · have e : ct mc h l[k] = hr (1 - mc) l[k] := by
          unfold ct
          rw [if_neg c]
        rw [decide_eq_false c]
        simp only [show (false == true) = false from rfl, cond_false, Option.bind_some]
        rw [← e, wr_ok (by omega) (by omega), ih]
        congr 1
        omega
    · rw [dlt_f hlt, cond_false, List.drop_of_length_le (by omega)]
      simp [cs]
theorem lbound_eq {n : Nat × Nat} (hn : 1000 ≤ n.1) {l : List (Int × Int)} (hg : Good l) {m k : Int} (hm : m = 0 ∨ m = 1) (hk : 0 ≤ k ∧ k < l.length) : D47 n l m k = some (bd l m k) := by
  have hb := hr_bnd (m := m) (hg.ok _ (sh_mem hk.1 hk.2))
  have h7 := hg.len
  unfold D47
  rw [idx_sh hk.1 hk.2]
  simp only [D81, Option.bind_some, two_hr hm]
  have := lbound_loop n l hg.len hg.ok m hm (hr m (sh l k)) n.1 0 (hr m (sh l k)) (by omega) (by omega) (by omega) (by omega)
  simpa [bd, bnd] using this
theorem best_le {l : List (Int × Int)} (hg : Good l) {o : List Int} (ho : Ord l.length o) : best l ≤ tm 0 0 (pk l o) := rl_best hg ho
theorem shown_ok {f : Fm} (hf : FmOk f) {v : Bt} (hv : BtOk v) {a b : Int} (ha : By a) (hb : By b) : S10 N f v a b = some true := by
  rw [S10_D N rfl]
  unfold D10
  unfold By at ha hb
  obtain ⟨l, e1, hg, h7⟩ := made_ex hN1 hf (most := 7) ⟨by omega, by omega⟩
  obtain ⟨o, e2, ho⟩ := order_ex hN1 hv (L := l.length) hg.len
  have hl' := ho.len
  have hp := hg.pos
  have hz := put_zero.2 ⟨hg, ho⟩
  have hz' := put_zero.2 ⟨hg, rl_ord l⟩
  have hc := chk_good.2 hg
  have hrl := (rl_ord l).len
  have m0 := Int.emod_nonneg a (b := 2) (by omega)
  have m1 := Int.emod_lt_of_pos a (b := 2) (by omega)
  have k0 := Int.emod_nonneg b (b := (l.length : Int)) (by omega)
  have k1 := Int.emod_lt_of_pos b (b := (l.length : Int)) (by omega)
  have hm : a % 2 = 0 ∨ a % 2 = 1 := by omega
  rw [e1, Option.bind_some, e2, Option.bind_some, show (2 == 0) = false from rfl, cond_false, show ((l.length : Int) == 0) = false from beq_false_of_ne (by omega), cond_false, wr_ok (x := a) (by omega) (by omega), wr_ok (x := b) (by omega) (by omega), tmod_ok ha.1 (by omega), tmod_ok hb.1 (by omega)]
  generalize a % 2 = m at *
  generalize b % (l.length : Int) = k at *
  have hpair : (m, k) ∈ prs l := prs_mem.2 ⟨hm, k0, k1⟩
  have b1 := bd_le hg hpair
  have b2 := best_le hg ho
  have g0 : put l o = (pk l o, 0) := put_ord hg ho
  have q1 : boundS l m k = (bd l m k, 0) := by unfold boundS; rw [if_neg (by simpa using hc), if_pos ⟨hm, k0, k1⟩]
  have q2 : boundS l 2 k = (0, 2) := by unfold boundS; rw [if_neg (by simpa using hc), if_neg (show ¬ (((2 : Int) = 0 ∨ (2 : Int) = 1) ∧ 0 ≤ k ∧ k < (l.length : Int)) by omega)]
  have q3 : boundS l m (l.length : Int) = (0, 2) := by unfold boundS; rw [if_neg (by simpa using hc), if_neg (show ¬ ((m = 0 ∨ m = 1) ∧ 0 ≤ (l.length : Int) ∧ (l.length : Int) < (l.length : Int)) by omega)]
  have t1 : timeS l (rl l) = (best l, 0) := by unfold timeS; rw [hz']; rfl
  have r1 : ruleS l = (rl l, 0) := by unfold ruleS; rw [if_neg (by simpa using hc)]
  have p1 : provesS l o m k = if bd l m k = tm 0 0 (pk l o) then 0 else 14 := by unfold provesS; rw [hz, q1]; simp
  have p2 : provesS l o 2 k = 2 := by unfold provesS; rw [hz, q2]; simp
  have p3 : provesS l o m (l.length : Int) = 2 := by unfold provesS; rw [hz, q3]; simp
  rw [lbound_eq hN1 hg hm ⟨k0, k1⟩, ltime_eq hN1 hg ho]
  simp only [Option.bind_some, Rule_eq hN1, r1, Time_eq hN1 (show (rl l).length < 800 by omega), t1, Proves_eq hN1 (show o.length < 800 by omega), p1, p2, p3, works_eq]
  by_cases e : bd l m k = tm 0 0 (pk l o)
  · have eb : best l = tm 0 0 (pk l o) := by
      simp only [] at b1
      omega
    rw [e, eb]
    simp
  · rw [show (bd l m k == tm 0 0 (pk l o)) = false by simpa using e, if_neg e]
    simp

abbrev Sh2 : Sh := .pair (.int .u8) (.int .u8)
abbrev ShF : Sh := .pair (.int .u8) (.pair (.int .u8) (.pair Sh2 (.pair Sh2 (.pair Sh2 (.pair Sh2 (.pair Sh2 (.pair Sh2 Sh2)))))))
abbrev ShB : Sh := .pair (.int .u8) (.pair (.int .u8) (.pair (.int .u8) (.pair (.int .u8) (.pair (.int .u8) (.pair (.int .u8) (.int .u8))))))
theorem u8_rng {x : Int} (h : (Lit.int .u8 x).wf = true) : 0 ≤ x ∧ x ≤ 255 := by
  simpa [Lit.wf, IntKind.min, IntKind.max, IntKind.signed, IntKind.bits] using h
theorem by_wf {x : Int} (h : Wf (.int .u8) x) : By x := u8_rng h
theorem fm_ok {f : Fm} (h : Wf ShF f) : FmOk f := by
  obtain ⟨ha, hb, h1, h2, h3, h4, h5, h6, h7⟩ := h
  refine ⟨by_wf ha, by_wf hb, fun x hx => ?_⟩
  simp only [List.mem_cons, List.not_mem_nil, or_false] at hx
  rcases hx with e | e | e | e | e | e | e <;> subst e
  · exact ⟨by_wf h1.1, by_wf h1.2⟩
  · exact ⟨by_wf h2.1, by_wf h2.2⟩
  · exact ⟨by_wf h3.1, by_wf h3.2⟩
  · exact ⟨by_wf h4.1, by_wf h4.2⟩
  · exact ⟨by_wf h5.1, by_wf h5.2⟩
  · exact ⟨by_wf h6.1, by_wf h6.2⟩
  · exact ⟨by_wf h7.1, by_wf h7.2⟩
theorem bt_ok {v : Bt} (h : Wf ShB v) : BtOk v := by
  obtain ⟨h1, h2, h3, h4, h5, h6, h7⟩ := h
  intro x hx
  unfold bts at hx
  simp only [List.mem_cons, List.not_mem_nil, or_false] at hx
  rcases hx with e | e | e | e | e | e | e <;> subst e
  · exact by_wf h1
  · exact by_wf h2
  · exact by_wf h3
  · exact by_wf h4
  · exact by_wf h5
  · exact by_wf h6
  · exact by_wf h7
end Go.Proofs.Ytnlbhjmbaedadaa
