/- Reign: plain laws: ReignBounded. -/
import Derived.Test.YtombednapelokaaLG15
import Derived.Test.YtombednapelokaaNf
import Derived.Test.YtombednapelokaaNb
import Derived.Test.YtombednapelokaaViX
set_option linter.unusedVariables false
set_option linter.unusedSimpArgs false
namespace Go.Proofs.Ytombednapelokaa
open Go.Vi

def cut1 (lo hi : Int) (f : Frc) : Frc := if f.1 < lo * f.2 then (lo, 1) else if f.1 > hi * f.2 then (hi, 1) else f

theorem set_at' {α : Type} : ∀ (p : List α) (x y : α) (r : List α), (p ++ x :: r).set p.length y = p ++ y :: r
  | [], _, _, _ => rfl
  | a :: p, x, y, r => by simp [set_at' p x y r]

theorem cut_loop {n : Nat × Nat} {lo hi : Int} (hlo : 0 ≤ lo) (hhi : hi ≤ 100) (hlh : lo ≤ hi) : ∀ (r A : List Frc) (m : Nat), (A ++ r).length ≤ 8 → r.length < m → (∀ f ∈ r, Val f) →
    DL42_1 n m lo hi ((A ++ r).length : Int) (A.length : Int) (A ++ r) = some (A ++ r.map (cut1 lo hi), 0)
  | _, _, 0, _, h, _ => by omega
  | [], A, m + 1, h8, h, hv => by
    rw [DL42_1_succ]
    unfold DF42_1
    rw [decide_eq_false (show ¬ ((A.length : Int) < ((A ++ ([] : List Frc)).length : Int)) by simp), cond_false]
    simp
  | f :: r, A, m + 1, h8, h, hv => by
    have V := hv f (by simp)
    have v1 := V.fr.dp
    have v2 := V.fr.dl
    have v3 := V.fr.np
    have v4 := V.le
    have hl : A.length < (A ++ f :: r).length := by simp
    have hg : (A ++ f :: r)[A.length] = f := by simp
    have p1 : 0 ≤ lo * f.2 := Int.mul_nonneg hlo (by omega)
    have p2 : lo * f.2 ≤ 7200 := by
      have := Int.mul_le_mul (show lo ≤ 100 by omega) v2 (by omega) (by omega)
      omega
    have p3 : 0 ≤ hi * f.2 := Int.mul_nonneg (by omega) (by omega)
    have p4 : hi * f.2 ≤ 7200 := by
      have := Int.mul_le_mul hhi v2 (by omega) (by omega)
      omega
    have hin : inB (A.length : Int) (A ++ f :: r).length = true := by simp [inB]; omega
    have hw : wr .i64 ((A.length : Int) + 1) = ((A.length + 1 : Nat) : Int) := by rw [wr_ok (by omega) (by omega)]; omega
    have next : ∀ x : Frc, DL42_1 n m lo hi ((A ++ f :: r).length : Int) ((A.length + 1 : Nat) : Int) (A ++ x :: r) = some (A ++ x :: r.map (cut1 lo hi), 0) := by
      intro x
      have := cut_loop (n := n) hlo hhi hlh r (A ++ [x]) m (by simpa using h8) (by simpa using h) (fun g hg => hv g (by simp [hg]))
      simp only [List.append_assoc, List.singleton_append, List.length_append, List.length_cons, List.length_nil, Nat.zero_add] at this ⊢
      rw [← this]
    have hset : ∀ x, (A ++ f :: r).set (Int.toNat (A.length : Int)) x = A ++ x :: r := fun x => by rw [Int.toNat_natCast, set_at']
    rw [DL42_1_succ]
    unfold DF42_1 DL42_2
    rw [show decide ((A.length : Int) < ((A ++ f :: r).length : Int)) = true by simp only [decide_eq_true_eq]; omega, cond_true, hin, cond_true, idx_nat hl, hg]
    simp only [Option.bind_some, hset, hw]
    rw [List.map_cons, wr_ok (x := lo * f.2) (by omega) (by omega), wr_ok (x := hi * f.2) (by omega) (by omega)]
    by_cases c1 : f.1 < lo * f.2
    · rw [decide_eq_true c1]
      simp only [cond_true, cut1, if_pos c1]
      exact next (lo, 1)
    · rw [decide_eq_false c1]
      simp only [cond_false, cond_true, cut1, if_neg c1]
      by_cases c2 : f.1 > hi * f.2
      · rw [decide_eq_true c2, if_pos c2]
        simp only [cond_true]
        exact next (hi, 1)
      · rw [decide_eq_false c2, if_neg c2]
        simp only [cond_false]
        exact next f

theorem bounded42 {n : Nat × Nat} (hn : 4611686018427387904 ≤ n.1) {l : List Src} (hg : Good l) {K : List (Nat × Nat)} (hK : Blk l K l.length) (lo hi : Int) :
    D42 n l lo hi = some (if 0 ≤ lo ∧ lo ≤ 100 ∧ 0 ≤ hi ∧ hi ≤ 100 then if lo ≤ hi then ((vals l K.reverse).map (cut1 lo hi), 0) else ([], 7) else ([], 1)) := by
  unfold D42
  rw [chk_eq (by omega), good_chk hg]
  simp only [Option.bind_some, bne_self_eq_false, cond_false]
  by_cases hin : 0 ≤ lo ∧ lo ≤ 100 ∧ 0 ≤ hi ∧ hi ≤ 100
  · rw [if_pos hin]
    have hA : (decide ((if hi < lo then hi else lo) < 0) || decide ((if hi > lo then hi else lo) > 100)) = false := by
      rw [Bool.or_eq_false_iff]
      constructor <;> split <;> simp <;> omega
    simp only [in_eq, orB, andB, Option.bind_some, hA, cond_false]
    by_cases hlh : lo > hi
    · rw [decide_eq_true hlh, if_neg (by omega)]
      rfl
    · rw [decide_eq_false hlh, if_pos (by omega)]
      simp only [cond_false]
      obtain ⟨K', k1, k2, k3⟩ := near_eq hn hg.ok
      have := Blk.uniq hg.ok k1 hK
      subst this
      obtain ⟨g1, g2⟩ := vals_get l k1.ch
      have h8 := hg.le
      have := cut_loop (n := n) (lo := lo) (hi := hi) (by omega) (by omega) (by omega) (vals l K'.reverse) [] n.1 (by simp; omega) (by omega) (fun f hf => by
        obtain ⟨i, hi', rfl⟩ := List.getElem_of_mem hf
        obtain ⟨x, hx, _, _, e⟩ := g2 i _ (List.getElem?_eq_getElem hi')
        rw [e]
        have := k1.ch.rng x hx
        exact Mx_Val hg.ok this.1 this.2)
      rw [k3]
      simpa using this
  · rw [if_neg hin]
    have hA : (decide ((if hi < lo then hi else lo) < 0) || decide ((if hi > lo then hi else lo) > 100)) = true := by
      rw [Bool.or_eq_true]
      by_cases c : (if hi < lo then hi else lo) < 0
      · exact .inl (by simpa using c)
      · refine .inr ?_
        simp only [gt_iff_lt, decide_eq_true_eq]
        split at c <;> split <;> omega
    simp only [in_eq, orB, andB, Option.bind_some, hA]
    rfl

theorem want_loop {lo hi : Int} (hlo : 0 ≤ lo ∧ lo ≤ 100) (hhi : 0 ≤ hi ∧ hi ≤ 100) {V : List Frc} (hV : V.length ≤ 8) : ∀ (r A : List Frc) (m : Nat), V = A ++ r → r.length < m → (∀ f ∈ r, Val f) →
    DL15_1 N5 m lo hi 0 (V.length : Int) (A.length : Int) (V.map (cut1 lo hi)) (A.map (cut1 lo hi)) V = some true
  | _, _, 0, _, h, _ => by omega
  | [], A, m + 1, e, h, hv => by
    rw [DL15_1_succ]
    unfold DF15_1
    rw [List.append_nil] at e
    subst e
    rw [show decide ((V.length : Int) < (V.length : Int)) = false by simp, cond_false, fracs_eq (n := N5) (by decide) (by simp; omega), works_val5]
    rfl
  | f :: r, A, m + 1, e, h, hv => by
    have V1 := hv f (by simp)
    have v1 := V1.fr.dp
    have v2 := V1.fr.dl
    have v3 := V1.fr.np
    have v4 := V1.le
    have hl : A.length < V.length := by rw [e]; simp
    have hg : V[A.length] = f := by simp [e]
    have p1 : 0 ≤ lo * f.2 := Int.mul_nonneg hlo.1 (by omega)
    have p2 : lo * f.2 ≤ 7200 := by
      have := Int.mul_le_mul hlo.2 v2 (by omega) (by omega)
      omega
    have p3 : 0 ≤ hi * f.2 := Int.mul_nonneg (by omega) (by omega)
    have p4 : hi * f.2 ≤ 7200 := by
      have := Int.mul_le_mul hhi.2 v2 (by omega) (by omega)
      omega
    have hin : inB (A.length : Int) V.length = true := by simp [inB]; omega
    have hw : wr .i64 ((A.length : Int) + 1) = ((A.length + 1 : Nat) : Int) := by rw [wr_ok (by omega) (by omega)]; omega
    have next : ∀ a b : Int, (a, b) = cut1 lo hi f → (bif decide ((A.map (cut1 lo hi)).length + [((a, b) : Frc)].length ≤ lim) then DL15_1 N5 m lo hi 0 (V.length : Int) ((A.length + 1 : Nat) : Int) (V.map (cut1 lo hi)) (A.map (cut1 lo hi) ++ [(a, b)]) V else none) = some true := by
      intro a b hab
      rw [show decide ((A.map (cut1 lo hi)).length + [((a, b) : Frc)].length ≤ lim) = true by simp [lim]; omega, cond_true, hab]
      have := want_loop hlo hhi hV r (A ++ [f]) m (by simpa using e) (by simpa using h) (fun g hg => hv g (by simp [hg]))
      simpa using this
    rw [DL15_1_succ]
    unfold DF15_1 DL15_2 D52
    rw [show decide ((A.length : Int) < (V.length : Int)) = true by simpa using hl, cond_true, hin, cond_true, idx_nat hl, hg]
    simp only [Option.bind_some]
    rw [wr_ok (x := lo * f.2) (by omega) (by omega), wr_ok (x := hi * f.2) (by omega) (by omega), hw]
    by_cases c1 : f.1 < lo * f.2
    · rw [decide_eq_true c1, cond_true]
      exact next lo 1 (by simp [cut1, c1])
    · rw [decide_eq_false c1, cond_false]
      by_cases c2 : f.1 > hi * f.2
      · rw [decide_eq_true c2, cond_true]
        exact next hi 1 (by simp [cut1, c1, c2])
      · rw [decide_eq_false c2, cond_false]
        exact next f.1 f.2 (by simp [cut1, c1, c2])

theorem bounded_val (a : ShA.den) (ha : Wf ShA a) {low high : Int} (hl : 0 ≤ low ∧ low ≤ 255) (hh : 0 ≤ high ∧ high ≤ 255) : D15 N5 a low high = some true := by
  obtain ⟨l, hg, _, _, e1⟩ := made_eq (n := N5) (by decide) a ha (many := 8) (y := 100) (by omega) (by omega)
  have h8 := hg.le
  obtain ⟨K, hK, e2⟩ := joined_eq (n := N5) (by decide) hg.ok hg.pos
  obtain ⟨v1, v2, v3, _⟩ := all_of18 hg hK
  have t1 := tmod_rng hl.1 (show (0 : Int) < 103 by omega)
  have t2 := tmod_rng hh.1 (show (0 : Int) < 103 by omega)
  unfold D15
  rw [e1]
  simp only [Option.bind_some, show ((103 : Nat) == 0) = false from rfl, show ((103 : Int) == 0) = false from rfl, cond_false]
  rw [wr_ok (x := low) (by omega) (by omega), wr_ok (x := high) (by omega) (by omega), wr_ok (x := Int.tmod low 103 - 1) (by omega) (by omega), wr_ok (x := Int.tmod high 103 - 1) (by omega) (by omega)]
  generalize Int.tmod low 103 - 1 = x at *
  generalize Int.tmod high 103 - 1 = y at *
  rw [bounded42 (n := N5) (by decide) hg hK]
  simp only [Option.bind_some, orB, andB, works_val5]
  by_cases hin : 0 ≤ x ∧ x ≤ 100 ∧ 0 ≤ y ∧ y ≤ 100
  · rw [if_pos hin]
    have hA : (((decide (x < 0) || decide (y < 0)) || decide (x > 100)) || decide (y > 100)) = false := by
      simp
      omega
    rw [hA, cond_false]
    by_cases hxy : x ≤ y
    · rw [if_pos hxy, decide_eq_false (show ¬ x > y by omega), cond_false, e2]
      simp only [Option.bind_some]
      exact want_loop (by omega) (by omega) (by omega) (vals l K.reverse) [] N5.1 rfl (by show _ < 100000000000000000000; omega) v3
    · rw [if_neg hxy, decide_eq_true (show x > y by omega)]
      rfl
  · rw [if_neg hin]
    have hA : (((decide (x < 0) || decide (y < 0)) || decide (x > 100)) || decide (y > 100)) = true := by
      simp
      omega
    rw [hA]
    rfl

theorem bounded_ok (xs : pksDen (pks [ShA, .int .u8, .int .u8])) (h : WfL [ShA, .int .u8, .int .u8] xs) : ∃ n, S15 n xs.1 xs.2.1 xs.2.2.1 = some true :=
  ⟨N5, by rw [S15_D N5 rfl]; exact bounded_val xs.1 h.1 (u8_rng h.2.1) (u8_rng h.2.2.1)⟩

end Go.Proofs.Ytombednapelokaa
