/- Reign: the law ReignWrong, joined. -/
import Derived.Test.YtombednapelokaaMi
set_option linter.unusedVariables false
set_option linter.unusedSimpArgs false
namespace Go.Proofs.Ytombednapelokaa
open Go.Vi

theorem sets_congr {a b : Nat} : ∀ (k : Nat) (last : Int) (l : List Src), (∀ i, k ≤ i → i < k + l.length → Nat.testBit a i = Nat.testBit b i) → rises a k last l = rises b k last l ∧ outs a k l = outs b k l
  | _, _, [], _ => ⟨rfl, rfl⟩
  | k, last, s :: r, h => by
    have h0 := h k (Nat.le_refl _) (by simp)
    have hr : ∀ i, k + 1 ≤ i → i < k + 1 + r.length → Nat.testBit a i = Nat.testBit b i := fun i h1 h2 => h i (by omega) (by simp; omega)
    obtain ⟨i1, i2⟩ := sets_congr (k + 1) last r hr
    obtain ⟨j1, _⟩ := sets_congr (k + 1) s.1 r hr
    simp only [rises, outs, h0, i1, i2, j1]
    exact ⟨trivial, trivial⟩

theorem rises_app {set : Nat} {s : Src} : ∀ (k : Nat) (last : Int) (l : List Src), rises set k last (l ++ [s]) = true → rises set k last l = true
  | _, _, [], _ => rfl
  | k, last, x :: r, h => by
    simp only [List.cons_append, rises] at h ⊢
    split at h
    · rename_i hb
      rw [if_pos hb]
      exact rises_app (k + 1) last r h
    · rename_i hb
      rw [if_neg hb]
      simp only [Bool.and_eq_true] at h ⊢
      exact ⟨h.1, rises_app (k + 1) x.1 r h.2⟩

theorem rises_ext {set : Nat} {s : Src} : ∀ (k : Nat) (last : Int) (l : List Src), Nat.testBit set (k + l.length) = true → rises set k last (l ++ [s]) = rises set k last l
  | k, last, [], h => by
    simp only [List.length_nil, Nat.add_zero] at h
    simp only [List.nil_append, rises, h, if_true]
  | k, last, x :: r, h => by
    have h' : Nat.testBit set (k + 1 + r.length) = true := by rw [← h]; congr 1; simp; omega
    simp only [List.cons_append, rises, rises_ext (k + 1) last r h', rises_ext (k + 1) x.1 r h']

theorem outs_app {set : Nat} {s : Src} : ∀ (k : Nat) (l : List Src), (outs set k l).length ≤ (outs set k (l ++ [s])).length ∧ (outs set k (l ++ [s])).length ≤ (outs set k l).length + 1
  | k, [] => by
    by_cases h : Nat.testBit set k = true <;> simp [outs, h]
  | k, x :: r => by
    have := outs_app (set := set) (s := s) (k + 1) r
    simp only [List.cons_append, outs]
    by_cases hb : Nat.testBit set k = true
    · simp only [if_pos hb, List.length_cons]
      omega
    · simp only [if_neg hb]
      exact this

theorem rises_full {set : Nat} : ∀ (k : Nat) (last : Int) (l : List Src), (∀ i, k ≤ i → i < k + l.length → Nat.testBit set i = true) → rises set k last l = true
  | _, _, [], _ => rfl
  | k, last, s :: r, h => by
    simp only [rises, h k (Nat.le_refl _) (by simp), if_true]
    exact rises_full (k + 1) last r fun i h1 h2 => h i (by omega) (by simp; omega)

/-- All sets: one is found. -/
theorem found {l : List Src} : (Rn l (2 ^ l.length)).1 = true := by
  have hp : 0 < 2 ^ l.length := Nat.two_pow_pos _
  exact ((Rn_spec l (2 ^ l.length)).2.2 (2 ^ l.length - 1) (by omega) (rises_full 0 0 l fun i _ hi => by
    rw [Nat.testBit_two_pow_sub_one]
    simp
    omega)).1

/-- One more at the end: as many, or one more. -/
theorem one_more (l : List Src) (s : Src) : (Rn l (2 ^ l.length)).2.length ≤ (Rn (l ++ [s]) (2 ^ (l ++ [s]).length)).2.length ∧ (Rn (l ++ [s]) (2 ^ (l ++ [s]).length)).2.length ≤ (Rn l (2 ^ l.length)).2.length + 1 := by
  have hlen : (l ++ [s]).length = l.length + 1 := by simp
  have hp : 0 < 2 ^ l.length := Nat.two_pow_pos _
  have h2 : 2 ^ (l.length + 1) = 2 ^ l.length * 2 := Nat.pow_succ _ _
  obtain ⟨a1, _, a3⟩ := Rn_spec l (2 ^ l.length)
  obtain ⟨b1, _, b3⟩ := Rn_spec (l ++ [s]) (2 ^ (l ++ [s]).length)
  constructor
  · obtain ⟨τ, t1, t2, t3⟩ := b1 found
    have hτ : τ % 2 ^ l.length < 2 ^ l.length := Nat.mod_lt _ hp
    obtain ⟨c1, c2⟩ := sets_congr (a := τ % 2 ^ l.length) (b := τ) 0 0 l fun i _ hi => by
      rw [Nat.testBit_mod_two_pow, decide_eq_true (show i < l.length by omega), Bool.true_and]
    have := (a3 (τ % 2 ^ l.length) hτ (by rw [c1]; exact rises_app 0 0 l t2)).2
    rw [c2] at this
    rw [t3]
    exact Nat.le_trans this (outs_app 0 l).1
  · obtain ⟨σ, s1, s2, s3⟩ := a1 found
    have hb : Nat.testBit (σ ||| 2 ^ l.length) l.length = true := by
      rw [Nat.testBit_or, Nat.testBit_two_pow_self, Bool.or_true]
    obtain ⟨c1, c2⟩ := sets_congr (a := σ ||| 2 ^ l.length) (b := σ) 0 0 l fun i _ hi => by
      rw [Nat.testBit_or, Nat.testBit_two_pow, decide_eq_false (show ¬ l.length = i by omega), Bool.or_false]
    have hlt : σ ||| 2 ^ l.length < 2 ^ (l ++ [s]).length := by
      rw [hlen]
      exact Nat.or_lt_two_pow (by omega) (by omega)
    have := (b3 (σ ||| 2 ^ l.length) hlt (by rw [rises_ext 0 0 l (by rw [Nat.zero_add]; exact hb), c1]; exact s2)).2
    have h5 := (outs_app (set := σ ||| 2 ^ l.length) (s := s) 0 l).2
    rw [c2] at h5
    rw [s3]
    omega

/-! ### The law -/
theorem law_inner (f1 : Int → Bool → Int → Int → (List (Int × Int)) → List Int → Option R12) {l : List Src} (hl : l.length ≤ 8) {set : Nat} (hs : set < 65536) (year v24 v25 : Int) (fd : Bool) (best : List Int) : ∀ (m k : Nat) (last : Int) (good : Bool) (out : List Int), k ≤ l.length → l.length - k < m → out.length ≤ k →
    DL12_2 N4 f1 m year fd (set : Int) last good v24 v25 (l.length : Int) (k : Int) l best out =
      if ((good && rises set k last (l.drop k)) && bet fd (out ++ outs set k (l.drop k)) best) = true then f1 year true v24 (wr .i64 (v25 + 1)) l (out ++ outs set k (l.drop k)) else f1 year fd v24 (wr .i64 (v25 + 1)) l best
  | 0, k, _, _, _, _, h, _ => by omega
  | m + 1, k, last, good, out, hk, h, ho => by
    rw [DL12_2_succ]
    unfold DF12_2 DL12_3 DL12_4
    by_cases hlt : k < l.length
    · have hw : wr .i64 ((k : Int) + 1) = ((k + 1 : Nat) : Int) := by rw [wr_ok (by omega) (by omega)]; omega
      rw [show decide ((k : Int) < (l.length : Int)) = true by simpa using hlt, cond_true, show inB (k : Int) l.length = true by simp [inB]; omega, cond_true, idx_nat hlt, drop_cons hlt]
      simp only [Option.bind_some]
      rw [show decide ((k : Int) < 0) = false by simp, cond_false, bit_eq hs (by omega), hw]
      by_cases hb : Nat.testBit set k = true
      · have := law_inner f1 hl hs year v24 v25 fd best m (k + 1) last good (out ++ [(k : Int)]) (by omega) (by omega) (by simp; omega)
        rw [hb, cond_true, show decide (out.length + [(k : Int)].length ≤ lim) = true by simp [lim]; omega, cond_true, this]
        simp only [rises, outs, hb, if_true, List.append_assoc, List.cons_append, List.nil_append]
      · have hb' : Nat.testBit set k = false := by simpa using hb
        have := law_inner f1 hl hs year v24 v25 fd best m (k + 1) l[k].1 (good && decide (last ≤ l[k].1)) out (by omega) (by omega) (by omega)
        rw [hb', cond_false, andB]
        simp only [Option.bind_some, ge_iff_le]
        rw [this]
        simp only [rises, outs, hb', Bool.false_eq_true, if_false, Bool.and_assoc]
    · have : k = l.length := by omega
      subst this
      rw [List.drop_length, show decide ((l.length : Int) < (l.length : Int)) = false by simp, cond_false]
      simp only [rises, outs, Bool.and_true, List.append_nil]
      have ho2 : out.length ≤ 1000 := by omega
      unfold bet
      cases good with
      | false => rfl
      | true =>
        cases fd with
        | false => rfl
        | true =>
          simp only [show (true == true) = true from rfl, cond_true, Bool.not_true, show (false == false) = true from rfl, Option.bind_some, Bool.false_or, Bool.true_and]
          by_cases h1 : out.length < best.length
          · rw [decide_eq_true (show (out.length : Int) < (best.length : Int) by omega), decide_eq_true h1]
            rfl
          · rw [decide_eq_false (show ¬ (out.length : Int) < (best.length : Int) by omega), decide_eq_false h1]
            simp only [show (false == false) = true from rfl, cond_true, Bool.false_or]
            by_cases h2 : out.length = best.length
            · rw [show ((out.length : Int) == (best.length : Int)) = true by rw [beq_iff_eq]; omega, cv_eq ho2, decide_eq_true h2]
              simp only [show (true == true) = true from rfl, cond_true, Option.bind_some, Bool.true_and]
              cases hd : decide (cv out best < 0) <;> rfl
            · rw [show ((out.length : Int) == (best.length : Int)) = false by rw [beq_eq_false_iff_ne]; omega, decide_eq_false h2]
              rfl

theorem same_loop (n : Nat × Nat) {v : List Int} (hl : v.length ≤ 1000) : ∀ (m k : Nat), k ≤ v.length → v.length - k < m → DL46_1 n m v v (k : Int) = some true
  | 0, k, _, h => by omega
  | m + 1, k, hk, h => by
    rw [DL46_1_succ]
    unfold DF46_1
    by_cases hlt : k < v.length
    · rw [show decide ((k : Int) < (v.length : Int)) = true by simpa using hlt, cond_true, idx_nat hlt]
      simp only [Option.bind_some, bne_self_eq_false, cond_false]
      rw [show wr .i64 ((k : Int) + 1) = ((k + 1 : Nat) : Int) by rw [wr_ok (by omega) (by omega)]; omega]
      exact same_loop n hl m (k + 1) hlt (by omega)
    · rw [show decide ((k : Int) < (v.length : Int)) = false by simpa using hlt, cond_false]

theorem same_eq {n : Nat × Nat} (hn : 2000 ≤ n.1) {v : List Int} (hl : v.length ≤ 1000) : D46 n v v = some true := by
  unfold D46
  rw [show (((v.length : Int)) != (v.length : Int)) = false by simp, cond_false]
  exact same_loop n hl n.1 0 (by omega) (by omega)

theorem src_eq (a : Int) : D60 N4 [a, 1] = some [(a, 1)] := by kernel_rfl

theorem falls_rises : ∀ (r : List Src) (a : Src) (j : Int) (k : Nat), ((falls (a :: r) j).2 == 13) = rises 0 k a.1 r
  | [], a, j, k => rfl
  | b :: r, a, j, k => by
    simp only [falls, rises, Nat.zero_testBit, Bool.false_eq_true, if_false]
    by_cases h : b.1 < a.1
    · rw [if_pos h, decide_eq_false (show ¬ a.1 ≤ b.1 by omega)]
      rfl
    · rw [if_neg h, decide_eq_true (show a.1 ≤ b.1 by omega), Bool.true_and]
      exact falls_rises r b (j + 1) (k + 1)

theorem falls_13 {l : List Src} (hg : Good l) : ∃ r, D20 N4 l = some r ∧ (r.2 == 13) = rises 0 0 0 l := by
  have hp := hg.pos
  have h8 := hg.le
  refine ⟨falls l 0, ?_, ?_⟩
  · unfold D20
    rw [chk_eq (n := N4) (by decide), good_chk hg]
    simp only [Option.bind_some, bne_self_eq_false, cond_false]
    have := falls_loop N4 l hg N4.1 0 hp (by show _ < 100000000000000000000; omega)
    rw [wr_ok (by omega) (by omega)]
    simpa using this
  · match l, hp with
    | a :: r, _ =>
      rw [falls_rises r a 0 1]
      have := hg.all a (by simp)
      simp only [rises, Nat.zero_testBit, Bool.false_eq_true, if_false, decide_eq_true this.1, Bool.true_and]

theorem best_zero {l : List Src} : (((Rn l (2 ^ l.length)).2.length : Int) == 0) = rises 0 0 0 l := by
  have hp : 0 < 2 ^ l.length := Nat.two_pow_pos _
  cases h0 : rises 0 0 0 l with
  | true =>
    rw [Rn_zero h0 _ (by omega) (Nat.le_refl _)]
    rfl
  | false =>
    obtain ⟨σ, s1, s2, s3⟩ := (Rn_spec l (2 ^ l.length)).1 found
    have hσ : σ ≠ 0 := by
      rintro rfl
      rw [h0] at s2
      cases s2
    have := List.length_pos_iff.2 (outs_ne' (l := l) (set := σ) (by omega) s1)
    rw [s3, beq_eq_false_iff_ne]
    omega

theorem d_ge {a b : Nat} (h : b ≤ a) : decide ((a : Int) ≥ (b : Int)) = true := decide_eq_true (by omega)
theorem d_le {a b : Nat} (h : a ≤ b + 1) : decide ((a : Int) ≤ (b : Int) + 1) = true := decide_eq_true (by omega)

theorem law_end {l : List Src} (hg : Good l) (h7 : l.length ≤ 7) {year : Int} (hy : 0 ≤ year ∧ year ≤ 255) :
    ((D44 N4 l).bind fun r2' =>
      (D61 N4 l).bind fun r3' =>
      (bif 21 == 0 then none
      else (D60 N4 [Int.tmod (wr .i64 year) 21, 1]).bind fun r4' =>
        (bif decide (r3'.length + r4'.length ≤ lim) then (D44 N4 (r3' ++ r4')).bind fun r5' =>
          (D20 N4 l).bind fun r6' =>
          ((bif ((r2'.2 == 0) == true) then some (r5'.2 == 0)
            else some false)).bind fun b7' =>
          ((bif (b7' == true) then (D46 N4 r2'.1 (Rn l (2 ^ l.length)).2).bind fun r8' =>
              some r8'
            else some false)).bind fun b9' =>
          ((bif (b9' == true) then some (decide ((r5'.1.length : Int) ≥ (r2'.1.length : Int)))
            else some false)).bind fun b10' =>
          ((bif (b10' == true) then some (decide ((r5'.1.length : Int) ≤ wr .i64 ((r2'.1.length : Int) + 1)))
            else some false)).bind fun b11' =>
          ((bif (b11' == true) then some ((((Rn l (2 ^ l.length)).2.length : Int) == 0) == (r6'.2 == 13))
            else some false)).bind fun b12' =>
          ((bif (b12' == true) then (D18 N4).bind fun r13' =>
              some r13'
            else some false)).bind fun b14' =>
          some b14'
        else none))) = some true := by
  have hp := hg.pos
  have t := tmod_rng hy.1 (show (0 : Int) < 21 by omega)
  have hge : Good (l ++ [(Int.tmod year 21, 1)]) := ⟨by simp, by simp; omega, fun s hs => by
    rcases List.mem_append.1 hs with hs | hs
    · exact hg.all s hs
    · rw [List.mem_singleton.1 hs]
      simp only
      omega⟩
  obtain ⟨r, r1, r2⟩ := falls_13 hg
  obtain ⟨o1, o2⟩ := one_more l (Int.tmod year 21, 1)
  have hl8 : (Rn l (2 ^ l.length)).2.length ≤ 8 := by
    obtain ⟨σ, s1, s2, s3⟩ := (Rn_spec l (2 ^ l.length)).1 found
    rw [s3]
    have := outs_len σ 0 l
    omega
  have hw := wrong_eq hg
  have hw2 := wrong_eq hge
  have hz := best_zero (l := l)
  generalize (Rn (l ++ [(Int.tmod year 21, 1)]) (2 ^ (l ++ [(Int.tmod year 21, 1)]).length)).2 = B at hw2 o1 o2
  generalize (Rn l (2 ^ l.length)).2 = A at hw hz hl8 o1 o2 ⊢
  have hsrc := src_eq (Int.tmod year 21)
  have h21 : ((21 : Nat) == 0) = false := rfl
  rw [wr_ok (x := year) (by omega) (by omega), hw, clone_eq N4 hg]
  generalize D60 N4 [Int.tmod year 21, 1] = z at hsrc ⊢
  subst hsrc
  simp only [Option.bind_some, h21, cond_false]
  rw [show decide (l.length + [(Int.tmod year 21, (1 : Int))].length ≤ lim) = true by simp [lim]; omega, cond_true, hw2, r1]
  simp only [Option.bind_some, beq_self_eq_true, cond_true, show (true == true) = true from rfl]
  rw [same_eq (n := N4) (by decide) (by omega), wr_ok (x := (A.length : Int) + 1) (by omega) (by omega)]
  simp only [Option.bind_some, show (true == true) = true from rfl, cond_true]
  rw [d_ge o1, d_le o2]
  simp only [Option.bind_some, show (true == true) = true from rfl, cond_true, hz, r2, beq_self_eq_true, works_val4]

theorem law_outer {l : List Src} (hg : Good l) (h7 : l.length ≤ 7) {year : Int} (hy : 0 ≤ year ∧ year ≤ 255) : ∀ (m j : Nat), j ≤ 2 ^ l.length → 2 ^ l.length - j < m → DL12_1 N4 m year (Rn l j).1 ((2 ^ l.length : Nat) : Int) (j : Int) l (Rn l j).2 = some true
  | 0, j, _, h => by omega
  | m + 1, j, hj, h => by
    have hp := hg.pos
    have h256 : 2 ^ l.length ≤ 256 := by
      have : 2 ^ l.length ≤ 2 ^ 8 := Nat.pow_le_pow_right (by omega) (by omega)
      omega
    rw [DL12_1_succ]
    unfold DF12_1
    by_cases hlt : j < 2 ^ l.length
    · rw [show decide ((j : Int) < ((2 ^ l.length : Nat) : Int)) = true by rw [decide_eq_true_eq]; omega, cond_true]
      have hi := law_inner (DL12_1 N4 m) (by omega) (l := l) (set := j) (by omega) year ((2 ^ l.length : Nat) : Int) (j : Int) (Rn l j).1 (Rn l j).2 N4.1 0 0 true [] (by omega) (by show _ < 100000000000000000000; omega) (by simp)
      simp only [Int.natCast_zero, List.drop_zero, Bool.true_and, List.nil_append] at hi
      rw [hi, show wr .i64 ((j : Int) + 1) = ((j + 1 : Nat) : Int) by rw [wr_ok (by omega) (by omega)]; omega]
      have ih := law_outer hg h7 hy m (j + 1) (by omega) (by omega)
      simp only [Rn] at ih
      by_cases hc : (rises j 0 0 l && bet (Rn l j).1 (outs j 0 l) (Rn l j).2) = true
      · rw [if_pos hc] at ih ⊢
        exact ih
      · rw [if_neg hc] at ih ⊢
        exact ih
    · have hje : j = 2 ^ l.length := by omega
      subst hje
      rw [show decide (((2 ^ l.length : Nat) : Int) < ((2 ^ l.length : Nat) : Int)) = false by simp, cond_false]
      exact law_end hg h7 hy

theorem wrong_val (a : ShA.den) (ha : Wf ShA a) {year : Int} (hy : 0 ≤ year ∧ year ≤ 255) : D12 N4 a year = some true := by
  obtain ⟨l, hg, h7, _, e1⟩ := made_eq (n := N4) (by decide) a ha (many := 7) (y := 20) (by omega) (by omega)
  have h8 := hg.le
  have h256 : 2 ^ l.length ≤ 256 := by
    have : 2 ^ l.length ≤ 2 ^ 8 := Nat.pow_le_pow_right (by omega) (by omega)
    omega
  unfold D12
  rw [e1]
  simp only [Option.bind_some]
  rw [show decide ((l.length : Int) < 0) = false by rw [decide_eq_false_iff_not]; omega, cond_false, two_pow h8]
  exact law_outer hg (by omega) hy N4.1 0 (Nat.zero_le _) (by show _ < 100000000000000000000; omega)

theorem wrong_ok (xs : pksDen (pks [ShA, .int .u8])) (h : WfL [ShA, .int .u8] xs) : ∃ n, S12 n xs.1 xs.2.1 = some true :=
  ⟨N4, by rw [S12_D N4 rfl]; exact wrong_val xs.1 h.1 (u8_rng h.2.1)⟩

end Go.Proofs.Ytombednapelokaa
