/- Reign: plain laws: which sources are wrong: the program's walk over all sets. -/
import Derived.Test.YtombednapelokaaMb
set_option linter.unusedVariables false
set_option linter.unusedSimpArgs false
namespace Go.Proofs.Ytombednapelokaa
open Go.Vi

theorem bit_eq {set i : Nat} (hs : set < 65536) (hi : i ≤ 16) : ((wr .i64 ((BitVec.ofInt (IntKind.bits .i64) (Int.fdiv (set : Int) (2 ^ (min (Int.toNat (i : Int)) (IntKind.bits .i64)))) &&& BitVec.ofInt (IntKind.bits .i64) 1).toNat : Nat)) == 1) = Nat.testBit set i := by
  have h64 : IntKind.bits .i64 = 64 := rfl
  rw [h64, Int.toNat_natCast, Nat.min_eq_left (by omega)]
  have e1 : Int.fdiv (set : Int) (2 ^ i) = ((set / 2 ^ i : Nat) : Int) := by
    rw [show ((2 : Int) ^ i) = ((2 ^ i : Nat) : Int) by simp, Int.fdiv_eq_ediv_of_nonneg _ (Int.natCast_nonneg _), Int.natCast_ediv]
  rw [e1]
  have hlt : set / 2 ^ i ≤ set := Nat.div_le_self _ _
  have e2 : (BitVec.ofInt 64 ((set / 2 ^ i : Nat) : Int) &&& BitVec.ofInt 64 1).toNat = set / 2 ^ i % 2 := by
    rw [BitVec.toNat_and, BitVec.ofInt_natCast, BitVec.toNat_ofNat, Nat.mod_eq_of_lt (by omega)]
    have : (BitVec.ofInt 64 1).toNat = 1 := by decide
    rw [this, Nat.and_one_is_mod]
  rw [e2, wr_nat (by omega), Nat.testBit_eq_decide_div_mod_eq]
  rcases Nat.mod_two_eq_zero_or_one (set / 2 ^ i) with h | h <;> rw [h] <;> rfl

/-- Which sources a set strikes, from a place on. -/
def outs (set : Nat) : Nat → List Src → List Int
  | _, [] => []
  | k, _ :: r => if Nat.testBit set k = true then (k : Int) :: outs set (k + 1) r else outs set (k + 1) r

/-- Do the years of the others not fall? -/
def rises (set : Nat) : Nat → Int → List Src → Bool
  | _, _, [] => true
  | k, last, s :: r => if Nat.testBit set k = true then rises set (k + 1) last r else decide (last ≤ s.1) && rises set (k + 1) s.1 r

theorem outs_len (set : Nat) : ∀ (k : Nat) (l : List Src), (outs set k l).length ≤ l.length
  | _, [] => by simp [outs]
  | k, s :: r => by
    have := outs_len set (k + 1) r
    simp only [outs]
    split <;> simp <;> omega

/-- What the program does behind the last source. -/
noncomputable def wfin (n : Nat × Nat) (f1 : (List (Int × Int)) → Int → Int → List Int → Option R44) (l : List Src) (v19 v20 : Int) (best : List Int) (good : Bool) (out : List Int) : Option R44 :=
  ((bif (good == true) then ((bif (best.isEmpty == false) then some (decide ((out.length : Int) < (best.length : Int)))
        else some true)).bind fun b4' =>
      ((bif (b4' == false) then ((bif (((out.length : Int) == (best.length : Int)) == true) then (D64 n out best).bind fun r5' =>
              some (decide (r5' < 0))
            else some false)).bind fun b6' =>
          some b6'
        else some true)).bind fun b7' =>
      some b7'
    else some false)).bind fun b8' =>
  (bif b8' then (bif out.isEmpty then some ([], 0)
    else f1 l v19 (wr .i64 (v20 + 1)) out)
  else f1 l v19 (wr .i64 (v20 + 1)) best)

theorem wrong_inner (n : Nat × Nat) (f1 : (List (Int × Int)) → Int → Int → List Int → Option R44) {l : List Src} (hl : l.length ≤ 8) {set : Nat} (hs : set < 65536) (v19 v20 : Int) (best : List Int) : ∀ (m k : Nat) (last : Int) (good : Bool) (out : List Int), k ≤ l.length → l.length - k < m → out.length ≤ k →
    DL44_2 n f1 m l (set : Int) last good v19 v20 l (l.length : Int) (k : Int) best out = wfin n f1 l v19 v20 best (good && rises set k last (l.drop k)) (out ++ outs set k (l.drop k))
  | 0, k, _, _, _, _, h, _ => by omega
  | m + 1, k, last, good, out, hk, h, ho => by
    rw [DL44_2_succ]
    unfold DF44_2 DL44_3
    by_cases hlt : k < l.length
    · have hw : wr .i64 ((k : Int) + 1) = ((k + 1 : Nat) : Int) := by rw [wr_ok (by omega) (by omega)]; omega
      rw [show decide ((k : Int) < (l.length : Int)) = true by simpa using hlt, cond_true, idx_nat hlt, drop_cons hlt]
      simp only [Option.bind_some]
      rw [show decide ((k : Int) < 0) = false by simp, cond_false, bit_eq hs (by omega), hw]
      by_cases hb : Nat.testBit set k = true
      · have := wrong_inner n f1 hl hs v19 v20 best m (k + 1) last good (out ++ [(k : Int)]) (by omega) (by omega) (by simp; omega)
        rw [hb, cond_true, show decide (out.length + [(k : Int)].length ≤ lim) = true by simp [lim]; omega, cond_true, this]
        simp only [rises, outs, hb, if_true, List.append_assoc, List.cons_append, List.nil_append]
      · have hb' : Nat.testBit set k = false := by simpa using hb
        have := wrong_inner n f1 hl hs v19 v20 best m (k + 1) l[k].1 (good && decide (last ≤ l[k].1)) out (by omega) (by omega) (by omega)
        rw [hb', cond_false, andB]
        simp only [Option.bind_some, ge_iff_le]
        rw [this]
        simp only [rises, outs, hb', Bool.false_eq_true, if_false, Bool.and_assoc]
    · have : k = l.length := by omega
      subst this
      rw [List.drop_length, show decide ((l.length : Int) < (l.length : Int)) = false by simp, cond_false]
      simp only [rises, outs, Bool.and_true, List.append_nil]
      rfl

/-- Lists are compared, whatever they are. -/
theorem cmp_total (n : Nat × Nat) (a b : Int) : ∃ c, D93 n a b = some c := by
  unfold D93 D107
  simp only [Option.bind_some, bne_self_eq_false, cond_false]
  by_cases h1 : a < b
  · exact ⟨-1, by simp [h1]⟩
  · by_cases h2 : a > b
    · exact ⟨1, by simp [h1, h2]⟩
    · exact ⟨0, by simp [h1, h2]⟩

theorem compare_loop (n : Nat × Nat) {a b : List Int} (ha : a.length ≤ 1000) : ∀ (m k : Nat), k ≤ a.length → a.length - k < m → ∃ c, DL64_1 n m a b a (a.length : Int) (k : Int) = some c
  | 0, k, _, h => by omega
  | m + 1, k, hk, h => by
    rw [DL64_1_succ]
    unfold DF64_1
    by_cases hlt : k < a.length
    · rw [show decide ((k : Int) < (a.length : Int)) = true by simpa using hlt, cond_true, idx_nat hlt]
      simp only [Option.bind_some]
      by_cases hb : k < b.length
      · obtain ⟨c, hc⟩ := cmp_total n a[k] b[k]
        rw [show decide ((k : Int) ≥ (b.length : Int)) = false by simp; omega, cond_false, idx_nat hb]
        simp only [Option.bind_some, hc]
        rw [show wr .i64 ((k : Int) + 1) = ((k + 1 : Nat) : Int) by rw [wr_ok (by omega) (by omega)]; omega]
        cases h0 : (c != 0) with
        | true => exact ⟨c, rfl⟩
        | false => exact compare_loop n ha m (k + 1) hlt (by omega)
      · rw [show decide ((k : Int) ≥ (b.length : Int)) = true by simp; omega, cond_true]
        exact ⟨1, rfl⟩
    · rw [show decide ((k : Int) < (a.length : Int)) = false by simpa using hlt, cond_false]
      cases decide ((a.length : Int) < (b.length : Int)) with
      | true => exact ⟨-1, rfl⟩
      | false => exact ⟨0, rfl⟩

theorem compare_total {n : Nat × Nat} (hn : 2000 ≤ n.1) {a b : List Int} (ha : a.length ≤ 1000) : ∃ c, D64 n a b = some c := by
  unfold D64
  exact compare_loop n ha n.1 0 (by omega) (by omega)

/-- A set better than the best so far, or not. -/
theorem wfin_eq {n : Nat × Nat} (hn : 2000 ≤ n.1) (f1 : (List (Int × Int)) → Int → Int → List Int → Option R44) (l : List Src) (v19 v20 : Int) (best : List Int) (good : Bool) {out : List Int} (ho : out.length ≤ 1000) : ∃ b : Bool, (b = true → good = true ∧ (best = [] ∨ out.length ≤ best.length)) ∧ (b = false → good = false ∨ (best ≠ [] ∧ best.length ≤ out.length)) ∧
    wfin n f1 l v19 v20 best good out = bif b then (bif out.isEmpty then some ([], 0) else f1 l v19 (wr .i64 (v20 + 1)) out) else f1 l v19 (wr .i64 (v20 + 1)) best := by
  obtain ⟨c, hc⟩ := compare_total hn (b := best) ho
  unfold wfin
  cases good with
  | false => exact ⟨false, by simp, by simp, rfl⟩
  | true =>
    cases hb : best with
    | nil => exact ⟨true, by simp, by simp, by simp⟩
    | cons x r =>
      rw [hb] at hc
      simp only [List.isEmpty_cons, show (false == false) = true from rfl, show (true == true) = true from rfl, cond_true, Option.bind_some]
      by_cases h1 : (out.length : Int) < ((x :: r).length : Int)
      · refine ⟨true, fun _ => ⟨by trivial, .inr (by omega)⟩, by simp, ?_⟩
        rw [decide_eq_true h1]
        rfl
      · rw [decide_eq_false h1]
        simp only [show (false == false) = true from rfl, cond_true]
        by_cases h2 : out.length = (x :: r).length
        · rw [show ((out.length : Int) == ((x :: r).length : Int)) = true by rw [beq_iff_eq]; omega, hc]
          simp only [show (true == true) = true from rfl, cond_true, Option.bind_some]
          refine ⟨decide (c < 0), fun _ => ⟨by trivial, .inr (by omega)⟩, fun _ => .inr ⟨by simp, by omega⟩, rfl⟩
        · rw [show ((out.length : Int) == ((x :: r).length : Int)) = false by rw [beq_eq_false_iff_ne]; omega]
          simp only [show (false == true) = false from rfl, cond_false, Option.bind_some]
          exact ⟨false, by simp, fun _ => .inr ⟨by simp, by omega⟩, rfl⟩

end Go.Proofs.Ytombednapelokaa
