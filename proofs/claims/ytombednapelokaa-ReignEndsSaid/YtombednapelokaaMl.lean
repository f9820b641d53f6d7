/- Reign: the fewest wrong sources: the reference's walk over all choices. -/
import Derived.Test.YtombednapelokaaMi
set_option linter.unusedVariables false
set_option linter.unusedSimpArgs false
namespace Go.Proofs.Ytombednapelokaa
open Go.Vi

/-! ### Lists in their order -/
def lexI : List Int → List Int → Int
  | [], [] => 0
  | [], _ :: _ => -1
  | _ :: _, [] => 1
  | x :: r, y :: s => if x < y then -1 else if x > y then 1 else lexI r s

theorem cmp_val (n : Nat × Nat) (a b : Int) : D93 n a b = some (if a < b then -1 else if a > b then 1 else 0) := by
  unfold D93 D107
  simp only [Option.bind_some, bne_self_eq_false, cond_false]
  by_cases h1 : a < b
  · simp [h1]
  · by_cases h2 : a > b
    · simp [h1, h2]
    · simp [h1, h2]

theorem lex_loop (n : Nat × Nat) {a b : List Int} (ha : a.length ≤ 1000) : ∀ (m k : Nat), k ≤ a.length → k ≤ b.length → a.length - k < m → DL64_1 n m a b a (a.length : Int) (k : Int) = some (lexI (a.drop k) (b.drop k))
  | 0, k, _, _, h => by omega
  | m + 1, k, hk, hkb, h => by
    rw [DL64_1_succ]
    unfold DF64_1
    by_cases hlt : k < a.length
    · rw [show decide ((k : Int) < (a.length : Int)) = true by simpa using hlt, cond_true, idx_nat hlt, drop_cons hlt]
      simp only [Option.bind_some]
      by_cases hb : k < b.length
      · rw [show decide ((k : Int) ≥ (b.length : Int)) = false by simp; omega, cond_false, idx_nat hb, drop_cons hb]
        simp only [Option.bind_some, cmp_val, lexI]
        rw [show wr .i64 ((k : Int) + 1) = ((k + 1 : Nat) : Int) by rw [wr_ok (by omega) (by omega)]; omega]
        by_cases h1 : a[k] < b[k]
        · rw [if_pos h1, if_pos h1]; rfl
        · rw [if_neg h1, if_neg h1]
          by_cases h2 : a[k] > b[k]
          · rw [if_pos h2, if_pos h2]; rfl
          · rw [if_neg h2, if_neg h2]
            exact lex_loop n ha m (k + 1) hlt hb (by omega)
      · rw [show decide ((k : Int) ≥ (b.length : Int)) = true by simp; omega, cond_true, List.drop_eq_nil_of_le (show b.length ≤ k by omega)]
        rfl
    · have : k = a.length := by omega
      subst this
      rw [show decide ((a.length : Int) < (a.length : Int)) = false by simp, cond_false, List.drop_length]
      by_cases hb : a.length < b.length
      · rw [drop_cons hb, show decide ((a.length : Int) < (b.length : Int)) = true by simpa using hb]; rfl
      · rw [List.drop_eq_nil_of_le (show b.length ≤ a.length by omega), show decide ((a.length : Int) < (b.length : Int)) = false by simpa using hb]; rfl

theorem cv_lex {a b : List Int} (h : a.length ≤ 1000) : cv a b = lexI a b := by
  have := lex_loop N4 (b := b) h N4.1 0 (Nat.zero_le _) (Nat.zero_le _) (by show _ < 100000000000000000000; omega)
  unfold cv D64
  rw [show ((0 : Int)) = ((0 : Nat) : Int) from rfl, this]
  rfl

def keyl : Nat → List Int → Nat
  | a, [] => a
  | a, x :: r => keyl (a * 9 + x.toNat) r

def key (x : List Int) : Nat := x.length * 1000000000 + keyl 0 x

def Dig (x : List Int) : Prop := x.length ≤ 8 ∧ ∀ d ∈ x, 0 ≤ d ∧ d ≤ 8

theorem keyl_lt : ∀ (x : List Int) (a : Nat), (∀ d ∈ x, (0 : Int) ≤ d ∧ d ≤ 8) → keyl a x < (a + 1) * 9 ^ x.length
  | [], a, _ => by simp [keyl]
  | d :: r, a, h => by
    have h0 := h d (by simp)
    have ih := keyl_lt r (a * 9 + d.toNat) fun x hx => h x (by simp [hx])
    have : (a * 9 + d.toNat + 1) * 9 ^ r.length ≤ (a + 1) * 9 * 9 ^ r.length := Nat.mul_le_mul_right _ (by omega)
    simp only [keyl, List.length_cons, Nat.pow_succ]
    have e : (a + 1) * (9 ^ r.length * 9) = (a + 1) * 9 * 9 ^ r.length := by rw [Nat.mul_comm (9 ^ r.length) 9, Nat.mul_assoc]
    omega

theorem key_small {x : List Int} (h : Dig x) : keyl 0 x < 1000000000 := by
  have h1 := keyl_lt x 0 h.2
  have : 9 ^ x.length ≤ 9 ^ 8 := Nat.pow_le_pow_right (by omega) h.1
  omega

theorem keyl_mono : ∀ (x y : List Int) (a b : Nat), x.length = y.length → (∀ d ∈ x, (0 : Int) ≤ d ∧ d ≤ 8) → (∀ d ∈ y, (0 : Int) ≤ d ∧ d ≤ 8) → a < b → keyl a x < keyl b y
  | [], [], _, _, _, _, _, h => h
  | c :: r, d :: s, a, b, hl, hx, hy, h => by
    have h1 := hx c (by simp)
    have h2 := hy d (by simp)
    exact keyl_mono r s _ _ (by simpa using hl) (fun x hx' => hx x (by simp [hx'])) (fun x hx' => hy x (by simp [hx'])) (by omega)

theorem lex_key : ∀ (x y : List Int) (a : Nat), x.length = y.length → (∀ d ∈ x, (0 : Int) ≤ d ∧ d ≤ 8) → (∀ d ∈ y, (0 : Int) ≤ d ∧ d ≤ 8) → (lexI x y < 0 ↔ keyl a x < keyl a y)
  | [], [], a, _, _, _ => by simp [lexI, keyl]
  | c :: r, d :: s, a, hl, hx, hy => by
    have h1 := hx c (by simp)
    have h2 := hy d (by simp)
    have hr := fun x (hx' : x ∈ r) => hx x (by simp [hx'])
    have hs := fun x (hx' : x ∈ s) => hy x (by simp [hx'])
    have hl' : r.length = s.length := by simpa using hl
    simp only [lexI, keyl]
    by_cases c1 : c < d
    · rw [if_pos c1]
      have := keyl_mono r s (a * 9 + c.toNat) (a * 9 + d.toNat) hl' hr hs (by omega)
      omega
    · rw [if_neg c1]
      by_cases c2 : c > d
      · rw [if_pos c2]
        have := keyl_mono s r (a * 9 + d.toNat) (a * 9 + c.toNat) hl'.symm hs hr (by omega)
        omega
      · rw [if_neg c2]
        have : c = d := by omega
        subst this
        exact lex_key r s _ hl' hr hs

theorem bet_key {a b : List Int} (ha : Dig a) (hb : Dig b) : bet true a b = decide (key a < key b) := by
  have k1 := key_small ha
  have k2 := key_small hb
  unfold bet key
  rw [cv_lex (by have := ha.1; omega)]
  rw [Bool.not_true, Bool.false_or]
  by_cases h1 : a.length < b.length
  · rw [decide_eq_true h1, decide_eq_true (show a.length * 1000000000 + keyl 0 a < b.length * 1000000000 + keyl 0 b by omega)]; rfl
  · rw [decide_eq_false h1, Bool.false_or]
    by_cases h2 : a.length = b.length
    · rw [decide_eq_true h2, Bool.true_and]
      have := lex_key a b 0 h2 ha.2 hb.2
      rw [decide_eq_decide]
      omega
    · rw [decide_eq_false h2, decide_eq_false (show ¬ a.length * 1000000000 + keyl 0 a < b.length * 1000000000 + keyl 0 b by omega)]; rfl

/-! ### Sets and what they strike -/
def outsL (set : Nat) : Nat → Nat → List Int
  | _, 0 => []
  | k, m + 1 => if Nat.testBit set k = true then (k : Int) :: outsL set (k + 1) m else outsL set (k + 1) m

theorem outs_L (set : Nat) : ∀ (k : Nat) (l : List Src), outs set k l = outsL set k l.length
  | _, [] => rfl
  | k, s :: r => by
    simp only [outs, outsL, List.length_cons, outs_L set (k + 1) r]

theorem outs_mem {set : Nat} : ∀ (k : Nat) (l : List Src) (d : Int), d ∈ outs set k l → (k : Int) ≤ d ∧ d < k + l.length
  | _, [], _, h => by simp [outs] at h
  | k, s :: r, d, h => by
    simp only [outs] at h
    have hrec : d ∈ outs set (k + 1) r → (k : Int) ≤ d ∧ d < k + (s :: r).length := fun h => by
      have := outs_mem (k + 1) r d h
      simp only [List.length_cons]
      omega
    split at h
    · rcases List.mem_cons.1 h with rfl | h
      · simp only [List.length_cons]; omega
      · exact hrec h
    · exact hrec h

theorem outs_dig {set : Nat} {l : List Src} (h8 : l.length ≤ 8) : Dig (outs set 0 l) :=
  ⟨by have := outs_len set 0 l; omega, fun d hd => by have := outs_mem 0 l d hd; omega⟩

theorem Rn_min {l : List Src} (h8 : l.length ≤ 8) : ∀ j, ∀ τ, τ < j → rises τ 0 0 l = true → key (Rn l j).2 ≤ key (outs τ 0 l)
  | 0, τ, h, _ => by omega
  | j + 1, τ, h, hr => by
    have ih := Rn_min h8 j
    have sp := Rn_spec l j
    simp only [Rn]
    cases hf : (Rn l j).1 with
    | false =>
      have hτ : τ = j := by
        rcases Nat.lt_or_ge τ j with h1 | h1
        · have := (sp.2.2 τ h1 hr).1
          rw [hf] at this
          cases this
        · omega
      subst hτ
      rw [hr]
      simp [bet]
    | true =>
      obtain ⟨σ, s1, s2, s3⟩ := sp.1 hf
      rw [s3] at ih ⊢
      rw [bet_key (outs_dig h8) (outs_dig h8)]
      by_cases hc : (rises j 0 0 l && decide (key (outs j 0 l) < key (outs σ 0 l))) = true
      · rw [if_pos hc]
        simp only [Bool.and_eq_true, decide_eq_true_eq] at hc
        show key (outs j 0 l) ≤ _
        by_cases hτ : τ = j
        · rw [hτ]; exact Nat.le_refl _
        · have := ih τ (by omega) hr
          omega
      · rw [if_neg hc, s3]
        by_cases hτ : τ = j
        · subst hτ
          rw [hr] at hc
          simp only [Bool.true_and, decide_eq_true_eq] at hc
          omega
        · exact ih τ (by omega) hr

/-! ### The reference: its choices -/
noncomputable def chs (L k : Nat) : List (List Int) := (D90 N4 L k []).getD []
noncomputable def allc (L : Nat) : Nat → List (List Int)
  | 0 => []
  | d + 1 => chs L (L - (d + 1)) ++ allc L d
def mkN : List Int → Nat
  | [] => 0
  | x :: r => 2 ^ x.toNat + mkN r
def keyed : Nat → List (List Int) → Bool
  | _, [] => true
  | k, x :: r => decide (k < key x) && keyed (key x) r
def same : List Int → List Int → Bool
  | [], [] => true
  | x :: r, y :: s => decide (x = y) && same r s
  | _, _ => false
def isIn (x : List Int) : List (List Int) → Bool
  | [] => false
  | y :: r => same x y || isIn x r
noncomputable def okL (L : Nat) : Bool :=
  (List.range L).all (fun k => (D90 N4 L k []).isSome) &&
  (allc L L).all (fun x => decide (mkN x < 2 ^ L) && same x (outsL (mkN x) 0 L)) &&
  (match allc L L with
    | [] => false
    | x :: r => keyed (key x) r) &&
  (List.range (2 ^ L - 1)).all (fun σ => isIn (outsL σ 0 L) (allc L L)) &&
  (List.range (L + 1)).all (fun k => decide ((chs L k).length < 1000))

theorem ok1 : okL 1 = true := by kernel_rfl
theorem ok2 : okL 2 = true := by kernel_rfl
theorem ok3 : okL 3 = true := by kernel_rfl
theorem ok4 : okL 4 = true := by kernel_rfl
theorem ok5 : okL 5 = true := by kernel_rfl
theorem ok6 : okL 6 = true := by kernel_rfl
theorem ok7 : okL 7 = true := by kernel_rfl
theorem ok8 : okL 8 = true := by kernel_rfl

theorem ok_all {L : Nat} (h1 : 1 ≤ L) (h8 : L ≤ 8) : okL L = true := by
  match L, h1, h8 with
  | 1, _, _ => exact ok1
  | 2, _, _ => exact ok2
  | 3, _, _ => exact ok3
  | 4, _, _ => exact ok4
  | 5, _, _ => exact ok5
  | 6, _, _ => exact ok6
  | 7, _, _ => exact ok7
  | 8, _, _ => exact ok8

theorem same_iff : ∀ x y : List Int, same x y = true → x = y
  | [], [], _ => rfl
  | x :: r, y :: s, h => by
    simp only [same, Bool.and_eq_true, decide_eq_true_eq] at h
    rw [h.1, same_iff r s h.2]
  | [], _ :: _, h => by simp [same] at h
  | _ :: _, [], h => by simp [same] at h

theorem isIn_mem (x : List Int) : ∀ l, isIn x l = true → x ∈ l
  | [], h => by simp [isIn] at h
  | y :: r, h => by
    simp only [isIn, Bool.or_eq_true] at h
    rcases h with h | h
    · rw [same_iff _ _ h]; simp
    · exact List.mem_cons_of_mem _ (isIn_mem x r h)

theorem keyed_lt : ∀ (k : Nat) (l : List (List Int)), keyed k l = true → ∀ x ∈ l, k < key x
  | _, [], _, x, hx => by simp at hx
  | k, y :: r, h, x, hx => by
    simp only [keyed, Bool.and_eq_true, decide_eq_true_eq] at h
    rcases List.mem_cons.1 hx with rfl | hx
    · exact h.1
    · have := keyed_lt (key y) r h.2 x hx
      omega

/-- The first that answers is the least of those that answer. -/
theorem first_least {p : List Int → Bool} : ∀ (k : Nat) (l : List (List Int)), keyed k l = true → ∀ y ∈ l, p y = true → (∀ z ∈ l, p z = true → key y ≤ key z) → l.find? p = some y
  | _, [], _, y, hy, _, _ => by simp at hy
  | k, x :: r, h, y, hy, hp, hm => by
    simp only [keyed, Bool.and_eq_true, decide_eq_true_eq] at h
    have hlt := keyed_lt (key x) r h.2
    rw [List.find?_cons]
    cases hx : p x with
    | true =>
      have h1 := hm x (by simp) hx
      rcases List.mem_cons.1 hy with rfl | hy
      · rfl
      · have := hlt y hy
        omega
    | false =>
      rcases List.mem_cons.1 hy with rfl | hy
      · rw [hp] at hx; cases hx
      · exact first_least (key x) r h.2 y hy hp fun z hz => hm z (by simp [hz])

/-- Whether the years of the others rise, as the reference asks it. -/
theorem rising_loop (n : Nat × Nat) {l : List Src} (h8 : l.length ≤ 8) {σ : Nat} {but : List Int} (hb : but = outs σ 0 l) : ∀ (m i k : Nat) (last : Int), i ≤ l.length → l.length - i < m → k ≤ but.length → but.drop k = outs σ i (l.drop i) → DL91_1 n m l but last (k : Int) (i : Int) = some (rises σ i last (l.drop i))
  | 0, i, _, _, _, h, _, _ => by omega
  | m + 1, i, k, last, hi, h, hk, hd => by
    have hbl : but.length ≤ 8 := by rw [hb]; have := outs_len σ 0 l; omega
    rw [DL91_1_succ]
    unfold DF91_1 DL91_2
    by_cases hlt : i < l.length
    · have hw : wr .i64 ((i : Int) + 1) = ((i + 1 : Nat) : Int) := by rw [wr_ok (by omega) (by omega)]; omega
      have hwk : wr .i64 ((k : Int) + 1) = ((k + 1 : Nat) : Int) := by rw [wr_ok (by omega) (by omega)]; omega
      rw [show decide ((i : Int) < (l.length : Int)) = true by simpa using hlt, cond_true, hw, hwk, idx_nat hlt]
      simp only [Option.bind_some]
      rw [drop_cons hlt] at hd ⊢
      simp only [outs] at hd
      simp only [rises]
      by_cases hbit : Nat.testBit σ i = true
      · rw [if_pos hbit] at hd ⊢
        have hklt : k < but.length := by
          rcases Nat.lt_or_ge k but.length with h1 | h1
          · exact h1
          · rw [List.drop_eq_nil_of_le h1] at hd; cases hd
        rw [drop_cons hklt] at hd
        injection hd with hd1 hd2
        rw [show decide ((k : Int) < (but.length : Int)) = true by simpa using hklt, idx_nat hklt, hd1]
        simp only [show (true == true) = true from rfl, cond_true, Option.bind_some, beq_self_eq_true]
        exact rising_loop n h8 hb m (i + 1) (k + 1) last hlt (by omega) hklt hd2
      · rw [if_neg hbit] at hd ⊢
        have hno : (bif (decide ((k : Int) < (but.length : Int)) == true) then (idx but (k : Int)).bind fun x1' => some (x1' == (i : Int)) else some false) = some false := by
          by_cases hklt : k < but.length
          · rw [show decide ((k : Int) < (but.length : Int)) = true by simpa using hklt, idx_nat hklt]
            simp only [show (true == true) = true from rfl, cond_true, Option.bind_some]
            rw [drop_cons hklt] at hd
            have hm : but[k] ∈ outs σ (i + 1) (l.drop (i + 1)) := by rw [← hd]; exact List.mem_cons_self
            have := (outs_mem _ _ _ hm).1
            rw [show (but[k] == (i : Int)) = false by rw [beq_eq_false_iff_ne]; omega]
          · rw [show decide ((k : Int) < (but.length : Int)) = false by simpa using hklt]
            rfl
        rw [hno]
        simp only [Option.bind_some, cond_false]
        by_cases hlast : l[i].1 < last
        · rw [decide_eq_true hlast, cond_true, decide_eq_false (show ¬ last ≤ l[i].1 by omega), Bool.false_and]
        · rw [decide_eq_false hlast, cond_false, decide_eq_true (show last ≤ l[i].1 by omega), Bool.true_and]
          exact rising_loop n h8 hb m (i + 1) k l[i].1 hlt (by omega) hk hd
    · have : i = l.length := by omega
      subst this
      rw [show decide ((l.length : Int) < (l.length : Int)) = false by simp, cond_false, List.drop_length]
      rfl

noncomputable def risB (l : List Src) (x : List Int) : Bool := (D91 N4 l x).getD false
theorem rising_eq {l : List Src} (h8 : l.length ≤ 8) (σ : Nat) : D91 N4 l (outs σ 0 l) = some (rises σ 0 0 l) := by
  have := rising_loop N4 h8 (σ := σ) rfl N4.1 0 0 0 (by omega) (by show _ < 100000000000000000000; omega) (by omega) (by simp)
  unfold D91
  simp only [Int.natCast_zero, List.drop_zero] at this
  exact this
theorem risB_eq {l : List Src} (h8 : l.length ≤ 8) (σ : Nat) : risB l (outs σ 0 l) = rises σ 0 0 l := by
  unfold risB
  rw [rising_eq h8]
  rfl

/-- One number of sources: its choices, in their order. -/
theorem find_loop {l : List Src} (f1 : List Src → Int → Option R45) (many : Int) {c : List (List Int)} (hc : c.length < 1000) (hr : ∀ x ∈ c, D91 N4 l x = some (risB l x)) : ∀ (m i : Nat), i ≤ c.length → c.length - i < m → DL45_2 N4 f1 m l many (i : Int) c = match (c.drop i).find? (risB l) with
    | some x => some (x, 0)
    | none => f1 l (wr .i64 (many + 1))
  | 0, i, _, h => by omega
  | m + 1, i, hi, h => by
    rw [DL45_2_succ]
    unfold DF45_2
    by_cases hlt : i < c.length
    · have hin : inB (i : Int) c.length = true := by simp [inB]; omega
      rw [show decide ((i : Int) < (c.length : Int)) = true by simpa using hlt, cond_true, hin, cond_true, cond_true, idx_nat hlt, drop_cons hlt, List.find?_cons]
      simp only [Option.bind_some]
      rw [hr c[i] (List.getElem_mem hlt), show wr .i64 ((i : Int) + 1) = ((i + 1 : Nat) : Int) by rw [wr_ok (by omega) (by omega)]; omega]
      simp only [Option.bind_some]
      cases hp : risB l c[i] with
      | true => rfl
      | false => exact find_loop f1 many hc hr m (i + 1) hlt (by omega)
    · have : i = c.length := by omega
      subst this
      rw [show decide ((c.length : Int) < (c.length : Int)) = false by simp, cond_false, List.drop_length]
      rfl

theorem all_loop {l : List Src} (h1 : 1 ≤ l.length) (h8 : l.length ≤ 8) (hr : ∀ x ∈ allc l.length l.length, D91 N4 l x = some (risB l x)) (hs : ∀ k, k < l.length → (D90 N4 (l.length : Int) (k : Int) []).isSome = true ∧ (chs l.length k).length < 1000) : ∀ (m d : Nat), d ≤ l.length → d < m → (∀ x ∈ allc l.length d, D91 N4 l x = some (risB l x)) → DL45_1 N4 m l ((l.length - d : Nat) : Int) = match (allc l.length d).find? (risB l) with
    | some x => some (x, 0)
    | none => some ([], 0)
  | 0, d, _, h, _ => by omega
  | m + 1, d, hd, h, hx => by
    rw [DL45_1_succ]
    unfold DF45_1
    match d, hd, h, hx with
    | 0, _, _, _ =>
      rw [Nat.sub_zero, show decide ((l.length : Int) < (l.length : Int)) = false by simp, cond_false]
      rfl
    | d + 1, hd, h, hx =>
      obtain ⟨s1, s2⟩ := hs (l.length - (d + 1)) (by omega)
      have hch : D90 N4 (l.length : Int) ((l.length - (d + 1) : Nat) : Int) [] = some (chs l.length (l.length - (d + 1))) := by
        unfold chs
        cases ho : D90 N4 (l.length : Int) ((l.length - (d + 1) : Nat) : Int) [] with
        | none => rw [ho] at s1; cases s1
        | some v => rfl
      rw [show decide (((l.length - (d + 1) : Nat) : Int) < (l.length : Int)) = true by rw [decide_eq_true_eq]; omega, cond_true, hch]
      simp only [Option.bind_some]
      have hf := find_loop (l := l) (DL45_1 N4 m) ((l.length - (d + 1) : Nat) : Int) s2 (fun x hx' => hx x (by unfold allc; exact List.mem_append.2 (.inl hx'))) N4.1 0 (by omega) (by show _ < 100000000000000000000; omega)
      rw [Int.natCast_zero, List.drop_zero] at hf
      rw [hf, show wr .i64 (((l.length - (d + 1) : Nat) : Int) + 1) = ((l.length - d : Nat) : Int) by rw [wr_ok (by omega) (by omega)]; omega, allc, List.find?_append]
      have ih := all_loop h1 h8 hr hs m d (by omega) (by omega) (fun x hx' => hx x (by unfold allc; exact List.mem_append.2 (.inr hx')))
      rw [ih]
      cases (chs l.length (l.length - (d + 1))).find? (risB l) with
      | some x => rfl
      | none => rfl

theorem testBit_all {L i : Nat} (h : i < L) : Nat.testBit (2 ^ L - 1) i = true := by
  rw [Nat.testBit_two_pow_sub_one, decide_eq_true h]

theorem outs_full {σ : Nat} : ∀ (k : Nat) (l : List Src), (∀ i, k ≤ i → i < k + l.length → Nat.testBit σ i = true) → (outs σ k l).length = l.length
  | _, [], _ => rfl
  | k, s :: r, h => by
    have h0 := h k (Nat.le_refl _) (by simp)
    simp only [outs, if_pos h0, List.length_cons]
    rw [outs_full (k + 1) r fun i h1 h2 => h i (by omega) (by simp; omega)]

/-- All but the first source struck. -/
theorem but_first {l : List Src} (hg : Good l) : rises (2 ^ l.length - 2) 0 0 l = true ∧ (outs (2 ^ l.length - 2) 0 l).length + 1 = l.length := by
  have h1 := hg.pos
  have hb : ∀ i, 1 ≤ i → i < l.length → Nat.testBit (2 ^ l.length - 2) i = true := by
    intro i hi hl
    obtain ⟨L, hL⟩ : ∃ L, l.length = L + 1 := ⟨l.length - 1, by omega⟩
    obtain ⟨j, hj⟩ : ∃ j, i = j + 1 := ⟨i - 1, by omega⟩
    have e : 2 ^ l.length - 2 = 2 * (2 ^ L - 1) := by rw [hL, Nat.pow_succ]; omega
    rw [e, hj, Nat.testBit_succ, Nat.mul_div_cancel_left _ (by omega)]
    exact testBit_all (by omega)
  have h0 : Nat.testBit (2 ^ l.length - 2) 0 = false := by
    obtain ⟨L, hL⟩ : ∃ L, l.length = L + 1 := ⟨l.length - 1, by omega⟩
    have e : 2 ^ l.length - 2 = 2 * (2 ^ L - 1) := by rw [hL, Nat.pow_succ]; omega
    rw [e, Nat.testBit_zero]
    simp
  match l, h1, hb, h0, hg with
  | s :: r, _, hb, h0, hg =>
    have hs := hg.all s (by simp)
    have hall : ∀ i, 0 + 1 ≤ i → i < 0 + 1 + r.length → Nat.testBit (2 ^ (s :: r).length - 2) i = true := fun i a b => hb i (by omega) (by simp; omega)
    constructor
    · simp only [rises, h0, Bool.false_eq_true, if_false, decide_eq_true hs.1, Bool.true_and]
      have : ∀ (k : Nat) (last : Int) (q : List Src), (∀ i, k ≤ i → i < k + q.length → Nat.testBit (2 ^ (s :: r).length - 2) i = true) → rises (2 ^ (s :: r).length - 2) k last q = true := by
        intro k last q
        induction q generalizing k last with
        | nil => intro _; rfl
        | cons x q ih =>
          intro hq
          simp only [rises, hq k (Nat.le_refl _) (by simp), if_true]
          exact ih (k + 1) last fun i a b => hq i (by omega) (by simp; omega)
      exact this _ _ _ hall
    · simp only [outs, h0, Bool.false_eq_true, if_false]
      rw [outs_full (0 + 1) r hall]
      simp

/-- The reference's wrong sources are the program's. -/
theorem wrongr_eq {l : List Src} (hg : Good l) : D45 N4 l = some ((Rn l (2 ^ l.length)).2, 0) := by
  have h1 := hg.pos
  have h8 := hg.le
  have ok := ok_all h1 h8
  unfold okL at ok
  simp only [Bool.and_eq_true] at ok
  obtain ⟨⟨⟨⟨o1, o2⟩, o3⟩, o4⟩, o5⟩ := ok
  have hmem : ∀ x ∈ allc l.length l.length, ∃ σ, σ < 2 ^ l.length ∧ x = outs σ 0 l := by
    intro x hx
    have := List.all_eq_true.1 o2 x hx
    simp only [Bool.and_eq_true, decide_eq_true_eq] at this
    exact ⟨mkN x, this.1, by rw [outs_L]; exact same_iff _ _ this.2⟩
  have hr : ∀ x ∈ allc l.length l.length, D91 N4 l x = some (risB l x) := by
    intro x hx
    obtain ⟨σ, _, rfl⟩ := hmem x hx
    rw [rising_eq h8, risB_eq h8]
  have hs : ∀ k, k < l.length → (D90 N4 (l.length : Int) (k : Int) []).isSome = true ∧ (chs l.length k).length < 1000 := fun k hk =>
    ⟨List.all_eq_true.1 o1 k (List.mem_range.2 hk), by simpa using List.all_eq_true.1 o5 k (List.mem_range.2 (by omega))⟩
  have hall := all_loop h1 h8 hr hs N4.1 l.length (Nat.le_refl _) (by show _ < 100000000000000000000; omega) hr
  rw [Nat.sub_self, Int.natCast_zero] at hall
  -- the program's best
  have hp : 2 ≤ 2 ^ l.length := by
    have : 2 ^ 1 ≤ 2 ^ l.length := Nat.pow_le_pow_right (by omega) h1
    omega
  obtain ⟨b1, b2⟩ := but_first hg
  obtain ⟨sp1, _, sp3⟩ := Rn_spec l (2 ^ l.length)
  obtain ⟨c1, c2⟩ := sp3 _ (by omega) b1
  obtain ⟨σ, s1, s2, s3⟩ := sp1 c1
  have hmin := Rn_min h8 (2 ^ l.length)
  rw [s3] at hmin c2 ⊢
  have hne : σ ≠ 2 ^ l.length - 1 := by
    rintro rfl
    rw [outs_full 0 l fun i _ hi => testBit_all (by omega)] at c2
    omega
  have hin : outs σ 0 l ∈ allc l.length l.length := by
    have := List.all_eq_true.1 o4 σ (List.mem_range.2 (by omega))
    rw [outs_L]
    exact isIn_mem _ _ this
  have hfind : (allc l.length l.length).find? (risB l) = some (outs σ 0 l) := by
    cases hA : allc l.length l.length with
    | nil => rw [hA] at hin; simp at hin
    | cons x r =>
      rw [hA] at o3 hin
      have hleast : ∀ z ∈ x :: r, risB l z = true → key (outs σ 0 l) ≤ key z := by
        intro z hz hzp
        rw [← hA] at hz
        obtain ⟨τ, t1, rfl⟩ := hmem z hz
        rw [risB_eq h8] at hzp
        exact hmin τ t1 hzp
      have hpσ : risB l (outs σ 0 l) = true := by rw [risB_eq h8]; exact s2
      rw [List.find?_cons]
      simp only at o3
      have hlt := keyed_lt (key x) r o3
      cases hx : risB l x with
      | true =>
        have h2 := hleast x (by simp) hx
        rcases List.mem_cons.1 hin with e | hin
        · rw [e]
        · have := hlt _ hin
          omega
      | false =>
        rcases List.mem_cons.1 hin with e | hin
        · rw [← e, hpσ] at hx; cases hx
        · exact first_least (key x) r o3 _ hin hpσ fun z hz => hleast z (by simp [hz])
  unfold D45
  rw [chkr_eq (n := N4) (by decide), good_chk hg]
  simp only [Option.bind_some, bne_self_eq_false, cond_false]
  rw [hall, hfind]

end Go.Proofs.Ytombednapelokaa
