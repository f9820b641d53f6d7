/- Texts of this claim, joined: Cm to Cn. -/
import Derived.Test.YtjgmfdgpgdaclaaP7
/-
  Coins by numbers; few coins; the first best payment; purses.
-/
set_option linter.unusedVariables false
set_option linter.unusedSimpArgs false
namespace Go.Proofs.Ytjgmfdgpgdaclaa
open Go.Vi

theorem u8_rng {x : Int} (h : (Lit.int .u8 x).wf = true) : 0 ≤ x ∧ x ≤ 255 := by
  simpa [Lit.wf, IntKind.min, IntKind.max, IntKind.signed, IntKind.bits] using h

/-- Coins so far, none above a number. -/
structure Mv (most : Int) (cs : List Int) : Prop where
  pos : 0 < cs.length
  rng : ∀ c ∈ cs, 1 ≤ c ∧ c ≤ most
  inc : cs.Pairwise (· < ·)
  one : cs.headD 0 = 1
theorem Mv.vld {most : Int} {cs : List Int} (h : Mv most cs) (hl : cs.length ≤ 6) (hm : most ≤ 40) : Vld cs := ⟨h.pos, hl, fun c hc => by have := h.rng c hc; omega, h.inc, h.one⟩
theorem made_loop (n : Nat × Nat) (most : Int) (hm2 : 2 ≤ most) (hm : most ≤ 40) (v : List Int) (hv : ∀ x ∈ v, 0 ≤ x ∧ x ≤ 255) (hvl : v.length ≤ 5) : ∀ (m k : Nat) (out : List Int), k ≤ v.length → v.length - k < m → Mv most out → out.length + (v.length - k) ≤ 10 →
    ∃ cs : List Int, DL43_1 n m most v (v.length : Int) (k : Int) out = some cs ∧ Mv most cs ∧ cs.length ≤ out.length + (v.length - k)
  | 0, k, out, _, h, _, _ => by omega
  | m + 1, k, out, hk, h, ho, hol => by
    rw [DL43_1_succ]
    unfold DF43_1
    by_cases hlt : k < v.length
    · have hx := hv v[k] (List.getElem_mem _)
      have hp := ho.pos
      have hll : out.length - 1 < out.length := by omega
      have hlr := ho.rng out[out.length - 1] (List.getElem_mem _)
      rw [decide_eq_true (show (k : Int) < (v.length : Int) by omega), cond_true, idx_nat hlt]
      simp only [Option.bind_some]
      rw [show wr .i64 ((out.length : Int) - 1) = ((out.length - 1 : Nat) : Int) by rw [wr_ok (by omega) (by omega)]; omega, inB_nat hll, cond_true, idx_nat hll]
      simp only [Option.bind_some]
      rw [show ((2 : Nat) == 0) = false from rfl, cond_false, Int.tdiv_eq_ediv_of_nonneg (by omega), wr_ok (x := most / 2) (by omega) (by omega), show (most / 2 == 0) = false by simpa using (show most / 2 ≠ 0 by omega), cond_false]
      rw [wr_ok (x := v[k]) (by omega) (by omega), Int.tmod_eq_emod_of_nonneg hx.1]
      have e1 := Int.emod_nonneg v[k] (show most / 2 ≠ 0 by omega)
      have e2 := Int.emod_lt_of_pos v[k] (show 0 < most / 2 by omega)
      generalize v[k] % (most / 2) = y at *
      generalize hd : out[out.length - 1] = d at *
      rw [wr_ok (x := d + 1) (by omega) (by omega), wr_ok (x := d + 1 + y) (by omega) (by omega)]
      have ih := made_loop n most hm2 hm v hv hvl m (k + 1)
      rw [show ((k + 1 : Nat) : Int) = wr .i64 ((k : Int) + 1) by rw [wr_ok (by omega) (by omega)]; omega] at ih
      by_cases hle : d + 1 + y ≤ most
      · rw [decide_eq_true hle, cond_true, decide_eq_true (show out.length + [d + 1 + y].length ≤ lim by simp [lim]; omega), cond_true]
        simp only [DL43_2]
        have hmv : Mv most (out ++ [d + 1 + y]) := by
          refine ⟨by simp, fun c hc => ?_, ?_, ?_⟩
          · rcases List.mem_append.1 hc with hc | hc
            · exact ho.rng c hc
            · simp at hc; omega
          · rw [List.pairwise_append]
            refine ⟨ho.inc, by simp, fun a ha b hb => ?_⟩
            simp at hb
            obtain ⟨j, hj, rfl⟩ := List.getElem_of_mem ha
            by_cases e : j = out.length - 1
            · subst e; omega
            · have := List.pairwise_iff_getElem.1 ho.inc j (out.length - 1) hj hll (by omega)
              omega
          · have := ho.one
            cases out with
            | nil => simp at hp
            | cons a l => exact this
        obtain ⟨cs, a, b, c⟩ := ih (out ++ [d + 1 + y]) (by omega) (by omega) hmv (by simp; omega)
        exact ⟨cs, a, b, by simp at c; omega⟩
      · rw [decide_eq_false hle, cond_false]
        simp only [DL43_2]
        obtain ⟨cs, a, b, c⟩ := ih out (by omega) (by omega) ho (by omega)
        exact ⟨cs, a, b, by omega⟩
    · rw [decide_eq_false (show ¬ (k : Int) < (v.length : Int) by omega), cond_false]
      exact ⟨out, rfl, ho, by omega⟩

theorem made_eq {n : Nat × Nat} (hn : 1000 ≤ n.1) {m0 : Int × Int × Int × Int × Int × Int} (h : Wf (.pair (.int .u8) (.pair (.int .u8) (.pair (.int .u8) (.pair (.int .u8) (.pair (.int .u8) (.int .u8)))))) m0) {many most : Int} (hy1 : 1 ≤ many) (hy2 : many ≤ 6) (hm1 : 2 ≤ most) (hm2 : most ≤ 40) :
    ∃ cs : List Int, D43 n m0 many most = some cs ∧ Vld cs ∧ (cs.length : Int) ≤ many ∧ ∀ c ∈ cs, c ≤ most := by
  obtain ⟨a, b, c, d, e, f⟩ := m0
  have u8 : ∀ {x : Int}, Wf (.int .u8) x → 0 ≤ x ∧ x ≤ 255 := fun {x} hx => u8_rng hx
  obtain ⟨ha, hb, hc, hd, he, hf⟩ := h
  have ha := u8 ha
  have hb := u8 hb
  have hc := u8 hc
  have hd := u8 hd
  have he := u8 he
  have hf := u8 hf
  unfold D43
  rw [show (many == 0) = false by simpa using (show many ≠ 0 by omega), cond_false, wr_ok (x := a) (by omega) (by omega), Int.tmod_eq_emod_of_nonneg ha.1]
  have e1 := Int.emod_nonneg a (show many ≠ 0 by omega)
  have e2 := Int.emod_lt_of_pos a (show 0 < many by omega)
  generalize a % many = r at *
  obtain ⟨k, rfl⟩ := Int.eq_ofNat_of_zero_le e1
  rw [show bounds none (some (k : Int)) none 5 = true by simp [bounds]; omega, cond_true, Int.toNat_natCast]
  have hl : ([b, c, d, e, f].take k).length ≤ 5 := by simp; omega
  have hll : ([b, c, d, e, f].take k).length ≤ k := by simp; omega
  obtain ⟨cs, g1, g2, g3⟩ := made_loop n most hm1 hm2 ([b, c, d, e, f].take k) (fun x hx => by
    have := List.mem_of_mem_take hx
    simp only [List.mem_cons, List.not_mem_nil, or_false] at this
    simp only at hb hc hd he hf
    omega) hl n.1 0 [1] (by omega) (by omega) ⟨by simp, by simp; omega, by simp, rfl⟩ (by simp; omega)
  simp only [List.length_singleton] at g3
  exact ⟨cs, g1, g2.vld (by omega) hm2, by omega, fun c hc => (g2.rng c hc).2⟩

noncomputable def fewS (cs : List Int) (s : Int) : Int × Int := if smd cs s ≠ 0 then (0, smd cs s) else (opt cs s, 0)
theorem fewS_eq {n : Nat × Nat} (hn : 1000 ≤ n.1) (cs : List Int) (s : Int) : D18 n cs s = some (fewS cs s) := by
  unfold D18 fewS
  rw [smd_eq hn]
  simp only [Option.bind_some]
  by_cases h : smd cs s = 0
  · obtain ⟨hv, h0, h1⟩ := smd_zero h
    rw [show (smd cs s != 0) = false by simp [h], cond_false, if_neg (by simpa using h)]
    obtain ⟨s', rfl⟩ := Int.eq_ofNat_of_zero_le h0
    rw [few_eq hn hv s' (by omega)]
    simp only [Option.bind_some]
    have hsl : s' < (ftab cs s').length := by rw [ftab_length]; omega
    rw [inB_nat hsl, cond_true, idx_nat hsl, ftab_get]
    rfl
  · rw [show (smd cs s != 0) = true by simpa using h, cond_true, if_pos h]
noncomputable def grS (cs : List Int) (s : Int) : List Int × Int := if smd cs s ≠ 0 then ([], smd cs s) else ((gr cs s).1, 0)
theorem grS_eq {n : Nat × Nat} (hn : 1000 ≤ n.1) (cs : List Int) (s : Int) : D22 n cs s = some (grS cs s) := by
  unfold D22 grS
  rw [smd_eq hn]
  simp only [Option.bind_some]
  by_cases h : smd cs s = 0
  · obtain ⟨hv, h0, h1⟩ := smd_zero h
    rw [show (smd cs s != 0) = false by simp [h], cond_false, if_neg (by simpa using h), great_eq hv h0 (by omega)]
    rfl
  · rw [show (smd cs s != 0) = true by simpa using h, cond_true, if_pos h]
theorem rgrS_eq {n : Nat × Nat} (hn : 1000 ≤ n.1) (cs : List Int) (s : Int) : D23 n cs s = some (grS cs s) := by
  unfold D23 grS
  rw [smdr_eq hn]
  simp only [Option.bind_some]
  by_cases h : smd cs s = 0
  · obtain ⟨hv, h0, h1⟩ := smd_zero h
    rw [show (smd cs s != 0) = false by simp [h], cond_false, if_neg (by simpa using h), rgreat_eq hn hv h0 (by omega)]
    rfl
  · rw [show (smd cs s != 0) = true by simpa using h, cond_true, if_pos h]

/-- Lists that are the same. -/
theorem same_loop (n : Nat × Nat) (a b : List Int) (hab : a.length = b.length) (hl : a.length ≤ 100) : ∀ (m i : Nat), i ≤ a.length → a.length - i < m → DL24_1 n m a b (i : Int) = some (decide (a.drop i = b.drop i))
  | 0, i, _, h => by omega
  | m + 1, i, hi, h => by
    rw [DL24_1_succ]
    unfold DF24_1
    by_cases hlt : i < a.length
    · rw [decide_eq_true (show (i : Int) < (a.length : Int) by omega), cond_true, idx_nat hlt, idx_nat (show i < b.length by omega), drop_cons hlt, drop_cons (show i < b.length by omega)]
      simp only [Option.bind_some]
      have ih := same_loop n a b hab hl m (i + 1) (by omega) (by omega)
      rw [show ((i + 1 : Nat) : Int) = wr .i64 ((i : Int) + 1) by rw [wr_ok (by omega) (by omega)]; omega] at ih
      by_cases e : a[i] = b[i]
      · rw [show (a[i] != b[i]) = false by simp [e], cond_false, ih]
        congr 1
        rw [e]
        by_cases e2 : a.drop (i + 1) = b.drop (i + 1)
        · rw [decide_eq_true e2, decide_eq_true (by rw [e2])]
        · rw [decide_eq_false e2, decide_eq_false (fun h => e2 (List.cons.inj h).2)]
      · rw [show (a[i] != b[i]) = true by simpa using e, cond_true]
        congr 1
        symm
        exact decide_eq_false fun h => e (List.cons.inj h).1
    · rw [decide_eq_false (show ¬ (i : Int) < (a.length : Int) by omega), cond_false, List.drop_of_length_le (by omega), List.drop_of_length_le (by omega)]
      simp
theorem same_eq {n : Nat × Nat} (hn : 1000 ≤ n.1) (a b : List Int) (hl : a.length ≤ 100) : D24 n a b = some (decide (a = b)) := by
  unfold D24
  by_cases h : a.length = b.length
  · rw [show ((a.length : Int) != (b.length : Int)) = false by simp [h], cond_false]
    have := same_loop n a b h hl n.1 0 (by omega) (by omega)
    simpa using this
  · rw [show ((a.length : Int) != (b.length : Int)) = true by simpa using (show ¬ (a.length : Int) = (b.length : Int) by omega), cond_true]
    congr 1
    symm
    exact decide_eq_false fun e => h (by rw [e])

/-! ### Payments with so many coins -/
theorem PayU.snoc {d : Int} : ∀ {l : List Int} {s : Int} {p : List Int}, PayU (l ++ [d]) s p ↔ ∃ q n, p = q ++ [n] ∧ 0 ≤ n ∧ PayU l (s - n * d) q
  | [], s, p => by
    constructor
    · rintro ⟨n, p', rfl, h0, h1, rfl⟩
      exact ⟨[], n, rfl, h0, h1, rfl⟩
    · rintro ⟨q, n, rfl, h0, h1, rfl⟩
      exact ⟨n, [], rfl, h0, h1, rfl⟩
  | c :: l, s, p => by
    constructor
    · rintro ⟨n, p', rfl, h0, h1⟩
      obtain ⟨q, m, rfl, h2, h3⟩ := PayU.snoc.1 h1
      exact ⟨n :: q, m, rfl, h2, n, q, rfl, h0, by rwa [show s - m * d - n * c = s - n * c - m * d by omega]⟩
    · rintro ⟨q, m, rfl, h2, n, q', rfl, h0, h3⟩
      exact ⟨n, q' ++ [m], rfl, h0, PayU.snoc.2 ⟨q', m, rfl, h2, by rwa [show s - n * c - m * d = s - m * d - n * c by omega]⟩⟩
theorem tot_snoc (l : List Int) (n : Int) : tot (l ++ [n]) = tot l + n := by
  induction l with
  | nil => simp [tot]
  | cons a l ih => simp only [List.cons_append, tot]; omega
def Ex (l : List Int) (s m : Int) : Prop := ∃ p, PayU l s p ∧ tot p = m
theorem Ex.bd {l : List Int} (hp : ∀ c ∈ l, 1 ≤ c) {s m : Int} (h : Ex l s m) : 0 ≤ m ∧ m ≤ s := by
  obtain ⟨p, h1, h2⟩ := h
  have := PayU.sum hp h1
  omega
theorem Ex.snoc {l : List Int} {d s m : Int} : Ex (l ++ [d]) s m ↔ ∃ n, 0 ≤ n ∧ Ex l (s - n * d) (m - n) := by
  constructor
  · rintro ⟨p, h1, h2⟩
    obtain ⟨q, n, rfl, h3, h4⟩ := PayU.snoc.1 h1
    rw [tot_snoc] at h2
    exact ⟨n, h3, q, h4, by omega⟩
  · rintro ⟨n, h3, q, h4, h5⟩
    exact ⟨q ++ [n], PayU.snoc.2 ⟨q, n, rfl, h3, h4⟩, by rw [tot_snoc]; omega⟩
theorem Ex.cons {l : List Int} {d s m : Int} : Ex (d :: l) s m ↔ ∃ n, 0 ≤ n ∧ Ex l (s - n * d) (m - n) := by
  constructor
  · rintro ⟨p, ⟨n, q, rfl, h3, h4⟩, h2⟩
    simp only [tot] at h2
    exact ⟨n, h3, q, h4, by omega⟩
  · rintro ⟨n, h3, q, h4, h5⟩
    exact ⟨n :: q, ⟨n, q, rfl, h3, h4⟩, by simp only [tot]; omega⟩
open Classical in
theorem paid_loop (n : Nat × Nat) {l : List Int} {d : Int} (hp : ∀ c ∈ l, 1 ≤ c) (hd : 1 ≤ d) (hd2 : d ≤ 40) (hl : l.length ≤ 6) (SS : List Int → Int → Int → Option R60) (s m : Int) (hs : s ≤ 1000) (hs0 : -100000 ≤ s) (hm : m ≤ 1000) (hm0 : 0 ≤ m) (hSS : ∀ x y, -100000 ≤ x → x ≤ 1000 → 0 ≤ y → y ≤ 1000 → SS l x y = some (decide (Ex l x y))) :
    ∀ (f : Nat) (k : Nat), (k : Int) ≤ m + 1 → m + 1 - k < f → (∀ j : Int, 0 ≤ j → j < k → ¬ Ex l (s - j * d) (m - j)) → DL60_1 n SS f (l ++ [d]) s m (l.length : Int) (k : Int) = some (decide (Ex (l ++ [d]) s m))
  | 0, k, _, h, _ => by omega
  | f + 1, k, hk, h, hno => by
    rw [DL60_1_succ]
    unfold DF60_1
    have none_of : (∀ j : Int, 0 ≤ j → ¬ Ex l (s - j * d) (m - j)) → decide (Ex (l ++ [d]) s m) = false := fun hh => decide_eq_false fun e => by
      obtain ⟨j, h1, h2⟩ := Ex.snoc.1 e
      exact hh j h1 h2
    have hlt : l.length < (l ++ [d]).length := by simp
    have hg : (l ++ [d])[l.length] = d := by simp
    by_cases hkm : (k : Int) ≤ m
    · rw [decide_eq_true hkm, show (true == true) = true from rfl, cond_true, idx_nat hlt, hg]
      simp only [Option.bind_some]
      have hkd : (k : Int) * 1 ≤ (k : Int) * d := Int.mul_le_mul_of_nonneg_left hd (by omega)
      have hkd2 : (k : Int) * d ≤ 1000 * 40 := Int.mul_le_mul (by omega) hd2 (by omega) (by omega)
      rw [wr_ok (x := (k : Int) * d) (by omega) (by omega)]
      by_cases hks : (k : Int) * d ≤ s
      · rw [decide_eq_true hks, cond_true, show bounds none (some (l.length : Int)) none (l ++ [d]).length = true by simp [bounds]; omega, cond_true]
        rw [wr_ok (x := s - (k : Int) * d) (by omega) (by omega), wr_ok (x := m - (k : Int)) (by omega) (by omega), Int.toNat_natCast, List.take_left, hSS _ _ (by omega) (by omega) (by omega) (by omega)]
        simp only [Option.bind_some]
        by_cases he : Ex l (s - (k : Int) * d) (m - (k : Int))
        · rw [decide_eq_true he, cond_true]
          congr 1
          symm
          exact decide_eq_true (Ex.snoc.2 ⟨k, by omega, he⟩)
        · rw [decide_eq_false he, cond_false]
          have ih := paid_loop n hp hd hd2 hl SS s m hs hs0 hm hm0 hSS f (k + 1) (by omega) (by omega) (fun j h1 h2 => by
            by_cases e : j = k
            · subst e; exact he
            · exact hno j h1 (by omega))
          rw [show ((k + 1 : Nat) : Int) = wr .i64 ((k : Int) + 1) by rw [wr_ok (by omega) (by omega)]; omega] at ih
          exact ih
      · rw [decide_eq_false hks, cond_false]
        congr 1
        symm
        refine none_of fun j h1 h2 => ?_
        by_cases hj : j < k
        · exact hno j h1 hj h2
        · have := h2.bd hp
          have : (k : Int) * d ≤ j * d := Int.mul_le_mul_of_nonneg_right (by omega) (by omega)
          omega
    · rw [decide_eq_false hkm, show (false == true) = false from rfl, cond_false]
      simp only [Option.bind_some, cond_false]
      congr 1
      symm
      refine none_of fun j h1 h2 => ?_
      by_cases hj : j < k
      · exact hno j h1 hj h2
      · have := h2.bd hp
        omega
open Classical in
theorem paid_eq (n : Nat × Nat) (hn : 2000 ≤ n.1) : ∀ (D : Nat) {cs : List Int}, (∀ c ∈ cs, 1 ≤ c ∧ c ≤ 40) → cs.length < D → cs.length ≤ 6 → ∀ {s m : Int}, -100000 ≤ s → s ≤ 1000 → 0 ≤ m → m ≤ 1000 → DT60 n D cs s m = some (decide (Ex cs s m))
  | 0, cs, _, h, _, s, m, _, _, _, _ => by omega
  | D + 1, cs, hr, hD, h6, s, m, s0, s1, m0, m1 => by
    rw [DT60_succ]
    unfold DB60
    by_cases h0 : cs.length = 0
    · have : cs = [] := List.eq_nil_of_length_eq_zero h0
      subst this
      rw [show ((([] : List Int).length : Int) == 0) = true from rfl, cond_true]
      have he : Ex [] s m ↔ s = 0 ∧ m = 0 := by
        constructor
        · rintro ⟨p, ⟨h1, rfl⟩, h2⟩
          exact ⟨h1, h2.symm⟩
        · rintro ⟨h1, h2⟩
          exact ⟨[], ⟨h1, rfl⟩, h2.symm⟩
      by_cases hs : s = 0
      · by_cases hm : m = 0
        · rw [decide_eq_true (he.2 ⟨hs, hm⟩)]; simp [hs, hm]
        · rw [decide_eq_false (fun h => hm (he.1 h).2), show (m == 0) = false by simpa using hm, show (s == 0) = true by simpa using hs]; rfl
      · rw [decide_eq_false (fun h => hs (he.1 h).1), show (s == 0) = false by simpa using hs]; rfl
    · rw [show ((cs.length : Int) == 0) = false by simpa using h0, cond_false]
      obtain ⟨l, x, rfl⟩ : ∃ l x, cs = l ++ [x] := ⟨cs.dropLast, cs.getLast (by intro e; rw [e] at h0; simp at h0), (List.dropLast_concat_getLast _).symm⟩
      simp only [List.length_append, List.length_singleton] at hD h6
      have hx := hr x (by simp)
      have := paid_loop n (l := l) (d := x) (fun c hc => (hr c (by simp [hc])).1) hx.1 hx.2 (by omega) (DT60 n D) s m s1 s0 m1 m0 (fun y z y0 y1 z0 z1 => paid_eq n hn D (fun c hc => hr c (by simp [hc])) (by omega) (by omega) y0 y1 z0 z1) n.1 0 (by omega) (by omega) (fun j h1 h2 => by omega)
      rw [show wr .i64 (((l ++ [x]).length : Int) - 1) = (l.length : Int) by rw [wr_ok (by simp only [List.length_append, List.length_singleton]; omega) (by simp only [List.length_append, List.length_singleton]; omega)]; simp]
      exact this

/-- The first payment with so many coins. -/
def Lf (l : List Int) (s m : Int) (p : List Int) : Prop := PayU l s p ∧ tot p = m ∧ ∀ p', PayU l s p' → tot p' = m → Lx p p'
open Classical in
theorem first_in (n : Nat × Nat) (hn : 2000 ≤ n.1) {cs : List Int} (hv : Vld cs) (f1 : List Int → Int → Int → List Int → Int → Int → List Int → Option R20) (i : Nat) (hi : i < cs.length) (s m : Int) (hs0 : 0 ≤ s) (hs1 : s ≤ 200) (hm0 : 0 ≤ m) (hm1 : m ≤ 200) (he : Ex (cs.drop i) s m) (v25 : List Int) (v26 v27 : Int) (out : List Int) (hol : out.length ≤ 10) :
    ∀ (f k : Nat), (k : Int) ≤ m → m - k < f → (∀ j : Int, 0 ≤ j → j < k → ¬ Ex (cs.drop (i + 1)) (s - j * cs[i]) (m - j)) →
    ∃ k' : Int, 0 ≤ k' ∧ k' ≤ m ∧ Ex (cs.drop (i + 1)) (s - k' * cs[i]) (m - k') ∧ (∀ j : Int, 0 ≤ j → j < k' → ¬ Ex (cs.drop (i + 1)) (s - j * cs[i]) (m - j)) ∧
      DL20_2 n f1 f cs s m cs[i] (cs.drop (i + 1)) (k : Int) v25 v26 v27 out = f1 cs (s - k' * cs[i]) (m - k') v25 v26 (wr .i64 (v27 + 1)) (out ++ [k'])
  | 0, k, _, h, _ => by omega
  | f + 1, k, hk, h, hno => by
    have hl := hv.len
    rw [DL20_2_succ]
    unfold DF20_2
    have hc := hv.rng cs[i] (List.getElem_mem _)
    have hkd : (k : Int) * 1 ≤ (k : Int) * cs[i] := Int.mul_le_mul_of_nonneg_left hc.1 (by omega)
    have hkd2 : (k : Int) * cs[i] ≤ 200 * 40 := Int.mul_le_mul (by omega) hc.2 (by omega) (by omega)
    have hfin : (¬ ((k : Int) < m ∧ ¬ Ex (cs.drop (i + 1)) (s - (k : Int) * cs[i]) (m - (k : Int)))) → ∃ k' : Int, 0 ≤ k' ∧ k' ≤ m ∧ Ex (cs.drop (i + 1)) (s - k' * cs[i]) (m - k') ∧ (∀ j : Int, 0 ≤ j → j < k' → ¬ Ex (cs.drop (i + 1)) (s - j * cs[i]) (m - j)) ∧
        (bif decide (out.length + [(k : Int)].length ≤ lim) then f1 cs (wr .i64 (s - (wr .i64 ((k : Int) * cs[i])))) (wr .i64 (m - (k : Int))) v25 v26 (wr .i64 (v27 + 1)) (out ++ [(k : Int)]) else none) = f1 cs (s - k' * cs[i]) (m - k') v25 v26 (wr .i64 (v27 + 1)) (out ++ [k']) := fun hh => by
      have hex : Ex (cs.drop (i + 1)) (s - (k : Int) * cs[i]) (m - (k : Int)) := by
        rw [drop_cons hi] at he
        obtain ⟨j, j0, j1⟩ := Ex.cons.1 he
        have hb := j1.bd (fun c hc => (hv.rng c (List.mem_of_mem_drop hc)).1)
        by_cases h1 : (k : Int) < m
        · exact Classical.byContradiction fun h2 => hh ⟨h1, h2⟩
        · by_cases h3 : j < k
          · exact absurd j1 (hno j j0 h3)
          · have : j = k := by omega
            subst this
            exact j1
      refine ⟨k, by omega, hk, hex, hno, ?_⟩
      rw [decide_eq_true (by simp [lim]; omega), cond_true, wr_ok (x := (k : Int) * cs[i]) (by omega) (by omega), wr_ok (x := s - (k : Int) * cs[i]) (by omega) (by omega), wr_ok (x := m - (k : Int)) (by omega) (by omega)]
    by_cases hkm : (k : Int) < m
    · rw [decide_eq_true hkm, show (true == true) = true from rfl, cond_true]
      have hpd := paid_eq n hn n.1 (cs := cs.drop (i + 1)) (fun c hc => hv.rng c (List.mem_of_mem_drop hc)) (by simp; omega) (by simp; omega) (s := s - (k : Int) * cs[i]) (m := m - (k : Int)) (by omega) (by omega) (by omega) (by omega)
      have hpd2 : D60 n (cs.drop (i + 1)) (wr .i64 (s - (wr .i64 ((k : Int) * cs[i])))) (wr .i64 (m - (k : Int))) = some (decide (Ex (cs.drop (i + 1)) (s - (k : Int) * cs[i]) (m - (k : Int)))) := by
        rw [wr_ok (x := (k : Int) * cs[i]) (by omega) (by omega), wr_ok (x := s - (k : Int) * cs[i]) (by omega) (by omega), wr_ok (x := m - (k : Int)) (by omega) (by omega)]
        exact hpd
      rw [hpd2]
      simp only [Option.bind_some]
      by_cases hex : Ex (cs.drop (i + 1)) (s - (k : Int) * cs[i]) (m - (k : Int))
      · simp only [decide_eq_true hex, Bool.not_true, cond_false]
        exact hfin (fun h => h.2 hex)
      · simp only [decide_eq_false hex, Bool.not_false, cond_true]
        have ih := first_in n hn hv f1 i hi s m hs0 hs1 hm0 hm1 he v25 v26 v27 out hol f (k + 1) (by omega) (by omega) (fun j h1 h2 => by
          by_cases e : j = k
          · subst e; exact hex
          · exact hno j h1 (by omega))
        rw [show ((k + 1 : Nat) : Int) = wr .i64 ((k : Int) + 1) by rw [wr_ok (by omega) (by omega)]; omega] at ih
        exact ih
    · rw [decide_eq_false hkm, show (false == true) = false from rfl, cond_false]
      simp only [Option.bind_some, cond_false]
      exact hfin (fun h => hkm h.1)
theorem first_out (n : Nat × Nat) (hn : 2000 ≤ n.1) {cs : List Int} (hv : Vld cs) : ∀ (f i : Nat) (s m : Int) (out : List Int), i ≤ cs.length → cs.length - i < f → 0 ≤ s → s ≤ 200 → 0 ≤ m → m ≤ 200 → Ex (cs.drop i) s m → out.length = i →
    ∃ p, Lf (cs.drop i) s m p ∧ DL20_1 n f cs s m cs (cs.length : Int) (i : Int) out = some (out ++ p, 0)
  | 0, i, s, m, out, _, h, _, _, _, _, _, _ => by omega
  | f + 1, i, s, m, out, hi, h, s0, s1, m0, m1, he, hol => by
    have hl := hv.len
    rw [DL20_1_succ]
    unfold DF20_1
    by_cases hlt : i < cs.length
    · rw [decide_eq_true (show (i : Int) < (cs.length : Int) by omega), cond_true, idx_nat hlt]
      simp only [Option.bind_some]
      have hw : wr .i64 ((i : Int) + 1) = ((i + 1 : Nat) : Int) := by rw [wr_ok (by omega) (by omega)]; omega
      rw [hw, show bounds (some ((i + 1 : Nat) : Int)) none none cs.length = true by simp [bounds]; omega, cond_true, Int.toNat_natCast]
      obtain ⟨k, k0, k1, k2, k3, k4⟩ := first_in n hn hv (DL20_1 n f) i hlt s m s0 s1 m0 m1 he cs (cs.length : Int) (i : Int) out (by omega) n.1 0 (by omega) (by omega) (fun j h1 h2 => by omega)
      rw [show ((0 : Nat) : Int) = 0 from rfl] at k4
      have hb := k2.bd (fun c hc => (hv.rng c (List.mem_of_mem_drop hc)).1)
      have hc := hv.rng cs[i] (List.getElem_mem _)
      have hkc := Int.mul_nonneg k0 (show 0 ≤ cs[i] by omega)
      obtain ⟨p, p1, p2⟩ := first_out n hn hv f (i + 1) (s - k * cs[i]) (m - k) (out ++ [k]) (by omega) (by omega) (by omega) (by omega) (by omega) (by omega) k2 (by simp [hol])
      refine ⟨k :: p, ?_, ?_⟩
      · rw [drop_cons hlt]
        refine ⟨⟨k, p, rfl, k0, p1.1⟩, by have := p1.2.1; simp only [tot]; omega, ?_⟩
        rintro p' ⟨k', q, rfl, h1, h2⟩ h3
        simp only [tot] at h3
        by_cases e : k' < k
        · exact absurd ⟨q, h2, by omega⟩ (k3 k' h1 e)
        · by_cases e2 : k' = k
          · subst e2
            exact .inr ⟨rfl, p1.2.2 q h2 (by omega)⟩
          · exact .inl (by omega)
      · rw [k4, hw, p2]
        simp
    · obtain rfl : i = cs.length := by omega
      rw [decide_eq_false (show ¬ (cs.length : Int) < (cs.length : Int) by omega), cond_false]
      rw [List.drop_of_length_le (Nat.le_refl _)] at he ⊢
      obtain ⟨p, ⟨h1, rfl⟩, h2⟩ := he
      exact ⟨[], ⟨⟨h1, rfl⟩, h2, fun p' h3 _ => by rw [h3.2]; exact Lx.refl _⟩, by simp⟩
theorem first_eq {n : Nat × Nat} (hn : 2000 ≤ n.1) (cs : List Int) (s : Int) : (smd cs s ≠ 0 ∧ D20 n cs s = some ([], smd cs s)) ∨ (smd cs s = 0 ∧ ∃ p, D20 n cs s = some (p, 0) ∧ IsBst (PayU cs s) p) := by
  unfold D20
  rw [smd_eq (by omega)]
  simp only [Option.bind_some]
  by_cases h : smd cs s = 0
  · obtain ⟨hv, h0, h1⟩ := smd_zero h
    right
    refine ⟨h, ?_⟩
    rw [show (smd cs s != 0) = false by simp [h], cond_false]
    obtain ⟨s', rfl⟩ := Int.eq_ofNat_of_zero_le h0
    rw [few_eq (by omega) hv s' (by omega)]
    simp only [Option.bind_some]
    have hsl : s' < (ftab cs s').length := by rw [ftab_length]; omega
    rw [inB_nat hsl, cond_true, idx_nat hsl, ftab_get]
    simp only [Option.bind_some]
    have hl := hv.len
    have o1 := opt_nonneg hv.mnt h0
    have o2 := opt_self hv.mnt h0
    obtain ⟨p, p1, p2⟩ := first_out n hn hv n.1 0 s' (opt cs s') [] (by omega) (by omega) h0 h1 o1 (by omega) (opt_pay hv.mnt h0) rfl
    refine ⟨p, by simpa using p2, p1.1, fun p' h' => ?_⟩
    have h4 := opt_pay_le hv.mnt h'
    have h5 := p1.2.1
    by_cases e : tot p' = opt cs s'
    · exact .inr ⟨by omega, p1.2.2 p' h' e⟩
    · exact .inl (by omega)
  · left
    exact ⟨h, by rw [show (smd cs s != 0) = true by simpa using h, cond_true]⟩
end Go.Proofs.Ytjgmfdgpgdaclaa
/-
  Coins: what the laws share.
-/
set_option linter.unusedVariables false
set_option linter.unusedSimpArgs false
namespace Go.Proofs.Ytjgmfdgpgdaclaa
open Go.Vi

abbrev ShM : Sh := .pair (.int .u8) (.pair (.int .u8) (.pair (.int .u8) (.pair (.int .u8) (.pair (.int .u8) (.int .u8)))))
theorem hN1 : 1000 ≤ N.1 := by decide
theorem hN2 : 2000 ≤ N.1 := by decide
theorem tmod_u8 {x k : Int} (h : 0 ≤ x ∧ x ≤ 255) (hk : 0 < k) : Int.tmod (wr .i64 x) k = x % k ∧ 0 ≤ x % k ∧ x % k < k := by
  rw [wr_ok (by omega) (by omega), Int.tmod_eq_emod_of_nonneg h.1]
  exact ⟨rfl, Int.emod_nonneg x (by omega), Int.emod_lt_of_pos x hk⟩
theorem inB_last {cs : List Int} (h : 0 < cs.length) (hl : cs.length ≤ 100) : inB (wr .i64 ((cs.length : Int) - 1)) cs.length = true := by
  rw [show wr .i64 ((cs.length : Int) - 1) = ((cs.length - 1 : Nat) : Int) by rw [wr_ok (by omega) (by omega)]; omega]
  exact inB_nat (by omega)
theorem clone_eq {n : Nat × Nat} {cs : List Int} (h : 0 < cs.length) (hl : cs.length ≤ 100) : D46 n cs = some cs := by
  unfold D46
  cases cs with
  | nil => simp at h
  | cons a l =>
    rw [decide_eq_true (show ([] : List Int).length + (a :: l).length ≤ lim by simp [lim]; simp at hl; omega)]
    rfl
theorem chgL_bd {cs : List Int} {s P : Int} : ∀ (k : Nat) (x pay back : Int), pay + back ≤ P → (pay + back < P ∨ back = 0) → (∀ y, 0 ≤ opt cs y ∨ True) → (chgL cs s k x pay back).1 + (chgL cs s k x pay back).2 ≤ P ∧ ((chgL cs s k x pay back).1 + (chgL cs s k x pay back).2 < P ∨ (chgL cs s k x pay back).2 = 0) ∨ ∃ y, opt cs y < 0
  | 0, x, pay, back, h1, h2, _ => .inl ⟨h1, h2⟩
  | k + 1, x, pay, back, h1, h2, h3 => by
    simp only [chgL]
    split
    · rename_i hc
      by_cases hx : opt cs x < 0
      · exact .inr ⟨x, hx⟩
      · exact chgL_bd k (x + 1) _ _ (by omega) (by omega) h3
    · exact chgL_bd k (x + 1) _ _ h1 h2 h3

/-! ### How far -/
theorem upTo_spec (f : Int → Bool) : ∀ (K : Nat) (s : Int), s ≤ upTo f K s ∧ upTo f K s ≤ s + K ∧ (∀ x, s < x → x ≤ upTo f K s → f x = true) ∧ (upTo f K s < s + K → f (upTo f K s + 1) = false)
  | 0, s => by simp only [upTo]; exact ⟨Int.le_refl s, by omega, fun x h1 h2 => by omega, fun h => by omega⟩
  | K + 1, s => by
    simp only [upTo]
    cases h : f (s + 1) with
    | true =>
      rw [cond_true]
      obtain ⟨a, b, c, d⟩ := upTo_spec f K (s + 1)
      refine ⟨by omega, by omega, fun x h1 h2 => ?_, fun h => d (by omega)⟩
      by_cases e : x = s + 1
      · subst e; exact h
      · exact c x (by omega) h2
    | false =>
      rw [cond_false]
      exact ⟨Int.le_refl s, by omega, fun x h1 h2 => by omega, fun _ => h⟩
theorem upTo_ge (f : Int → Bool) {K : Nat} {v : Int} (h : ∀ x, 0 < x → x ≤ v → f x = true) (hK : v ≤ K) (hv : 0 ≤ v) : v ≤ upTo f K 0 := by
  obtain ⟨a, b, c, d⟩ := upTo_spec f K 0
  refine Int.not_lt.1 fun hlt => ?_
  have := d (by omega)
  rw [h _ (by omega) (by omega)] at this
  cases this
end Go.Proofs.Ytjgmfdgpgdaclaa
