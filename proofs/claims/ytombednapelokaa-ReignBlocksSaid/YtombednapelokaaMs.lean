/- Reign: plain laws: sources by numbers, copies, proper values; a year more. -/
import Derived.Test.YtombednapelokaaMr
import Derived.Test.YtombednapelokaaViW
set_option linter.unusedVariables false
set_option linter.unusedSimpArgs false
namespace Go.Proofs.Ytombednapelokaa
open Go.Vi
/-! ### Sources by numbers -/
theorem tmod_rng {a b : Int} (ha : 0 ≤ a) (hb : 0 < b) : 0 ≤ Int.tmod a b ∧ Int.tmod a b < b := ⟨Int.tmod_nonneg _ ha, Int.tmod_lt_of_pos _ hb⟩
theorem idx_mem {α : Type} {l : List α} {i : Int} (h0 : 0 ≤ i) (h : i < l.length) : ∃ x ∈ l, idx l i = some x := by
  obtain ⟨k, rfl⟩ := Int.eq_ofNat_of_zero_le h0
  exact ⟨l[k]'(by omega), List.getElem_mem _, idx_nat (by omega)⟩
theorem made_loop (n : Nat × Nat) {y : Int} (hy : 0 ≤ y ∧ y ≤ 100) {cnt : Int} (hc : cnt ≤ 8) {a0 a1 a2 a3 a4 a5 a6 a7 a8 a9 a10 a11 a12 a13 a14 a15 a16 : Int} (hY : ∀ x ∈ [a1, a2, a3, a4, a5, a6, a7, a8], 0 ≤ x ∧ x ≤ 255) (hT : ∀ x ∈ [a9, a10, a11, a12, a13, a14, a15, a16], 0 ≤ x ∧ x ≤ 255) : ∀ (m k : Nat) (out : List Src), (k : Int) ≤ cnt → cnt - k < m → out.length = k →
    (∀ s ∈ out, 0 ≤ s.1 ∧ s.1 ≤ y ∧ 1 ≤ s.2 ∧ s.2 ≤ 9) → ∃ l, (l.length : Int) = cnt ∧ (∀ s ∈ l, 0 ≤ s.1 ∧ s.1 ≤ y ∧ 1 ≤ s.2 ∧ s.2 ≤ 9) ∧ DL47_1 n m y cnt (k : Int) a0 a1 a2 a3 a4 a5 a6 a7 a8 a9 a10 a11 a12 a13 a14 a15 a16 out = some l
  | 0, k, out, _, h, _, _ => by omega
  | m + 1, k, out, hk, h, hl, ho => by
    rw [DL47_1_succ]
    unfold DF47_1
    by_cases hlt : (k : Int) < cnt
    · obtain ⟨x, hx, ex⟩ := idx_mem (l := [a1, a2, a3, a4, a5, a6, a7, a8]) (i := (k : Int)) (by omega) (by simp; omega)
      obtain ⟨z, hz, ez⟩ := idx_mem (l := [a9, a10, a11, a12, a13, a14, a15, a16]) (i := (k : Int)) (by omega) (by simp; omega)
      have hx' := hY x hx
      have hz' := hT z hz
      have hin : inB (k : Int) 8 = true := by simp [inB]; omega
      rw [decide_eq_true hlt, cond_true, hin, cond_true, ex]
      simp only [Option.bind_some, cond_true]
      rw [wr_ok (x := y + 1) (by omega) (by omega), show ((y + 1) == 0) = false by simp; omega, cond_false, ez]
      simp only [Option.bind_some]
      rw [wr_ok (x := x) (by omega) (by omega), wr_ok (x := z) (by omega) (by omega), show ((9 : Nat) == 0) = false from rfl, cond_false]
      have t1 := tmod_rng hx'.1 (show 0 < y + 1 by omega)
      have t2 := tmod_rng hz'.1 (show (0 : Int) < 9 by omega)
      rw [wr_ok (x := 1 + Int.tmod z 9) (by omega) (by omega), wr_ok (x := (k : Int) + 1) (by omega) (by omega), show decide (out.length + [(Int.tmod x (y + 1), 1 + Int.tmod z 9)].length ≤ lim) = true by simp [lim]; omega, cond_true]
      have := made_loop n hy hc hY hT (a0 := a0) m (k + 1) (out ++ [(Int.tmod x (y + 1), 1 + Int.tmod z 9)]) (by omega) (by omega) (by simp [hl]) (fun s hs => by
        rcases List.mem_append.1 hs with hs | hs
        · exact ho s hs
        · rw [List.mem_singleton.1 hs]
          simp only
          omega)
      rw [show ((k + 1 : Nat) : Int) = (k : Int) + 1 by omega] at this
      exact this
    · rw [decide_eq_false hlt, cond_false]
      exact ⟨out, by omega, ho, rfl⟩
abbrev ShA : Sh := .pair (.int .u8) (.pair (.pair (.int .u8) (.pair (.int .u8) (.pair (.int .u8) (.pair (.int .u8) (.pair (.int .u8) (.pair (.int .u8) (.pair (.int .u8) (.int .u8)))))))) (.pair (.int .u8) (.pair (.int .u8) (.pair (.int .u8) (.pair (.int .u8) (.pair (.int .u8) (.pair (.int .u8) (.pair (.int .u8) (.int .u8)))))))))
theorem u8_rng {x : Int} (h : (Lit.int .u8 x).wf = true) : 0 ≤ x ∧ x ≤ 255 := by
  simpa [Lit.wf, IntKind.min, IntKind.max, IntKind.signed, IntKind.bits] using h
theorem made_eq {n : Nat × Nat} (hn : 100 ≤ n.1) (a : ShA.den) (ha : Wf ShA a) {many y : Int} (hm : 1 ≤ many ∧ many ≤ 8) (hy : 0 ≤ y ∧ y ≤ 100) : ∃ l, Good l ∧ (l.length : Int) ≤ many ∧ (∀ s ∈ l, s.1 ≤ y) ∧ D47 n a many y = some l := by
  simp only [Wf] at ha
  obtain ⟨h0, ⟨h1, h2, h3, h4, h5, h6, h7, h8⟩, h9, h10, h11, h12, h13, h14, h15, h16⟩ := ha
  have u0 := u8_rng h0
  have t := tmod_rng u0.1 (show 0 < many by omega)
  unfold D47
  rw [show (many == 0) = false by simp; omega, cond_false, wr_ok (x := a.1) (by omega) (by omega), wr_ok (x := 1 + Int.tmod a.1 many) (by omega) (by omega)]
  obtain ⟨l, e1, e2, e3⟩ := made_loop n hy (cnt := 1 + Int.tmod a.1 many) (by omega) (a0 := a.1) (a1 := a.2.1.1) (a2 := a.2.1.2.1) (a3 := a.2.1.2.2.1) (a4 := a.2.1.2.2.2.1) (a5 := a.2.1.2.2.2.2.1) (a6 := a.2.1.2.2.2.2.2.1) (a7 := a.2.1.2.2.2.2.2.2.1) (a8 := a.2.1.2.2.2.2.2.2.2)
    (a9 := a.2.2.1) (a10 := a.2.2.2.1) (a11 := a.2.2.2.2.1) (a12 := a.2.2.2.2.2.1) (a13 := a.2.2.2.2.2.2.1) (a14 := a.2.2.2.2.2.2.2.1) (a15 := a.2.2.2.2.2.2.2.2.1) (a16 := a.2.2.2.2.2.2.2.2.2) (by
      intro x hx
      simp only [List.mem_cons, List.not_mem_nil, or_false] at hx
      rcases hx with rfl | rfl | rfl | rfl | rfl | rfl | rfl | rfl
      · exact u8_rng h1
      · exact u8_rng h2
      · exact u8_rng h3
      · exact u8_rng h4
      · exact u8_rng h5
      · exact u8_rng h6
      · exact u8_rng h7
      · exact u8_rng h8) (by
      intro x hx
      simp only [List.mem_cons, List.not_mem_nil, or_false] at hx
      rcases hx with rfl | rfl | rfl | rfl | rfl | rfl | rfl | rfl
      · exact u8_rng h9
      · exact u8_rng h10
      · exact u8_rng h11
      · exact u8_rng h12
      · exact u8_rng h13
      · exact u8_rng h14
      · exact u8_rng h15
      · exact u8_rng h16) n.1 0 [] (by omega) (by omega) rfl (by simp)
  refine ⟨l, ⟨by omega, by omega, fun s hs => ?_⟩, by omega, fun s hs => (e2 s hs).2.1, e3⟩
  have := e2 s hs
  omega
/-! ### Proper values -/
structure Val (f : Frc) : Prop where
  fr : Fr f
  le : f.1 ≤ 100 * f.2
theorem common_loop (n : Nat × Nat) : ∀ (m : Nat) (a b : Nat), b < m → DL49_1 n m (a : Int) (b : Int) = some ((Nat.gcd a b : Nat) : Int)
  | 0, a, b, h => by omega
  | m + 1, a, b, h => by
    rw [DL49_1_succ]
    unfold DF49_1
    by_cases hb : b = 0
    · subst hb
      simp
    · have h1 : (((b : Int)) != 0) = true := by simpa using hb
      have h2 : (((b : Int)) == 0) = false := by simpa using hb
      rw [h1, cond_true, h2, cond_false]
      have := common_loop n m b (a % b) (by have := Nat.mod_lt a (Nat.pos_of_ne_zero hb); omega)
      rw [show Int.tmod (a : Int) (b : Int) = ((a % b : Nat) : Int) from rfl, this]
      congr 2
      rw [Nat.gcd_comm a b, Nat.gcd_rec b a, Nat.gcd_comm]
theorem common_eq {n : Nat × Nat} {a b : Nat} (hb : b < n.1) (h1 : a ≤ 9223372036854775807) (h2 : b ≤ 9223372036854775807) : D49 n (a : Int) (b : Int) = some ((Nat.gcd a b : Nat) : Int) := by
  unfold D49
  have e1 : (if (wr .i64 (0 - (a : Int))) > (a : Int) then (wr .i64 (0 - (a : Int))) else (a : Int)) = (a : Int) := by
    rw [wr_ok (by omega) (by omega)]
    split <;> omega
  have e2 : (if (wr .i64 (0 - (b : Int))) > (b : Int) then (wr .i64 (0 - (b : Int))) else (b : Int)) = (b : Int) := by
    rw [wr_ok (by omega) (by omega)]
    split <;> omega
  rw [e1, e2]
  exact common_loop n n.1 a b hb
theorem proper_eq {n : Nat × Nat} (hn : 100 ≤ n.1) {f : Frc} (h : Val f) : D92 n f = some false := by
  have h1 := h.fr.dp
  have h2 := h.fr.dl
  have h3 := h.fr.np
  have h4 := h.le
  obtain ⟨p, q⟩ := f
  simp only at h1 h2 h3 h4
  obtain ⟨p, rfl⟩ := Int.eq_ofNat_of_zero_le h3
  obtain ⟨q, rfl⟩ := Int.eq_ofNat_of_zero_le (Int.le_of_lt h1)
  have hc : Nat.gcd p q = 1 := h.fr.cop
  unfold D92 D53
  rw [wr_ok (x := 0 * (q : Int)) (by omega) (by omega), wr_ok (x := 100 * (q : Int)) (by omega) (by omega), common_eq (by omega) (by omega) (by omega), hc]
  rw [decide_eq_true (show (q : Int) > 0 by omega), decide_eq_true (show (q : Int) ≤ 72 by omega), decide_eq_true (show (p : Int) ≥ 0 * (q : Int) by omega), decide_eq_true (show (p : Int) ≤ 100 * (q : Int) by omega)]
  rfl
theorem anyp_loop {n : Nat × Nat} (hn : 100 ≤ n.1) {v : List Frc} (hv : ∀ f ∈ v, Val f) (hl : v.length ≤ 1000) : ∀ (m k : Nat), k ≤ v.length → v.length - k < m → DL106c92_1 n m v (v.length : Int) (k : Int) = some (-1)
  | 0, k, _, h => by omega
  | m + 1, k, hk, h => by
    rw [DL106c92_1_succ]
    unfold DF106c92_1
    by_cases hlt : k < v.length
    · have hw : wr .i64 ((k : Int) + 1) = ((k + 1 : Nat) : Int) := by rw [wr_ok (by omega) (by omega)]; omega
      rw [show decide ((k : Int) < (v.length : Int)) = true by simpa using hlt, cond_true, idx_nat hlt]
      simp only [Option.bind_some, proper_eq hn (hv _ (List.getElem_mem hlt)), hw, cond_false]
      exact anyp_loop hn hv hl m (k + 1) hlt (by omega)
    · rw [show decide ((k : Int) < (v.length : Int)) = false by simpa using hlt, cond_false]
theorem many_eq {n : Nat × Nat} (hn : 2000 ≤ n.1) {v : List Frc} (hv : ∀ f ∈ v, Val f) (hl : v.length ≤ 1000) {c : Int} (hc : c = v.length) : D48 n v c = some true := by
  subst hc
  unfold D48 D85c92 D106c92
  have := anyp_loop (n := n) (by omega) hv hl n.1 0 (by omega) (by omega)
  simp only [Int.natCast_zero] at this
  rw [this]
  simp
theorem Mx_Val {l : List Src} (ho : Ok l) {a c : Nat} (h : a < c) (hc : c ≤ l.length) : Val (Mx l a c) := by
  refine ⟨Mx_Fr ho h hc, ?_⟩
  have hle : ∀ (s : List Src), (∀ x ∈ s, 0 ≤ x.1 ∧ x.1 ≤ 100 ∧ 1 ≤ x.2 ∧ x.2 ≤ 9) → ysum s ≤ 100 * tsum s := by
    intro s
    induction s with
    | nil => intro _; simp [ysum]
    | cons x r ih =>
      intro hs
      have hx := hs x (by simp)
      have := ih fun y hy => hs y (List.mem_cons_of_mem _ hy)
      have h3 := Nat.mul_le_mul_right x.2.toNat (show x.1.toNat ≤ 100 by omega)
      simp only [ysum, tsum]
      omega
  have h1 := hle _ ((ho.take c).drop a).2
  obtain ⟨e1, e2⟩ := seg_sums l (Nat.le_of_lt h)
  obtain ⟨g, hg, f1, f2⟩ := Mx_eq ho h hc
  have h2 : (Mx l a c).1 * g ≤ 100 * (Mx l a c).2 * g := by
    rw [Int.mul_assoc, ← f1, ← f2]
    omega
  exact Int.le_of_mul_le_mul_right h2 hg
/-! ### A year more -/
/-- If a year becomes greater no nearest value becomes smaller. -/
theorem more_le {l l' : List Src} (ho : Ok l) (ho' : Ok l') (hlen : l'.length = l.length) (hs : ∀ {a c : Nat}, a ≤ c → Yk l c - Yk l a ≤ Yk l' c - Yk l' a ∧ Tk l' c - Tk l' a = Tk l c - Tk l a) {K K' : List (Nat × Nat)} (hK : Blk l K l.length) (hK' : Blk l' K' l'.length)
    {x y : Nat × Nat} (hx : x ∈ K) (hy : y ∈ K') {i : Nat} (h1 : x.1 ≤ i) (h2 : i < x.2) (h3 : y.1 ≤ i) (h4 : i < y.2) : fle (Mx l x.1 x.2) (Mx l' y.1 y.2) := by
  have rx := hK.ch.rng x hx
  have ry := hK'.ch.rng y hy
  have Fx := Mx_Fr ho rx.1 rx.2
  have Fy := Mx_Fr ho' ry.1 ry.2
  have g1 := hK.glob ho (Nat.le_refl _) x hx y.2 (by omega)
  have g2 := hK'.glob ho' (Nat.le_refl _) y hy x.1 (by omega)
  have g3 := dv_mean ho' ry.1 ry.2
  have g4 := dv_add l' (Mx l' y.1 y.2) y.1 x.1 y.2
  have hab : x.1 < y.2 := by omega
  have u1 : fle (Mx l x.1 x.2) (Mx l' x.1 y.2) := by
    rw [fle_mean ho' hab ry.2]
    unfold dv at g1 ⊢
    obtain ⟨s1, s2⟩ := hs (Nat.le_of_lt hab)
    rw [s2]
    have := Int.mul_le_mul_of_nonneg_left s1 (Int.le_of_lt Fx.dp)
    omega
  have u2 : fle (Mx l' x.1 y.2) (Mx l' y.1 y.2) := by
    rw [mean_fle ho' hab ry.2]
    omega
  exact fle_trans Fx.dp (Mx_Fr ho' hab ry.2).dp Fy.dp u1 u2
end Go.Proofs.Ytombednapelokaa
