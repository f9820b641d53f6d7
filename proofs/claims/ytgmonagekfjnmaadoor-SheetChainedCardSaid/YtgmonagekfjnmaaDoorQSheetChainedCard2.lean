/- Texts of this claim, joined: Ss to Sy. -/
import Derived.KernelRfl
import Derived.Test.YtgmonagekfjnmaaDoorProg
import Derived.WalkKit
import Derived.Test.YtgmonagekfjnmaaDoorQSheetChainedCard1
set_option linter.unusedVariables false
set_option linter.unusedSimpArgs false
namespace Go.Proofs.YtgmonagekfjnmaaDoor
open Go.Vi
theorem usd_app (s : Int) : ∀ (a a' l l' : List Int), a.length = l.length → usd (a ++ a') (l ++ l') s = usd a l s + usd a' l' s
  | [], a', [], l', _ => by simp [usd]
  | p :: a, a', x :: l, l', h => by
    simp only [List.cons_append, usd]
    rw [usd_app s a a' l l' (by simpa using h)]
    omega
  | [], _, _ :: _, _, h => by simp at h
  | _ :: _, _, [], _, h => by simp at h
def okT (sz : Int) (mo : Nat) : List Int → List Int → List Int → Prop
  | _, [], t => t = []
  | L, p :: r, t => ∃ (s : Nat) (t' : List Int), t = (s : Int) :: t' ∧ s ≤ L.length ∧ s < mo ∧ p ≤ rm sz L s ∧ okT sz mo (up sz L s p) r t'
theorem mem_pl {sz : Int} {mo : Nat} : ∀ (r b L q : List Int), q ∈ pl sz mo r b L ↔ ∃ t, q = b ++ t ∧ okT sz mo L r t
  | [], b, L, q => by
    unfold pl okT
    simp
  | p :: r, b, L, q => by
    unfold pl okT
    rw [List.mem_flatMap]
    constructor
    · rintro ⟨s, hs, hq⟩
      have hs := List.mem_range'_1.1 hs
      split at hq
      · rename_i hf
        obtain ⟨t, ht, hk⟩ := (mem_pl r _ _ q).1 hq
        exact ⟨(s : Int) :: t, by rw [ht]; simp, s, t, rfl, by omega, by omega, hf, hk⟩
      · cases hq
    · rintro ⟨t, ht, s, t', rfl, h1, h2, hf, hk⟩
      refine ⟨s, List.mem_range'_1.2 (by omega), ?_⟩
      rw [if_pos hf]
      exact (mem_pl r _ _ q).2 ⟨t', by rw [ht]; simp, hk⟩
theorem okT_iff {sz : Int} {ps : List Int} {mo : Nat} (hj : Job sz ps) : ∀ (r b L t : List Int), Rs sz ps b L → ps.drop b.length = r → (∀ x, usd (ps.take b.length) b x ≤ sz) → mny b ≤ mo → t.length = r.length →
    (okT sz mo L r t ↔ oer (mny b) t = 0 ∧ (∀ x, usd ps (b ++ t) x ≤ sz) ∧ mny (b ++ t) ≤ mo)
  | [], b, L, t, h, hr, hu, hm, ht => by
    have : t = [] := List.length_eq_zero_iff.1 (by simpa using ht)
    subst this
    have hle := h.le
    have hb : b.length = ps.length := by have := List.drop_eq_nil_iff.1 hr; omega
    rw [hb, List.take_length] at hu
    unfold okT oer
    rw [List.append_nil]
    exact ⟨fun _ => ⟨rfl, hu, hm⟩, fun _ => rfl⟩
  | p :: r, b, L, [], h, hr, hu, hm, ht => by simp at ht
  | p :: r, b, L, x :: t, h, hr, hu, hm, ht => by
    have hb : b.length < ps.length := by
      rcases Nat.lt_or_ge b.length ps.length with h | h
      · exact h
      · rw [List.drop_eq_nil_of_le h] at hr; cases hr
    have hp : ps[b.length] = p ∧ ps.drop (b.length + 1) = r := by
      rw [drop_cons hb] at hr
      exact ⟨(List.cons.inj hr).1, (List.cons.inj hr).2⟩
    obtain ⟨hp1, hp2⟩ := hp
    have hlen := h.len
    have hpr := hj.ok _ (List.getElem_mem hb)
    rw [hp1] at hpr
    have hut : ∀ s : Int, usd (ps.take (b.length + 1)) (b ++ [x]) s = usd (ps.take b.length) b s + if x = s then p else 0 := fun s => by
      rw [take_snoc hb, usd_snoc _ _ _ (by simp; omega), hp1]
    have hps : ps = ps.take (b.length + 1) ++ r := by rw [← hp2, List.take_append_drop]
    have hut2 : ∀ s : Int, usd ps (b ++ x :: t) s = usd (ps.take (b.length + 1)) (b ++ [x]) s + usd r t s := fun s => by
      have := usd_app s (ps.take (b.length + 1)) r (b ++ [x]) t (by simp; omega)
      rw [← hps, List.append_assoc, List.singleton_append] at this
      exact this
    have hnn : ∀ s : Int, 0 ≤ usd r t s := fun s => usd_nn (fun q hq => by
      rw [← hp2] at hq
      have := hj.ok q (List.mem_of_mem_drop hq)
      omega)
    have main : ∀ s : Nat, x = (s : Int) → s ≤ L.length → p ≤ rm sz L s → s < mo → (okT sz mo (up sz L s p) r t ↔ oer (mny (b ++ [x])) t = 0 ∧ (∀ y, usd ps ((b ++ [x]) ++ t) y ≤ sz) ∧ mny ((b ++ [x]) ++ t) ≤ mo) := by
      intro s hs h1 hf h2
      subst hs
      have hc := h.child hb h1
      rw [hp1] at hc
      refine okT_iff hj r (b ++ [(s : Int)]) (up sz L s p) t hc (by simp only [List.length_append, List.length_cons, List.length_nil]; exact hp2) (fun y => ?_) (by rw [mny_snoc]; omega) (by simpa using ht)
      rw [List.length_append, List.length_singleton, hut y]
      by_cases e : (s : Int) = y
      · rw [if_pos e, ← e]
        have := h.rm h1
        omega
      · rw [if_neg e]
        have := hu y
        omega
    unfold okT oer
    constructor
    · rintro ⟨s, t', he, h1, h2, hf, hk⟩
      obtain ⟨hx, rfl⟩ := List.cons.inj he
      obtain ⟨m1, m2, m3⟩ := (main s hx h1 hf h2).1 hk
      rw [List.append_assoc, List.singleton_append] at m3
      simp only [List.append_assoc, List.singleton_append] at m2
      rw [if_neg (by omega), if_neg (by omega)]
      rw [mny_snoc] at m1
      exact ⟨m1, m2, m3⟩
    · rintro ⟨m1, m2, m3⟩
      split at m1
      · omega
      · split at m1
        · omega
        · rename_i hx0 hx1
          have hmx : x < mny (b ++ x :: t) := mny_lt (by simp)
          have h1 : x.toNat ≤ L.length := by omega
          have hf : p ≤ rm sz L x.toNat := by
            have e1 := m2 x
            rw [hut2 x, hut x, if_pos rfl] at e1
            have e2 := hnn x
            rw [h.rm h1, show ((x.toNat : Nat) : Int) = x by omega]
            omega
          refine ⟨x.toNat, t, by rw [show ((x.toNat : Nat) : Int) = x by omega], h1, by omega, hf, ?_⟩
          refine (main x.toNat (by omega) h1 hf (by omega)).2 ⟨?_, ?_, ?_⟩
          · rw [mny_snoc]; exact m1
          · simp only [List.append_assoc, List.singleton_append]; exact m2
          · rw [List.append_assoc, List.singleton_append]; exact m3
theorem apl_iff {sz : Int} {ps : List Int} {mo : Nat} (hj : Job sz ps) {q : List Int} : q ∈ apl sz ps mo ↔ Pln sz ps q ∧ mny q ≤ mo := by
  unfold apl
  have hlo := hj.lo
  rw [mem_pl]
  constructor
  · rintro ⟨t, ht, hk⟩
    rw [List.nil_append] at ht
    subst ht
    have hl : q.length = ps.length := apl_qlen (mo := mo) (sz := sz) (by unfold apl; exact (mem_pl ps [] [] q).2 ⟨q, by simp, hk⟩)
    obtain ⟨h1, h2, h3⟩ := (okT_iff hj ps [] [] q (Rs.nil hj) rfl (fun x => by simp [usd]; omega) (by rw [mny_nil]; omega) hl).1 hk
    exact ⟨⟨hj, hl, h1, fun x _ => h2 x⟩, h3⟩
  · rintro ⟨hp, hm⟩
    refine ⟨q, by simp, ?_⟩
    refine (okT_iff hj ps [] [] q (Rs.nil hj) rfl (fun x => by simp [usd]; omega) (by rw [mny_nil]; omega) hp.len).2 ⟨hp.ord, fun x => ?_, hm⟩
    rw [List.nil_append]
    by_cases hx : x ∈ q
    · exact hp.fit x hx
    · rw [usd_none hx]; omega
/-- No plan has fewer sheets. -/
theorem fw_le {sz : Int} {ps q : List Int} (h : Pln sz ps q) : (fw sz ps : Int) ≤ mny q := by
  obtain ⟨h1, h2, h3⟩ := fw_spec h.job
  have h0 := mny_nn q
  by_cases e : (fw sz ps : Int) ≤ mny q
  · exact e
  · have := (apl_iff (mo := (mny q).toNat) h.job).2 ⟨h, by omega⟩
    rw [h3 _ (by omega)] at this
    cases this
/-- The first plan with the fewest sheets. -/
def fst (sz : Int) (ps : List Int) : List Int := (apl sz ps (fw sz ps)).headD []
theorem fst_mem {sz : Int} {ps : List Int} (hj : Job sz ps) : fst sz ps ∈ apl sz ps (fw sz ps) := (head_mem (fw_spec hj).1).2.2
theorem fst_pln {sz : Int} {ps : List Int} (hj : Job sz ps) : Pln sz ps (fst sz ps) := ((apl_iff hj).1 (fst_mem hj)).1
theorem fst_mny {sz : Int} {ps : List Int} (hj : Job sz ps) : mny (fst sz ps) = fw sz ps := fw_mny hj (fst_mem hj)
theorem fsS_eq {sz : Int} {ps : List Int} (hj : Job sz ps) : fsS sz ps = (fst sz ps, 0) := by unfold fsS fst; rw [if_neg (by simpa using chk_job.2 hj)]
theorem fwS_eq {sz : Int} {ps : List Int} (hj : Job sz ps) : fwS sz ps = ((fw sz ps : Int), 0) := by unfold fwS; rw [if_neg (by simpa using chk_job.2 hj)]
/-- A piece's length. -/
def pc (l : List Int) (i : Int) : Int := l.getD i.toNat 0
theorem idx_pc {l : List Int} {i : Int} (h0 : 0 ≤ i) (h1 : i < l.length) : idx l i = some (pc l i) := by
  rw [idx_int (k := i.toNat) (by omega) (by omega)]
  simp [pc, show i.toNat < l.length by omega]
theorem pc_mem {l : List Int} {i : Int} (h0 : 0 ≤ i) (h1 : i < l.length) : pc l i ∈ l := by
  unfold pc
  rw [List.getD_eq_getElem?_getD, List.getElem?_eq_getElem (by omega), Option.getD_some]
  exact List.getElem_mem _
/-- Numbers are put into a list that falls, and numbers one after the other. -/
def insR (c : Int → Int → Bool) (x : Int) : List Int → List Int
  | [] => [x]
  | y :: Q => bif c x y then y :: insR c x Q else x :: y :: Q
def srt (c : Int → Int → Bool) : List Int → List Int → List Int
  | Q, [] => Q
  | Q, x :: r => srt c (insR c x Q) r
theorem insR_perm (c : Int → Int → Bool) (x : Int) : ∀ Q, (insR c x Q).Perm (x :: Q)
  | [] => List.Perm.refl _
  | y :: Q => by
    unfold insR
    cases c x y
    · exact List.Perm.refl _
    · exact (List.Perm.cons y (insR_perm c x Q)).trans (List.Perm.swap x y Q)
theorem insR_len (c : Int → Int → Bool) (x : Int) (Q : List Int) : (insR c x Q).length = Q.length + 1 := (insR_perm c x Q).length_eq
theorem srt_perm (c : Int → Int → Bool) : ∀ r Q, (srt c Q r).Perm (r ++ Q)
  | [], Q => List.Perm.refl _
  | x :: r, Q => by
    unfold srt
    refine (srt_perm c r _).trans (((insR_perm c x Q).append_left r).trans ?_)
    exact List.perm_middle
theorem insR_sort {c : Int → Int → Bool} {R : Int → Int → Prop} (ht : ∀ i j k, R i j → R j k → R i k) {x : Int} : ∀ {Q : List Int}, (∀ y ∈ Q, (c x y = true → R x y) ∧ (c x y = false → R y x)) → Q.Pairwise (fun a b => R b a) → (insR c x Q).Pairwise (fun a b => R b a)
  | [], _, _ => by simp [insR]
  | y :: Q, h, hp => by
    rw [List.pairwise_cons] at hp
    unfold insR
    cases e : c x y
    · rw [cond_false]
      have hy := (h y (by simp)).2 e
      refine List.pairwise_cons.2 ⟨fun z hz => ?_, List.pairwise_cons.2 hp⟩
      rcases List.mem_cons.1 hz with e' | hz
      · subst e'; exact hy
      · exact ht _ _ _ (hp.1 z hz) hy
    · rw [cond_true]
      refine List.pairwise_cons.2 ⟨fun z hz => ?_, insR_sort ht (fun y hy => h y (by simp [hy])) hp.2⟩
      rcases List.mem_cons.1 ((insR_perm c x Q).mem_iff.1 hz) with e' | hz
      · subst e'; exact (h y (by simp)).1 e
      · exact hp.1 z hz
theorem srt_sort {c : Int → Int → Bool} {R : Int → Int → Prop} (ht : ∀ i j k, R i j → R j k → R i k) {P : Int → Prop} (hc : ∀ x y, P x → P y → y < x → (c x y = true → R x y) ∧ (c x y = false → R y x)) : ∀ {r Q : List Int}, (∀ x ∈ r, P x) → (∀ x ∈ Q, P x) → (∀ x ∈ r, ∀ y ∈ Q, y < x) → r.Pairwise (· < ·) → Q.Pairwise (fun a b => R b a) → (srt c Q r).Pairwise (fun a b => R b a)
  | [], Q, _, _, _, _, hQ => hQ
  | x :: r, Q, pr, pQ, hlt, hr, hQ => by
    unfold srt
    rw [List.pairwise_cons] at hr
    refine srt_sort ht hc (fun y hy => pr y (by simp [hy])) (fun y hy => ?_) (fun y hy z hz => ?_) hr.2 (insR_sort ht (fun y hy => hc x y (pr x (by simp)) (pQ y hy) (hlt x (by simp) y hy)) hQ)
    · rcases List.mem_cons.1 ((insR_perm c x Q).mem_iff.1 hy) with e | hy
      · subst e; exact pr y (by simp)
      · exact pQ y hy
    · rcases List.mem_cons.1 ((insR_perm c x Q).mem_iff.1 hz) with e | hz
      · subst e; exact hr.1 y hy
      · exact hlt y (by simp [hy]) z hz
theorem idx_at {α : Type} {A r : List α} {y : α} {k : Nat} (h : A.length = k) : idx (A ++ y :: r) (k : Int) = some y := by
  rw [idx_nat (by simp; omega)]
  simp [← h]
theorem set_at {α : Type} {A r : List α} {y z : α} {k : Nat} (h : A.length = k) : (A ++ y :: r).set k z = A ++ z :: r := by
  subst h
  induction A with
  | nil => rfl
  | cons a A ih => simp only [List.cons_append, List.length_cons, List.set_cons_succ, ih]
def cmf (l : List Int) (x y : Int) : Bool := decide (pc l y < pc l x)
theorem cmpf (n : Nat × Nat) {l : List Int} (hb : ∀ s ∈ l, 1 ≤ s ∧ s ≤ 24) {i j : Int} (hi : 0 ≤ i ∧ i < l.length) (hj : 0 ≤ j ∧ j < l.length) : ∃ r : Int, D97 n i j l = some r ∧ decide (r < 0) = cmf l i j := by
  unfold D97 cmf
  rw [idx_pc hi.1 hi.2, idx_pc hj.1 hj.2]
  have o1 := hb _ (pc_mem hi.1 hi.2)
  have o2 := hb _ (pc_mem hj.1 hj.2)
  refine ⟨pc l j - pc l i, ?_, ?_⟩
  · simp only [Option.bind_some]
    rw [wr_ok (by omega) (by omega)]
  · exact decide_eq_decide.2 (by omega)
theorem inf_loop (n : Nat × Nat) (l : List Int) (hb : ∀ s ∈ l, 1 ≤ s ∧ s ≤ 24) (f : Int → Int → Int → List Int → List Int → Option R105c97io1001) (b i : Int) (x : Int) (hx : 0 ≤ x ∧ x < l.length) : ∀ (m : Nat) (Q T : List Int), Q.length < m → Q.length < 1000 → (∀ y ∈ Q, 0 ≤ y ∧ y < l.length) →
    DL105c97io1001_2 n f m 0 b i (Q.length : Int) (Q.reverse ++ x :: T) l = f 0 b (wr .i64 (i + 1)) ((insR (cmf l) x Q).reverse ++ T) l
  | 0, Q, T, h, _, _ => by omega
  | m + 1, [], T, h, _, hQ => by
    rw [DL105c97io1001_2_succ]
    unfold DF105c97io1001_2
    simp [insR]
  | m + 1, y :: Q, T, h, h8, hQ => by
    rw [DL105c97io1001_2_succ]
    unfold DF105c97io1001_2
    rw [List.length_cons] at h h8
    have hy := hQ y (by simp)
    obtain ⟨r, hr, hd⟩ := cmpf n hb hx hy
    have ih := inf_loop n l hb f b i x hx m Q (y :: T) (by omega) (by omega) (fun z hz => hQ z (by simp [hz]))
    have e : (y :: Q).reverse ++ x :: T = Q.reverse ++ y :: x :: T := by simp
    have w : wr .i64 (((y :: Q).length : Int) - 1) = (Q.length : Int) := by rw [List.length_cons, wr_ok (by omega) (by omega)]; omega
    have a1 : ∀ T' : List Int, idx (Q.reverse ++ y :: x :: T') ((y :: Q).length : Int) = some x := fun T' => by
      have := idx_at (A := Q.reverse ++ [y]) (r := T') (y := x) (k := (y :: Q).length) (by simp)
      simpa using this
    have a2 : ∀ T' : List Int, idx (Q.reverse ++ y :: T') (Q.length : Int) = some y := fun T' => idx_at (by simp)
    have a3 : (Q.reverse ++ y :: x :: T).set (y :: Q).length y = Q.reverse ++ y :: y :: T := by
      have := set_at (A := Q.reverse ++ [y]) (r := T) (y := x) (z := y) (k := (y :: Q).length) (by simp)
      rw [List.append_assoc, List.append_assoc] at this
      exact this
    have a4 : (Q.reverse ++ y :: y :: T).set Q.length x = Q.reverse ++ x :: y :: T := set_at (by simp)
    rw [e]
    rw [decide_eq_true (show (((y :: Q).length : Nat) : Int) > 0 by rw [List.length_cons]; omega), w]
    simp only [beq_self_eq_true, cond_true]
    rw [inB_nat (show (y :: Q).length < (Q.reverse ++ y :: x :: T).length by simp <;> omega), inB_nat (show Q.length < (Q.reverse ++ y :: x :: T).length by simp <;> omega)]
    simp only [cond_true, a1, a2, Option.bind_some, hr, hd]
    unfold insR
    cases cmf l x y
    · simp only [cond_false]
      congr 1
      simp
    · simp only [cond_true]
      rw [Int.toNat_natCast, Int.toNat_natCast, a3, a2, inB_nat (show Q.length < (Q.reverse ++ y :: y :: T).length by simp <;> omega)]
      simp only [cond_true, Option.bind_some, a4, ih]
      congr 1
      simp
theorem sof_loop (n : Nat × Nat) (hn : 1000 ≤ n.1) (l : List Int) (hb : ∀ s ∈ l, 1 ≤ s ∧ s ≤ 24) : ∀ (m : Nat) (r Q : List Int), r.length < m → Q.length + r.length < 900 → (∀ y ∈ Q, 0 ≤ y ∧ y < l.length) → (∀ y ∈ r, 0 ≤ y ∧ y < l.length) →
    DL105c97io1001_1 n m 0 ((Q.length + r.length : Nat) : Int) (Q.length : Int) (Q.reverse ++ r) l = some ((), (srt (cmf l) Q r).reverse, l, ())
  | 0, r, Q, h, _, _, _ => by omega
  | m + 1, [], Q, h, _, _, _ => by
    rw [DL105c97io1001_1_succ]
    unfold DF105c97io1001_1
    rw [dlt_f (by simp), cond_false]
    simp [srt]
  | m + 1, x :: r, Q, h, h8, hQ, hr => by
    rw [DL105c97io1001_1_succ]
    unfold DF105c97io1001_1
    rw [List.length_cons] at h h8
    have ih := sof_loop n hn l hb m r (insR (cmf l) x Q) (by omega) (by rw [insR_len]; omega) (fun y hy => by
      rcases List.mem_cons.1 ((insR_perm _ x Q).mem_iff.1 hy) with e | hy
      · subst e; exact hr y (by simp)
      · exact hQ y hy) (fun y hy => hr y (by simp [hy]))
    rw [dlt_t (by simp), cond_true, inf_loop n l hb _ _ _ x (hr x (by simp)) n.1 Q r (by omega) (by omega) hQ, wr_succ (by omega)]
    rw [insR_len] at ih
    rw [show Q.length + 1 + r.length = Q.length + (x :: r).length by rw [List.length_cons]; omega] at ih
    rw [ih]
    rfl
theorem sortf_eq {n : Nat × Nat} (hn : 1000 ≤ n.1) {l : List Int} (hb : ∀ s ∈ l, 1 ≤ s ∧ s ≤ 24) {r : List Int} (h7 : r.length ≤ 8) (hr : ∀ y ∈ r, 0 ≤ y ∧ y < l.length) : D96c97io11 n r l = some ((), (srt (cmf l) [] r).reverse, l, ()) := by
  have hs5 : D105c97io1001 n r 0 (r.length : Int) l = some ((), (srt (cmf l) [] r).reverse, l, ()) := by
    unfold D105c97io1001
    match r, h7, hr with
    | [], _, _ =>
      have : n.1 = (n.1 - 1) + 1 := by omega
      rw [this, DL105c97io1001_1_succ]
      unfold DF105c97io1001_1
      rw [show wr .i64 ((0 : Int) + 1) = 1 by rw [wr_ok (by omega) (by omega)]; omega]
      rfl
    | x :: r, h7, hr =>
      have := sof_loop n hn l hb n.1 r [x] (by simp at h7; omega) (by simp at h7 ⊢; omega) (fun y hy => by rw [List.mem_singleton] at hy; subst hy; exact hr y (by simp)) (fun y hy => hr y (by simp [hy]))
      rw [show wr .i64 ((0 : Int) + 1) = 1 by rw [wr_ok (by omega) (by omega)]; omega]
      simpa [srt, insR, Nat.add_comm] using this
  have hl : (srt (cmf l) [] r).reverse.length = r.length := by
    rw [List.length_reverse, (srt_perm (cmf l) r []).length_eq]
    simp
  have hs4 : D104c97io101 n r (r.length : Int) l = some ((), (srt (cmf l) [] r).reverse, l, ()) := by
    unfold D104c97io101
    obtain ⟨k, hk⟩ : ∃ k, n.1 = k + 1 := ⟨n.1 - 1, by omega⟩
    rw [hk, DL104c97io101_1_succ]
    unfold DF104c97io101_1
    rw [decide_eq_false (show ¬ (20 : Int) ≤ (r.length : Int) by omega), cond_false, hs5]
    simp only [Option.bind_some]
    rw [show Nat.beq (srt (cmf l) [] r).reverse.length r.length = true by rw [hl]; exact Nat.beq_refl _, cond_true, hk, DL104c97io101_2_succ]
    unfold DF104c97io101_2
    rw [decide_eq_false (show ¬ (20 : Int) < (r.length : Int) by omega), cond_false]
  unfold D96c97io11
  rw [hs4]
  simp only [Option.bind_some]
  rw [show Nat.beq (srt (cmf l) [] r).reverse.length r.length = true by rw [hl]; exact Nat.beq_refl _, cond_true]
/-- The falling order. -/
def fal (ps : List Int) : List Int := (srt (cmf ps) [] ((List.range ps.length).map fun i : Nat => (i : Int))).reverse
theorem fal_loop (n : Nat × Nat) (hn : 1000 ≤ n.1) {ps : List Int} (hb : ∀ s ∈ ps, 1 ≤ s ∧ s ≤ 24) (h8 : ps.length ≤ 8) : ∀ (m k : Nat), k ≤ ps.length → ps.length - k < m →
    DL77_1 n m (ps.length : Int) (k : Int) ps (((List.range k).map fun i : Nat => (i : Int)) ++ List.replicate (ps.length - k) 0) = some (fal ps)
  | 0, k, _, h => by omega
  | m + 1, k, hk, h => by
    rw [DL77_1_succ]
    unfold DF77_1
    by_cases hlt : k < ps.length
    · have hrep : List.replicate (ps.length - k) (0 : Int) = 0 :: List.replicate (ps.length - (k + 1)) 0 := by
        rw [← List.replicate_succ]; congr 1; omega
      have hk2 : ((List.range k).map fun i : Nat => (i : Int)).length = k := by simp
      have e2 : (List.range (k + 1)).map (fun i : Nat => (i : Int)) = ((List.range k).map fun i : Nat => (i : Int)) ++ [(k : Int)] := by
        rw [List.range_succ, List.map_append]; rfl
      rw [dlt_t hlt, cond_true, hrep, inB_nat (by simp), cond_true, idx_at hk2, Option.bind_some, Int.toNat_natCast, set_at hk2, wr_succ (by omega)]
      have ih := fal_loop n hn hb h8 m (k + 1) (by omega) (by omega)
      rw [e2, List.append_assoc, List.singleton_append] at ih
      exact ih
    · have e : k = ps.length := by omega
      subst e
      have hr : ∀ y ∈ (List.range ps.length).map (fun i : Nat => (i : Int)), 0 ≤ y ∧ y < ps.length := fun y hy => by
        obtain ⟨i, hi, rfl⟩ := List.mem_map.1 hy
        have := List.mem_range.1 hi
        omega
      rw [dlt_f hlt, cond_false, Nat.sub_self, List.replicate_zero, List.append_nil, sortf_eq hn hb (by simp; omega) hr, Option.bind_some]
      have hl : (srt (cmf ps) [] ((List.range ps.length).map fun i : Nat => (i : Int))).reverse.length = ((List.range ps.length).map fun i : Nat => (i : Int)).length := by
        rw [List.length_reverse, (srt_perm (cmf ps) _ []).length_eq]
        simp
      rw [show Nat.beq (srt (cmf ps) [] ((List.range ps.length).map fun i : Nat => (i : Int))).reverse.length ((List.range ps.length).map fun i : Nat => (i : Int)).length = true by rw [hl]; exact Nat.beq_refl _, cond_true]
      rfl
theorem fall_eq {n : Nat × Nat} (hn : 1000 ≤ n.1) {ps : List Int} (hb : ∀ s ∈ ps, 1 ≤ s ∧ s ≤ 24) (h8 : ps.length ≤ 8) : D77 n ps = some (fal ps) := by
  unfold D77
  rw [decide_eq_true (show (0 : Int) ≤ (ps.length : Int) by omega), decide_eq_true (show (ps.length : Int) ≤ (ps.length : Int) by omega), decide_eq_true (show (ps.length : Int) ≤ lim by unfold lim; omega), Int.toNat_natCast, List.length_replicate]
  have := fal_loop n hn hb h8 n.1 0 (by omega) (by omega)
  exact this
theorem Fall_eq {n : Nat × Nat} (hn : 1000 ≤ n.1) (sz : Int) (ps : List Int) : D30 n sz ps = some (if chk sz ps ≠ 0 then ([], chk sz ps) else (fal ps, 0)) := by
  unfold D30
  rw [Check_eq hn, Option.bind_some]
  by_cases h : chk sz ps = 0
  · have hj := chk_job.1 h
    rw [h, bne_self_eq_false, cond_false, if_neg (by simp), fall_eq hn (fun s hs => by have := hj.ok s hs; have := hj.hi; omega) hj.len, Option.bind_some]
  · rw [show (chk sz ps != 0) = true by simpa using h, cond_true, if_pos h]
theorem fal_perm (ps : List Int) : (fal ps).Perm ((List.range ps.length).map fun i : Nat => (i : Int)) := by
  unfold fal
  refine (List.reverse_perm _).trans ((srt_perm _ _ []).trans ?_)
  rw [List.append_nil]
/-- The order of the falling order. -/
def Fbf (ps : List Int) (i j : Int) : Prop := pc ps j < pc ps i ∨ pc ps i = pc ps j ∧ i < j
theorem fal_sort (ps : List Int) : (fal ps).Pairwise (Fbf ps) := by
  unfold fal
  rw [List.pairwise_reverse]
  refine srt_sort (R := Fbf ps) (fun i j k h1 h2 => by unfold Fbf at *; omega) (P := fun _ => True) (fun x y _ _ hlt => ?_) (fun _ _ => trivial) (fun _ _ => trivial) (fun _ _ y hy => by cases hy) ?_ List.Pairwise.nil
  · unfold cmf Fbf
    refine ⟨fun h => ?_, fun h => ?_⟩
    · have := of_decide_eq_true h; omega
    · have := of_decide_eq_false h; omega
  · rw [List.pairwise_map]
    exact (List.pairwise_lt_range).imp (fun h => by omega)
end Go.Proofs.YtgmonagekfjnmaaDoor
set_option linter.unusedVariables false
set_option linter.unusedSimpArgs false
set_option maxRecDepth 100000
namespace Go.Proofs.YtgmonagekfjnmaaDoor
open Go.Vi
/-D 41 -/
/-D 88 -/
/-D 43 -/
/-D 45 -/
/-D 47 -/
/-D 6 -/
end Go.Proofs.YtgmonagekfjnmaaDoor
set_option linter.unusedVariables false
set_option linter.unusedSimpArgs false
namespace Go.Proofs.YtgmonagekfjnmaaDoor
open Go.Vi
/-! Bounds. -/
def bal (sz k : Int) : List Int → Int
  | [] => 0
  | p :: r => (if sz - k < p ∨ sz < 2 * p then 1 else 0) + bal sz k r
def blf (sz k : Int) : List Int → Int
  | [] => 0
  | p :: r => (if sz - k < p then 0 else if sz < 2 * p then sz - p else 0) + blf sz k r
def bsm (sz k : Int) : List Int → Int
  | [] => 0
  | p :: r => (if sz - k < p ∨ sz < 2 * p then 0 else if k ≤ p then p else 0) + bsm sz k r
theorem b_rng {sz k : Int} (hs : 1 ≤ sz ∧ sz ≤ 24) : ∀ {l : List Int}, (∀ p ∈ l, 1 ≤ p ∧ p ≤ sz) → 0 ≤ bal sz k l ∧ bal sz k l ≤ l.length ∧ 0 ≤ blf sz k l ∧ blf sz k l ≤ 24 * l.length ∧ 0 ≤ bsm sz k l ∧ bsm sz k l ≤ 24 * l.length
  | [], _ => by simp [bal, blf, bsm]
  | p :: r, h => by
    have h1 := h p (by simp)
    have h2 := b_rng (k := k) hs (l := r) (fun q hq => h q (by simp [hq]))
    simp only [bal, blf, bsm, List.length_cons]
    refine ⟨?_, ?_, ?_, ?_, ?_, ?_⟩ <;> (repeat' split) <;> omega
/-- A bound. -/
def bnd (sz : Int) (ps : List Int) (k : Int) : Int := bal sz k ps + (max (bsm sz k ps - blf sz k ps) 0 + sz - 1) / sz
theorem bound_loop (n : Nat × Nat) {sz k : Int} {ps : List Int} (hj : Job sz ps) (hk : 0 ≤ k ∧ k ≤ 24) : ∀ (m i : Nat) (a o : Int), i ≤ ps.length → ps.length - i < m → 0 ≤ a → a ≤ i → -24 * (i : Int) ≤ o → o ≤ 24 * i →
    DL87_1 n m sz k a o ps (ps.length : Int) (i : Int) = some (a + bal sz k (ps.drop i) + (max (o + bsm sz k (ps.drop i) - blf sz k (ps.drop i)) 0 + sz - 1) / sz)
  | 0, i, a, o, _, h, _, _, _, _ => by omega
  | m + 1, i, a, o, hi, h, ha, ha2, ho, ho2 => by
    have h8 := hj.len
    have hlo := hj.lo
    have hhi := hj.hi
    rw [DL87_1_succ]
    unfold DF87_1
    by_cases hlt : i < ps.length
    · have hp := hj.ok _ (List.getElem_mem hlt)
      rw [dlt_t hlt, cond_true, idx_nat hlt, Option.bind_some, drop_cons hlt]
      unfold DL87_2
      simp only [bal, blf, bsm]
      rw [wr_succ (by omega), wr_ok (x := sz - k) (by omega) (by omega), wr_ok (x := 2 * ps[i]) (by omega) (by omega), wr_ok (x := a + 1) (by omega) (by omega), wr_ok (x := sz - ps[i]) (by omega) (by omega), wr_ok (x := o - (sz - ps[i])) (by omega) (by omega), wr_ok (x := o + ps[i]) (by omega) (by omega)]
      have ih := fun a o h1 h2 h3 h4 => bound_loop n hj hk m (i + 1) a o (by omega) (by omega) h1 h2 h3 h4
      by_cases e1 : sz - k < ps[i]
      · rw [decide_eq_true (show ps[i] > sz - k from e1), cond_true, ih _ _ (by omega) (by omega) (by omega) (by omega), if_pos (.inl e1), if_pos e1, if_pos (.inl e1)]
        congr 2
        · omega
        · congr 2
          omega
      · rw [decide_eq_false (show ¬ ps[i] > sz - k from e1), cond_false, if_neg e1]
        by_cases e2 : sz < 2 * ps[i]
        · rw [decide_eq_true (show 2 * ps[i] > sz from e2), cond_true, ih _ _ (by omega) (by omega) (by omega) (by omega), if_pos (.inr e2), if_pos e2, if_pos (.inr e2)]
          congr 2
          · omega
          · congr 2
            omega
        · rw [decide_eq_false (show ¬ 2 * ps[i] > sz from e2), cond_false, if_neg (show ¬ (sz - k < ps[i] ∨ sz < 2 * ps[i]) by omega), if_neg e2, if_neg (show ¬ (sz - k < ps[i] ∨ sz < 2 * ps[i]) by omega)]
          by_cases e3 : k ≤ ps[i]
          · rw [decide_eq_true (show ps[i] ≥ k from e3), cond_true, ih _ _ (by omega) (by omega) (by omega) (by omega), if_pos e3]
            congr 2
            · omega
            · congr 2
              omega
          · rw [decide_eq_false (show ¬ ps[i] ≥ k from e3), cond_false, ih _ _ (by omega) (by omega) (by omega) (by omega), if_neg e3]
            congr 2
            · omega
            · congr 2
              omega
    · rw [dlt_f hlt, cond_false, List.drop_of_length_le (by omega)]
      simp only [bal, blf, bsm]
      have hmax : (if 0 > o then (0 : Int) else o) = max o 0 := by
        by_cases e : 0 > o
        · rw [if_pos e]; omega
        · rw [if_neg e]; omega
      rw [beq_false_of_ne (show sz ≠ 0 by omega), cond_false, hmax, wr_ok (x := max o 0 + sz) (by omega) (by omega), wr_ok (x := max o 0 + sz - 1) (by omega) (by omega), Int.tdiv_eq_ediv_of_nonneg (by omega)]
      have hd1 : 0 ≤ (max o 0 + sz - 1) / sz := Int.ediv_nonneg (by omega) (by omega)
      have hd2 : (max o 0 + sz - 1) / sz ≤ max o 0 + sz - 1 := Int.ediv_le_self _ (by omega)
      rw [wr_ok (x := (max o 0 + sz - 1) / sz) (by omega) (by omega), wr_ok (by omega) (by omega)]
      congr 2
      · omega
      · congr 2
        omega
theorem bound_eq {n : Nat × Nat} (hn : 1000 ≤ n.1) {sz k : Int} {ps : List Int} (hj : Job sz ps) (hk : 0 ≤ k ∧ k ≤ 24) : D87 n sz ps k = some (bnd sz ps k) := by
  unfold D87
  have := bound_loop n hj hk n.1 0 0 0 (by omega) (by have := hj.len; omega) (by omega) (by omega) (by omega) (by omega)
  rw [show ((0 : Nat) : Int) = 0 from rfl] at this
  rw [this, List.drop_zero]
  unfold bnd
  simp
theorem half_ok {sz : Int} (h : 1 ≤ sz ∧ sz ≤ 24) : wr .i64 (Int.tdiv sz 2) = sz / 2 ∧ 0 ≤ sz / 2 ∧ sz / 2 ≤ 12 := by
  rw [Int.tdiv_eq_ediv_of_nonneg (by omega)]
  exact ⟨wr_ok (by omega) (by omega), by omega, by omega⟩
def bdS (sz : Int) (ps : List Int) (k : Int) : Int × Int := if chk sz ps ≠ 0 then (0, chk sz ps) else if k < 0 ∨ sz / 2 < k then (0, 1) else (bnd sz ps k, 0)
theorem Bound_eq {n : Nat × Nat} (hn : 1000 ≤ n.1) (sz : Int) (ps : List Int) (k : Int) : D42 n sz ps k = some (bdS sz ps k) := by
  unfold D42 bdS
  rw [Check_eq hn, Option.bind_some]
  by_cases h : chk sz ps = 0
  · have hj := chk_job.1 h
    obtain ⟨e, h0, h12⟩ := half_ok ⟨hj.lo, hj.hi⟩
    rw [h, bne_self_eq_false, cond_false, if_neg (by simp), e]
    by_cases h1 : k < 0
    · rw [decide_eq_true h1, if_pos (.inl h1)]
      rfl
    · rw [decide_eq_false h1]
      simp only [beq_self_eq_true, cond_true, show ((2 : Nat) == 0) = false from rfl, cond_false, Option.bind_some]
      by_cases h2 : sz / 2 < k
      · rw [decide_eq_true (show k > sz / 2 from h2), if_pos (.inr h2), cond_true]
      · rw [decide_eq_false (show ¬ k > sz / 2 from h2), if_neg (by omega), cond_false, bound_eq hn hj ⟨by omega, by omega⟩, Option.bind_some]
  · rw [show (chk sz ps != 0) = true by simpa using h, cond_true, if_pos h]
/-- The smallest k whose bound is the fewest sheets. -/
def prg (sz : Int) (ps : List Int) (w : Int) : Nat → Int → Int × Int
  | 0, _ => (0, 12)
  | d + 1, k => if bnd sz ps k = w then (k, 0) else prg sz ps w d (k + 1)
def prS (sz : Int) (ps : List Int) : Int × Int := if chk sz ps ≠ 0 then (0, chk sz ps) else prg sz ps (fw sz ps) (sz / 2 + 1).toNat 0
theorem prove_loop {n : Nat × Nat} (hn : 1000 ≤ n.1) {sz : Int} {ps : List Int} (hj : Job sz ps) (w : Int) : ∀ (m d k : Nat), (k : Int) + d = sz / 2 + 1 → d < m → DL44_1 n m sz ps w (sz / 2 + 1) (k : Int) = some (prg sz ps w d k)
  | 0, d, k, _, h => by omega
  | m + 1, 0, k, hk, h => by
    rw [DL44_1_succ]
    unfold DF44_1
    rw [decide_eq_false (show ¬ (k : Int) < sz / 2 + 1 by omega), cond_false]
    rfl
  | m + 1, d + 1, k, hk, h => by
    have hlo := hj.lo
    have hhi := hj.hi
    rw [DL44_1_succ]
    unfold DF44_1 prg
    rw [decide_eq_true (show (k : Int) < sz / 2 + 1 by omega), cond_true, bound_eq hn hj ⟨by omega, by omega⟩, Option.bind_some]
    by_cases e : bnd sz ps k = w
    · rw [e, beq_self_eq_true, cond_true, if_pos rfl]
    · rw [beq_false_of_ne e, cond_false, if_neg e, wr_succ (by omega), prove_loop hn hj w m d (k + 1) (by omega) (by omega)]
      rfl
theorem Prove_eq (sz : Int) (ps : List Int) : D44 N sz ps = some (prS sz ps) := by
  unfold D44 prS
  rw [Check_eq hN1, Option.bind_some]
  by_cases h : chk sz ps = 0
  · have hj := chk_job.1 h
    obtain ⟨e, h0, h12⟩ := half_ok ⟨hj.lo, hj.hi⟩
    rw [h, bne_self_eq_false, cond_false, if_neg (by simp), least_eq hj, Option.bind_some, show ((2 : Nat) == 0) = false from rfl, cond_false, e, wr_ok (by omega) (by omega)]
    exact prove_loop hN1 hj _ N.1 _ 0 (by omega) (by have : N.1 = 1000000 := rfl; omega)
  · rw [show (chk sz ps != 0) = true by simpa using h, cond_true, if_pos h]
def pvS (sz : Int) (ps l : List Int) (k : Int) : Int := if vld sz ps l ≠ 0 then vld sz ps l else if (bdS sz ps k).2 ≠ 0 then (bdS sz ps k).2 else if (bdS sz ps k).1 ≠ mny l then 14 else 0
theorem Proves_eq {n : Nat × Nat} (hn : 1000 ≤ n.1) (sz : Int) (ps l : List Int) (k : Int) : D46 n sz ps l k = some (pvS sz ps l k) := by
  unfold D46 pvS
  rw [sheets_eq hn, Option.bind_some]
  unfold shts
  by_cases h : vld sz ps l = 0
  · have hl := lf_len sz ps l
    rw [if_neg (by simpa using h), if_neg (by simpa using h)]
    simp only [bne_self_eq_false, cond_false]
    rw [Bound_eq hn, Option.bind_some, hl]
    by_cases h2 : (bdS sz ps k).2 = 0
    · rw [h2, bne_self_eq_false, cond_false, if_neg (by simp)]
      by_cases h3 : (bdS sz ps k).1 = mny l
      · rw [h3, bne_self_eq_false, cond_false, if_neg (by simp)]
      · rw [show ((bdS sz ps k).1 != mny l) = true by simpa using h3, cond_true, if_pos h3]
    · rw [show ((bdS sz ps k).2 != 0) = true by simpa using h2, cond_true, if_pos h2]
  · rw [if_pos h, if_pos h]
    simp only [show (vld sz ps l != 0) = true by simpa using h, cond_true]
def divT : List Int := [0, 2, 6, 10, 22, 34, 78, 130, 278, 522, 1062, 2050, 4190, 8194, 16518, 32810, 65814, 131074, 262734, 524290, 1049654, 2097290, 4196358, 8388610, 16781662]
def dbit (x p : Int) : Bool := (wr .u32 (BitVec.ofInt (IntKind.bits .u32) (Int.fdiv x (2 ^ (min (Int.toNat p) (IntKind.bits .u32)))) &&& BitVec.ofInt (IntKind.bits .u32) 1).toNat) == 0
theorem div_tab : ∀ s : Fin 25, ∀ p : Fin 25, 1 ≤ s.val → 1 ≤ p.val → dbit (divT.getD s.val 0) (p.val : Int) = !decide (s.val % p.val = 0) := by decide +kernel
theorem div_bit {s p : Int} (hs : 1 ≤ s ∧ s ≤ 24) (hp : 1 ≤ p ∧ p ≤ 24) : ∃ x, idx divT s = some x ∧ dbit x p = !decide (s % p = 0) := by
  have h := div_tab ⟨s.toNat, by omega⟩ ⟨p.toNat, by omega⟩ (by simp only []; omega) (by simp only []; omega)
  simp only [] at h
  have hl : s.toNat < divT.length := by
    have : divT.length = 25 := rfl
    omega
  refine ⟨divT[s.toNat], idx_int (by omega) hl, ?_⟩
  rw [List.getD_eq_getElem?_getD, List.getElem?_eq_getElem hl, Option.getD_some, show ((p.toNat : Nat) : Int) = p by omega] at h
  rw [h]
  congr 1
  apply decide_eq_decide.2
  have e1 : (s.toNat : Int) = s := by omega
  have e2 : (p.toNat : Int) = p := by omega
  constructor
  · intro hh
    rw [← e1, ← e2]
    exact_mod_cast hh
  · intro hh
    rw [← e1, ← e2] at hh
    exact_mod_cast hh
/-- Each one divides the one before it. -/
def Chn : Int → List Int → Prop
  | _, [] => True
  | s, p :: r => s % p = 0 ∧ Chn p r
instance Chn.dec : ∀ (s : Int) (l : List Int), Decidable (Chn s l)
  | _, [] => .isTrue trivial
  | s, p :: r => by
    unfold Chn
    have := Chn.dec p r
    exact inferInstance
theorem chain_loop (n : Nat × Nat) {ps : List Int} (hb : ∀ p ∈ ps, 1 ≤ p ∧ p ≤ 24) {o : List Int} (ho : ∀ i ∈ o, 0 ≤ i ∧ i < ps.length) (hl : o.length ≤ 8) : ∀ (m k : Nat) (s : Int), k ≤ o.length → o.length - k < m → 1 ≤ s ∧ s ≤ 24 →
    DL40_1 n m s ps (o.length : Int) (k : Int) o = some (decide (Chn s ((o.drop k).map (pc ps))), 0)
  | 0, k, s, _, h, _ => by omega
  | m + 1, k, s, hk, h, hs => by
    rw [DL40_1_succ]
    unfold DF40_1
    by_cases hlt : k < o.length
    · have hi := ho _ (List.getElem_mem hlt)
      have hp := hb _ (pc_mem hi.1 hi.2)
      obtain ⟨x, hx, hd⟩ := div_bit hs hp
      rw [dlt_t hlt, cond_true, inB_nat hlt, cond_true, idx_nat hlt, Option.bind_some]
      rw [show idx ([0, 2, 6, 10, 22, 34, 78, 130, 278, 522, 1062, 2050, 4190, 8194, 16518, 32810, 65814, 131074, 262734, 524290, 1049654, 2097290, 4196358, 8388610, 16781662] : List Int) s = some x from hx, Option.bind_some, idx_pc hi.1 hi.2, Option.bind_some, decide_eq_false (by omega), cond_false, Option.bind_some, drop_cons hlt, List.map_cons]
      rw [show ((wr .u32 (BitVec.ofInt (IntKind.bits .u32) (Int.fdiv x (2 ^ (min (Int.toNat (pc ps o[k])) (IntKind.bits .u32)))) &&& BitVec.ofInt (IntKind.bits .u32) 1).toNat) == 0) = !decide (s % pc ps o[k] = 0) from hd, wr_succ (by omega), chain_loop n hb ho hl m (k + 1) _ (by omega) (by omega) hp]
      by_cases e : s % pc ps o[k] = 0
      · rw [decide_eq_true e, Bool.not_true, cond_false]
        congr 2
        apply decide_eq_decide.2
        exact ⟨fun h => ⟨e, h⟩, fun h => h.2⟩
      · rw [decide_eq_false e, Bool.not_false, cond_true]
        congr 2
        symm
        apply decide_eq_false
        exact fun hh => e hh.1
    · rw [dlt_f hlt, cond_false, List.drop_of_length_le (by omega)]
      rfl
/-- Lengths are a chain. -/
def Cmp (x y : Int) : Prop := x % y = 0 ∨ y % x = 0
def IsC (sz : Int) (ps : List Int) : Prop := (∀ p ∈ ps, sz % p = 0) ∧ ps.Pairwise Cmp
instance (x y : Int) : Decidable (Cmp x y) := inferInstanceAs (Decidable (_ ∨ _))
instance (sz : Int) (ps : List Int) : Decidable (IsC sz ps) := inferInstanceAs (Decidable (_ ∧ _))
theorem mod_trans {a b c : Int} (h1 : a % b = 0) (h2 : b % c = 0) : a % c = 0 :=
  Int.emod_eq_zero_of_dvd (Int.dvd_trans (Int.dvd_of_emod_eq_zero h2) (Int.dvd_of_emod_eq_zero h1))
theorem chn_iff : ∀ (l : List Int) (s : Int), Chn s l ↔ (∀ p ∈ l, s % p = 0) ∧ l.Pairwise (fun x y => x % y = 0)
  | [], s => by simp [Chn]
  | p :: r, s => by
    unfold Chn
    rw [chn_iff r p, List.pairwise_cons]
    constructor
    · rintro ⟨h1, h2, h3⟩
      refine ⟨fun q hq => ?_, h2, h3⟩
      rcases List.mem_cons.1 hq with rfl | hq
      · exact h1
      · exact mod_trans h1 (h2 q hq)
    · rintro ⟨h1, h2, h3⟩
      exact ⟨h1 p (by simp), h2, h3⟩
theorem chn_fall {s : Int} {l : List Int} (hb : ∀ p ∈ l, 1 ≤ p) (hf : l.Pairwise (fun x y => y ≤ x)) : Chn s l ↔ IsC s l := by
  rw [chn_iff]
  unfold IsC
  constructor
  · rintro ⟨h1, h2⟩
    exact ⟨h1, h2.imp (fun h => .inl h)⟩
  · rintro ⟨h1, h2⟩
    refine ⟨h1, ?_⟩
    have : ∀ {l : List Int}, (∀ p ∈ l, 1 ≤ p) → l.Pairwise (fun x y => y ≤ x) → l.Pairwise Cmp → l.Pairwise (fun x y => x % y = 0) := by
      intro l
      induction l with
      | nil => intros; exact List.Pairwise.nil
      | cons x r ih =>
        intro hb hf h2
        rw [List.pairwise_cons] at hf h2 ⊢
        refine ⟨fun y hy => ?_, ih (fun p hp => hb p (by simp [hp])) hf.2 h2.2⟩
        have h3 := hf.1 y hy
        have hx := hb x (by simp)
        have hy1 := hb y (by simp [hy])
        rcases h2.1 y hy with h | h
        · exact h
        · have := Int.le_of_dvd (by omega) (Int.dvd_of_emod_eq_zero h)
          have e : x = y := by omega
          rw [e, Int.emod_self]
    exact this hb hf h2
theorem cmp_symm {x y : Int} (h : Cmp x y) : Cmp y x := Or.symm h
theorem isC_perm {s : Int} {a b : List Int} (h : a.Perm b) : IsC s a ↔ IsC s b := by
  unfold IsC
  rw [h.pairwise_iff cmp_symm]
  constructor
  · rintro ⟨h1, h2⟩
    exact ⟨fun p hp => h1 p (h.mem_iff.2 hp), h2⟩
  · rintro ⟨h1, h2⟩
    exact ⟨fun p hp => h1 p (h.mem_iff.1 hp), h2⟩
theorem map_pc (ps : List Int) : ((List.range ps.length).map fun i : Nat => (i : Int)).map (pc ps) = ps := by
  apply List.ext_getElem
  · simp
  · intro i h1 h2
    simp only [List.getElem_map, List.getElem_range, pc, Int.toNat_natCast]
    rw [List.getD_eq_getElem?_getD, List.getElem?_eq_getElem h2, Option.getD_some]
theorem fal_rng (ps : List Int) : ∀ i ∈ fal ps, 0 ≤ i ∧ i < ps.length := fun i hi => by
  obtain ⟨k, hk, rfl⟩ := List.mem_map.1 ((fal_perm ps).mem_iff.1 hi)
  have := List.mem_range.1 hk
  omega
theorem fal_len (ps : List Int) : (fal ps).length = ps.length := by
  rw [(fal_perm ps).length_eq]; simp
theorem fal_map (ps : List Int) : ((fal ps).map (pc ps)).Perm ps := by
  have := (fal_perm ps).map (pc ps)
  rwa [map_pc] at this
theorem fal_down (ps : List Int) : ((fal ps).map (pc ps)).Pairwise (fun x y => y ≤ x) := by
  rw [List.pairwise_map]
  exact (fal_sort ps).imp (fun h => by unfold Fbf at h; omega)
def chS (sz : Int) (ps : List Int) : Bool × Int := if chk sz ps ≠ 0 then (false, chk sz ps) else (decide (IsC sz ps), 0)
theorem Chain_eq {n : Nat × Nat} (hn : 1000 ≤ n.1) (sz : Int) (ps : List Int) : D40 n sz ps = some (chS sz ps) := by
  unfold D40 chS
  rw [Check_eq hn, Option.bind_some]
  by_cases h : chk sz ps = 0
  · have hj := chk_job.1 h
    have hb : ∀ s ∈ ps, 1 ≤ s ∧ s ≤ 24 := fun s hs => by have := hj.ok s hs; have := hj.hi; omega
    have hl := fal_len ps
    have h8 := hj.len
    rw [h, bne_self_eq_false, cond_false, if_neg (by simp), fall_eq hn hb hj.len, Option.bind_some]
    have := chain_loop n hb (fal_rng ps) (by omega) n.1 0 sz (by omega) (by omega) ⟨hj.lo, hj.hi⟩
    rw [show ((0 : Nat) : Int) = 0 from rfl, List.drop_zero] at this
    rw [this]
    congr 2
    apply decide_eq_decide.2
    rw [chn_fall (fun p hp => (hb p ((fal_map ps).mem_iff.1 hp)).1) (fal_down ps), isC_perm (fal_map ps)]
  · rw [show (chk sz ps != 0) = true by simpa using h, cond_true, if_pos h]
theorem tmod_mod {a b : Int} (h : 0 ≤ a) : Int.tmod a b = a % b := Int.tmod_eq_emod_of_nonneg h
/-! Numbers by their first places. -/
def dd : List Int → List Int → List Int
  | met, [] => met
  | met, x :: l => dd (if x ∈ met then met else met ++ [x]) l
theorem dd_snoc (x : Int) : ∀ (l met : List Int), dd met (l ++ [x]) = if x ∈ dd met l then dd met l else dd met l ++ [x]
  | [], met => rfl
  | y :: l, met => dd_snoc x l _
theorem dd_pre : ∀ (l met : List Int), ∃ s, dd met l = met ++ s
  | [], met => ⟨[], by simp [dd]⟩
  | y :: l, met => by
    unfold dd
    obtain ⟨s, hs⟩ := dd_pre l (if y ∈ met then met else met ++ [y])
    split at hs
    · rename_i h
      exact ⟨s, by rw [if_pos h]; exact hs⟩
    · rename_i h
      exact ⟨y :: s, by rw [if_neg h, hs]; simp⟩
theorem dd_mem (x : Int) : ∀ (l met : List Int), x ∈ dd met l ↔ x ∈ met ∨ x ∈ l
  | [], met => by simp [dd]
  | y :: l, met => by
    unfold dd
    rw [dd_mem x l]
    split
    · rename_i h
      constructor
      · rintro (h1 | h1)
        · exact .inl h1
        · exact .inr (by simp [h1])
      · rintro (h1 | h1)
        · exact .inl h1
        · rcases List.mem_cons.1 h1 with rfl | h1
          · exact .inl h
          · exact .inr h1
    · simp only [List.mem_append, List.mem_cons, List.not_mem_nil, or_false, or_assoc]
def ps0 (x : Int) (l : List Int) : Int := fnd (fun y => x == y) 0 l
theorem fnd_app {x : Int} : ∀ {a : List Int} (b : List Int) (k : Nat), x ∈ a → fnd (fun y => x == y) k (a ++ b) = fnd (fun y => x == y) k a
  | [], _, _, h => by simp at h
  | y :: a, b, k, h => by
    simp only [List.cons_append, fnd]
    by_cases e : x = y
    · simp [e]
    · rw [if_neg (by simpa using e), if_neg (by simpa using e), fnd_app b (k + 1) ((List.mem_cons.1 h).resolve_left e)]
theorem fnd_new {x : Int} : ∀ {a : List Int} (b : List Int) (k : Nat), x ∉ a → fnd (fun y => x == y) k (a ++ x :: b) = k + a.length
  | [], b, k, _ => by simp [fnd]
  | y :: a, b, k, h => by
    simp only [List.mem_cons, not_or] at h
    simp only [List.cons_append, fnd]
    rw [if_neg (by simpa using h.1), fnd_new b (k + 1) h.2]
    simp only [List.length_cons]
    omega
theorem fnd_lt {x : Int} {a : List Int} (h : x ∈ a) : 0 ≤ ps0 x a ∧ ps0 x a < a.length := by
  unfold ps0
  have h1 := (fnd_mem x a).2 h
  rcases fnd_bnd (fun y => x == y) a 0 with ⟨h2, _⟩ | ⟨h2, h3, _⟩
  · omega
  · omega
theorem tid_map : ∀ (l met : List Int), tid met l = l.map fun x => ps0 x (dd met l)
  | [], met => rfl
  | x :: l, met => by
    unfold tid dd
    split
    · rename_i h
      rw [tid_map l, List.map_cons]
      congr 1
      obtain ⟨s, hs⟩ := dd_pre l met
      unfold ps0
      rw [hs, fnd_app s 0 h]
    · rename_i h
      rw [tid_map l, List.map_cons]
      congr 1
      obtain ⟨s, hs⟩ := dd_pre l (met ++ [x])
      unfold ps0
      rw [hs, List.append_assoc, List.singleton_append, fnd_new s 0 h]
      simp
theorem dd_take (l : List Int) : ∀ k, ∃ s, dd [] l = dd [] (l.take k) ++ s := fun k => by
  have : ∀ (a b met : List Int), dd met (a ++ b) = dd (dd met a) b := by
    intro a
    induction a with
    | nil => intro b met; rfl
    | cons y a ih => intro b met; exact ih b _
  have e := this (l.take k) (l.drop k) []
  rw [List.take_append_drop] at e
  rw [e]
  exact dd_pre _ _
theorem tid_mny (l : List Int) : ∀ k ≤ l.length, mny ((tid [] l).take k) = (dd [] (l.take k)).length
  | 0, _ => by simp [mny, dd]
  | k + 1, hk => by
    have ih := tid_mny l k (by omega)
    have hlt : k < l.length := by omega
    have hlt2 : k < (tid [] l).length := by rw [tid_len]; exact hlt
    rw [take_snoc hlt2, mny_snoc, ih, take_snoc hlt, dd_snoc]
    have e : (tid [] l)[k] = ps0 l[k] (dd [] l) := by simp [tid_map]
    rw [e]
    obtain ⟨s, hs⟩ := dd_take l k
    by_cases h : l[k] ∈ dd [] (l.take k)
    · rw [if_pos h]
      unfold ps0
      rw [hs, fnd_app s 0 h]
      have := fnd_lt h
      unfold ps0 at this
      omega
    · rw [if_neg h]
      obtain ⟨s2, hs2⟩ := dd_take l (k + 1)
      rw [take_snoc hlt, dd_snoc, if_neg h] at hs2
      unfold ps0
      rw [hs2, List.append_assoc, List.singleton_append, fnd_new s2 0 h]
      simp only [List.length_append, List.length_cons, List.length_nil]
      omega
/-! The reference's reading of groups. -/
/-- The first sheet with room, or the next one. -/
def ffp (p : Int) : List Int → Nat
  | [] => 0
  | x :: L => if p ≤ x then 0 else ffp p L + 1
theorem ffp_le (p : Int) : ∀ L, ffp p L ≤ L.length
  | [] => Nat.le_refl _
  | x :: L => by
    have := ffp_le p L
    unfold ffp
    split
    · omega
    · simp; omega
theorem ffp_room {p : Int} : ∀ {L : List Int} (h : ffp p L < L.length), p ≤ L[ffp p L]
  | [], h => by simp at h
  | x :: L, h => by
    by_cases e : p ≤ x
    · have : ffp p (x :: L) = 0 := by unfold ffp; rw [if_pos e]
      simp only [this]
      exact e
    · have he : ffp p (x :: L) = ffp p L + 1 := by simp only [ffp]; rw [if_neg e]
      simp only [he, List.getElem_cons_succ]
      rw [he, List.length_cons] at h
      exact ffp_room (by omega)
theorem ffp_below {p : Int} : ∀ {L : List Int} {s : Nat} (hs : s < L.length), s < ffp p L → L[s] < p
  | [], s, hs, _ => by simp at hs
  | x :: L, s, hs, h => by
    by_cases e : p ≤ x
    · have : ffp p (x :: L) = 0 := by unfold ffp; rw [if_pos e]
      omega
    · have he : ffp p (x :: L) = ffp p L + 1 := by simp only [ffp]; rw [if_neg e]
      rw [he] at h
      cases s with
      | zero => simp only [List.getElem_cons_zero]; omega
      | succ s =>
        simp only [List.getElem_cons_succ]
        exact ffp_below _ (by omega)
theorem ffp_rm {p sz : Int} {L : List Int} (h : p ≤ sz) : p ≤ rm sz L (ffp p L) := by
  have := ffp_le p L
  by_cases e : ffp p L < L.length
  · rw [rm_get e]; exact ffp_room e
  · have : ffp p L = L.length := by omega
    rw [this]
    unfold rm
    rw [List.getD_eq_getElem?_getD, List.getElem?_eq_none (by omega), Option.getD_none]
    exact h
/-- One piece more. -/
def fst1 (sz : Int) (ps : List Int) (t : List Int × List Int) (i : Int) : List Int × List Int :=
  (t.1.set i.toNat (ffp (pc ps i) t.2), up sz t.2 (ffp (pc ps i) t.2) (pc ps i))
def ffo (sz : Int) (ps o : List Int) (t : List Int × List Int) : List Int × List Int := o.foldl (fst1 sz ps) t
theorem ffo_len (sz : Int) (ps : List Int) : ∀ (o : List Int) (t : List Int × List Int), (ffo sz ps o t).1.length = t.1.length
  | [], t => rfl
  | i :: o, t => by
    show (ffo sz ps o (fst1 sz ps t i)).1.length = _
    rw [ffo_len sz ps o]
    simp [fst1]
theorem ffo_llen (sz : Int) (ps : List Int) : ∀ (o : List Int) (t : List Int × List Int), (ffo sz ps o t).2.length ≤ t.2.length + o.length
  | [], t => Nat.le_refl _
  | i :: o, t => by
    show (ffo sz ps o (fst1 sz ps t i)).2.length ≤ _
    have h1 := ffo_llen sz ps o (fst1 sz ps t i)
    have h2 := up_len (sz := sz) (pc ps i) (ffp_le (pc ps i) t.2)
    have h3 := ffp_le (pc ps i) t.2
    simp only [fst1] at h1 ⊢
    rw [List.length_cons]
    omega
/-- What is not placed does not matter. -/
theorem ffo_same (sz : Int) (ps : List Int) : ∀ (o A A' L : List Int), A.length = A'.length → (∀ j : Nat, (j : Int) ∉ o → A[j]? = A'[j]?) → (∀ i ∈ o, 0 ≤ i) → ffo sz ps o (A, L) = ffo sz ps o (A', L)
  | [], A, A', L, hl, h, _ => by
    have : A = A' := List.ext_getElem? (fun j => h j (by simp))
    rw [this]
  | i :: o, A, A', L, hl, h, h0 => by
    show ffo sz ps o (fst1 sz ps (A, L) i) = ffo sz ps o (fst1 sz ps (A', L) i)
    unfold fst1
    refine ffo_same sz ps o _ _ _ (by simp [hl]) (fun j hj => ?_) (fun k hk => h0 k (by simp [hk]))
    have hi := h0 i (by simp)
    rw [List.getElem?_set, List.getElem?_set, hl]
    by_cases e : i.toNat = j
    · rw [if_pos e, if_pos e]
    · rw [if_neg e, if_neg e]
      refine h j ?_
      rw [List.mem_cons]
      rintro (hh | hh)
      · omega
      · exact hj hh
/-! The law's filling. -/
theorem fill_in (n : Nat × Nat) (f1 : Int → List Int → List Int → Int → Int → List Int → List Int → Option R51) {sz : Int} {ps : List Int} (hj : Job sz ps) {i : Int} (hi : 0 ≤ i ∧ i < ps.length) (v22 : List Int) (v23 v24 : Int) {A L : List Int} (hA : A.length = ps.length) (hL : L.length ≤ 8) (hr : ∀ x ∈ L, 0 ≤ x ∧ x < sz) :
    ∀ (m s : Nat), s ≤ ffp (pc ps i) L → ffp (pc ps i) L - s < m → DL51_2 n f1 m sz ps i (s : Int) v22 v23 v24 A L = f1 sz ps v22 v23 (wr .i64 (v24 + 1)) (A.set i.toNat (ffp (pc ps i) L)) (up sz L (ffp (pc ps i) L) (pc ps i))
  | 0, s, _, h => by omega
  | m + 1, s, hs, h => by
    have hlo := hj.lo
    have hhi := hj.hi
    have h8 := hj.len
    have hp := hj.ok _ (pc_mem hi.1 hi.2)
    have hfl := ffp_le (pc ps i) L
    have hfr := ffp_rm (L := L) hp.2
    have hrr := rm_rng hr (by omega : 0 ≤ sz) (ffp (pc ps i) L)
    have hix := idx_pc hi.1 hi.2
    rw [DL51_2_succ]
    unfold DF51_2
    by_cases e : s < ffp (pc ps i) L
    · have hsl : s < L.length := by omega
      have hb := ffp_below hsl e
      have ih := fill_in n f1 hj hi v22 v23 v24 hA hL hr m (s + 1) (by omega) (by omega)
      rw [dlt_t hsl]
      simp only [beq_self_eq_true, cond_true]
      rw [inB_nat hsl, cond_true, idx_nat hsl, Option.bind_some, hix, Option.bind_some, decide_eq_true hb]
      simp only [Option.bind_some, cond_true]
      rw [wr_succ (by omega), ih]
    · have hs2 : s = ffp (pc ps i) L := by omega
      subst hs2
      have hup : ∀ q : List Int, q = (if ffp (pc ps i) L = L.length then L ++ [sz] else L) → q.set (ffp (pc ps i) L) (rm sz L (ffp (pc ps i) L) - pc ps i) = up sz L (ffp (pc ps i) L) (pc ps i) := fun q hq => by rw [hq]; rfl
      have hin : inB i A.length = true := by rw [show i = (i.toNat : Int) by omega]; exact inB_nat (by omega)
      have hgA : ∃ y, idx A i = some y := ⟨_, idx_int (k := i.toNat) (by omega) (by omega)⟩
      obtain ⟨y, hy⟩ := hgA
      generalize hs : ffp (pc ps i) L = s at *
      by_cases e2 : s < L.length
      · have hroom : rm sz L s = L[s] := rm_get e2
        rw [dlt_t e2]
        simp only [beq_self_eq_true, cond_true]
        rw [inB_nat e2, cond_true, idx_nat e2, Option.bind_some, hix, Option.bind_some, decide_eq_false (by omega)]
        simp only [Option.bind_some, cond_false, cond_true]
        rw [beq_false_of_ne (show (s : Int) ≠ (L.length : Int) by omega), cond_false, hin, cond_true, hy, Option.bind_some, wr_ok (x := L[s] - pc ps i) (by omega) (by omega), Int.toNat_natCast, ← hroom, hup L (by rw [if_neg (by omega)])]
      · have e3 : s = L.length := by omega
        have hroom : rm sz L s = sz := by unfold rm; rw [List.getD_eq_getElem?_getD, List.getElem?_eq_none (by omega), Option.getD_none]
        have hsl : s < (L ++ [sz]).length := by simp; omega
        have hg : (L ++ [sz])[s] = sz := by simp [e3]
        rw [dlt_f e2]
        simp only [show (false == true) = false from rfl, cond_false, Option.bind_some]
        rw [show ((s : Int) == (L.length : Int)) = true by simp [e3], cond_true, lim_dec (by omega), cond_true, inB_nat hsl, cond_true, idx_nat hsl, Option.bind_some, hix, Option.bind_some, cond_true, Option.bind_some, hin, cond_true, hy, Option.bind_some, hg, wr_ok (x := sz - pc ps i) (by omega) (by omega), Int.toNat_natCast]
        have := hup (L ++ [sz]) (by rw [if_pos e3])
        rw [hroom] at this
        rw [this]
/-- Names by their order. -/
def nmz : Nat → List Int → List (Int × Int)
  | _, [] => []
  | k, x :: r => (x, (k : Int)) :: nmz (k + 1) r
theorem nmz_len : ∀ (l : List Int) (k : Nat), (nmz k l).length = l.length
  | [], _ => rfl
  | x :: l, k => by simp [nmz, nmz_len l]
theorem nmz_look (y : Int) : ∀ (l : List Int) (k : Nat), alook (nmz k l) y = if y ∈ l then some (fnd (fun x => y == x) k l) else none
  | [], k => by simp [nmz, alook]
  | x :: l, k => by
    have ih := nmz_look y l (k + 1)
    unfold alook at ih ⊢
    simp only [nmz, List.find?_cons]
    by_cases e : x = y
    · subst e
      simp [fnd]
    · have e2 : ¬ y = x := fun h => e h.symm
      rw [show ((x == y) = false) by simpa using e]
      simp only [ih, List.mem_cons, e2, false_or, fnd, show ((y == x) = false) by simpa using e2, Bool.false_eq_true, if_false]
theorem nmz_set (y v : Int) : ∀ (l : List Int) (k : Nat), y ∉ l → aset (nmz k l) y v = nmz k l ++ [(y, v)]
  | [], _, _ => rfl
  | x :: l, k, h => by
    rw [List.mem_cons] at h
    simp only [nmz, aset, List.cons_append]
    rw [show ((x == y) = false) by simpa using (fun e : x = y => h (.inl e.symm)), cond_false, nmz_set y v l (k + 1) (fun hh => h (.inr hh))]
theorem nmz_snoc (y : Int) : ∀ (l : List Int) (k : Nat), nmz k (l ++ [y]) = nmz k l ++ [(y, ((k + l.length : Nat) : Int))]
  | [], k => by simp [nmz]
  | x :: l, k => by
    simp only [List.cons_append, nmz]
    rw [nmz_snoc y l (k + 1), show k + 1 + l.length = k + (x :: l).length by simp; omega]
theorem name_loop (n : Nat × Nat) (left A : List Int) (hA : A.length ≤ 100) : ∀ (m k : Nat) (met plan : List Int), k ≤ A.length → A.length - k < m → met.length ≤ k → plan.length = k →
    DL51_3 n m (A.length : Int) (k : Int) left (nmz 0 met) plan A = some (plan ++ tid met (A.drop k), left)
  | 0, k, _, _, _, h, _, _ => by omega
  | m + 1, k, met, plan, hk, h, hm, hp => by
    rw [DL51_3_succ]
    unfold DF51_3
    by_cases hlt : k < A.length
    · rw [dlt_t hlt, cond_true, inB_nat hlt, cond_true, idx_nat hlt, Option.bind_some, drop_cons hlt, nmz_look]
      unfold tid
      by_cases e : A[k] ∈ met
      · rw [if_pos e, if_pos e]
        simp only [Option.isSome_some, Bool.not_true, cond_false, Option.getD_some]
        rw [lim_dec (by omega), cond_true, wr_succ (by omega), name_loop n left A hA m (k + 1) met _ (by omega) (by omega) (by omega) (by simp [hp]), List.append_assoc, List.singleton_append]
      · have hs : aset (nmz 0 met) A[k] ((nmz 0 met).length : Int) = nmz 0 (met ++ [A[k]]) := by
          rw [nmz_set _ _ _ _ e, nmz_snoc, nmz_len, Nat.zero_add]
        rw [if_neg e, if_neg e, hs, nmz_look, if_pos (by simp)]
        simp only [Option.isSome_none, Bool.not_false, cond_true, Option.getD_some]
        rw [lim_dec (by omega), cond_true, wr_succ (by omega), name_loop n left A hA m (k + 1) _ _ (by omega) (by omega) (by simp; omega) (by simp [hp]), List.append_assoc, List.singleton_append]
        have := fnd_new (x := A[k]) (a := met) [] 0 e
        rw [this]
        simp
    · rw [dlt_f hlt, cond_false, List.drop_of_length_le (by omega)]
      simp [tid]
theorem up_rng2 {sz : Int} {ps : List Int} (hj : Job sz ps) {i : Int} (hi : 0 ≤ i ∧ i < ps.length) {L : List Int} (hr : ∀ x ∈ L, 0 ≤ x ∧ x < sz) : ∀ x ∈ up sz L (ffp (pc ps i) L) (pc ps i), 0 ≤ x ∧ x < sz := by
  have hp := hj.ok _ (pc_mem hi.1 hi.2)
  exact up_rng hr (by have := hj.lo; omega) (ffp_le _ _) hp.1 (ffp_rm hp.2)
theorem fill_loop2 (n : Nat × Nat) (hn : 1000 ≤ n.1) {sz : Int} {ps o : List Int} (hj : Job sz ps) (ho : ∀ i ∈ o, 0 ≤ i ∧ i < ps.length) (hol : o.length ≤ 8) : ∀ (m k : Nat) (A L : List Int), k ≤ o.length → o.length - k < m → A.length = ps.length → L.length ≤ k → (∀ x ∈ L, 0 ≤ x ∧ x < sz) →
    DL51_1 n m sz ps o (o.length : Int) (k : Int) A L = some (tid [] (ffo sz ps (o.drop k) (A, L)).1, (ffo sz ps (o.drop k) (A, L)).2)
  | 0, k, A, L, _, h, _, _, _ => by omega
  | m + 1, k, A, L, hk, h, hA, hL, hr => by
    have h8 := hj.len
    rw [DL51_1_succ]
    unfold DF51_1
    by_cases hlt : k < o.length
    · have hi := ho _ (List.getElem_mem hlt)
      have hul := up_len (sz := sz) (pc ps o[k]) (ffp_le (pc ps o[k]) L)
      have hfl := ffp_le (pc ps o[k]) L
      rw [dlt_t hlt, cond_true, idx_nat hlt, Option.bind_some]
      have := fill_in n (DL51_1 n m) hj hi o (o.length : Int) (k : Int) hA (by omega) hr n.1 0 (by omega) (by omega)
      refine Eq.trans this ?_
      rw [wr_succ (by omega), fill_loop2 n hn hj ho hol m (k + 1) _ _ (by omega) (by omega) (by simp [hA]) (by omega) (up_rng2 hj hi hr), drop_cons hlt]
      rfl
    · rw [dlt_f hlt, cond_false, List.drop_of_length_le (by omega)]
      have := name_loop n L A (by omega) n.1 0 [] [] (by omega) (by omega) (by simp) rfl
      exact this
def zer (k : Nat) : List Int := List.replicate k 0
theorem filled_eq {n : Nat × Nat} (hn : 1000 ≤ n.1) {sz : Int} {ps o : List Int} (hj : Job sz ps) (ho : ∀ i ∈ o, 0 ≤ i ∧ i < ps.length) (hol : o.length ≤ 8) : D51 n sz ps o = some (tid [] (ffo sz ps o (zer ps.length, [])).1, (ffo sz ps o (zer ps.length, [])).2) := by
  have h8 := hj.len
  unfold D51
  rw [decide_eq_true (show (0 : Int) ≤ (ps.length : Int) by omega), decide_eq_true (show (ps.length : Int) ≤ (ps.length : Int) by omega), decide_eq_true (show (ps.length : Int) ≤ lim by unfold lim; omega), Int.toNat_natCast]
  exact fill_loop2 n hn hj ho hol n.1 0 _ _ (by omega) (by omega) (by simp) (by simp) (by simp)
/-! The program's. -/
theorem fnd_ffp (p : Int) : ∀ (L : List Int) (k : Nat), fnd (fun x => decide (p ≤ x)) k L = if ffp p L < L.length then ((k + ffp p L : Nat) : Int) else -1
  | [], k => rfl
  | x :: L, k => by
    have ih := fnd_ffp p L (k + 1)
    unfold fnd ffp
    by_cases e : p ≤ x
    · simp [e]
    · simp only [e, decide_false, Bool.false_eq_true, if_false, List.length_cons, ih]
      by_cases e2 : ffp p L < L.length
      · rw [if_pos e2, if_pos (by omega)]; omega
      · rw [if_neg e2, if_neg (by omega)]
theorem idxr_loop (n : Nat × Nat) {ps : List Int} {i : Int} (hi : 0 ≤ i ∧ i < ps.length) (l : List Int) (hs : l.length < 1000) : ∀ (m k : Nat), k ≤ l.length → l.length - k < m → DL79c80_1 n m l ps i (l.length : Int) (k : Int) = some (fnd (fun x => decide (pc ps i ≤ x)) k (l.drop k))
  | 0, k, _, h => by omega
  | m + 1, k, hk, h => by
    rw [DL79c80_1_succ]
    unfold DF79c80_1
    by_cases hlt : k < l.length
    · have ih := idxr_loop n hi l hs m (k + 1) (by omega) (by omega)
      have hd : D80 n l[k] ps i = some (decide (pc ps i ≤ l[k])) := by
        unfold D80
        rw [idx_pc hi.1 hi.2, Option.bind_some]
      rw [dlt_t hlt, cond_true, idx_nat hlt, Option.bind_some, hd, Option.bind_some, wr_succ (by omega), ih, drop_cons hlt]
      generalize l.drop (k + 1) = t at *
      generalize l[k] = x at *
      unfold fnd
      by_cases e : pc ps i ≤ x
      · simp [e]
      · simp only [e, decide_false, cond_false, Bool.false_eq_true, if_false]
        cases t <;> rfl
    · rw [dlt_f hlt, cond_false, List.drop_of_length_le (by omega)]
      rfl
theorem idxr_eq {n : Nat × Nat} (hn : 1000 ≤ n.1) {ps : List Int} {i : Int} (hi : 0 ≤ i ∧ i < ps.length) (l : List Int) (hs : l.length < 900) : D79c80 n l ps i = some (if ffp (pc ps i) l < l.length then ((ffp (pc ps i) l : Nat) : Int) else -1) := by
  unfold D79c80
  have := idxr_loop n hi l (by omega) n.1 0 (by omega) (by omega)
  rw [show ((0 : Nat) : Int) = 0 from rfl, List.drop_zero, fnd_ffp] at this
  rw [this]
  simp
theorem fit_loop (n : Nat × Nat) (hn : 1000 ≤ n.1) {sz : Int} {ps o : List Int} (hj : Job sz ps) (ho : ∀ i ∈ o, 0 ≤ i ∧ i < ps.length) (hol : o.length ≤ 8) (hd : o.Nodup) : ∀ (m k : Nat) (A L : List Int), k ≤ o.length → o.length - k < m → A.length = ps.length → (∀ i ∈ o.drop k, A.getD i.toNat 0 = -1) → L.length ≤ k → (∀ x ∈ L, 0 ≤ x ∧ x < sz) →
    DL32_1 n m sz o (o.length : Int) (k : Int) ps A L = some (tid [] (ffo sz ps (o.drop k) (A, L)).1, 0)
  | 0, k, A, L, _, h, _, _, _, _ => by omega
  | m + 1, k, A, L, hk, h, hA, hAn, hL, hr => by
    have h8 := hj.len
    have hlo := hj.lo
    have hhi := hj.hi
    rw [DL32_1_succ]
    unfold DF32_1
    by_cases hlt : k < o.length
    · have hi := ho _ (List.getElem_mem hlt)
      have hp := hj.ok _ (pc_mem hi.1 hi.2)
      have hul := up_len (sz := sz) (pc ps o[k]) (ffp_le (pc ps o[k]) L)
      have hfl := ffp_le (pc ps o[k]) L
      have hrr := rm_rng hr (by omega : 0 ≤ sz) (ffp (pc ps o[k]) L)
      have hfr := ffp_rm (L := L) hp.2
      have hix := idx_pc hi.1 hi.2
      have hin : inB o[k] A.length = true := by rw [show o[k] = (o[k].toNat : Int) by omega]; exact inB_nat (by omega)
      have hgA : idx A o[k] = some (-1) := by
        have := hAn o[k] (by rw [drop_cons hlt]; exact List.mem_cons_self)
        rw [idx_int (k := o[k].toNat) (by omega) (by omega), ← this, List.getD_eq_getElem?_getD, List.getElem?_eq_getElem (by omega), Option.getD_some]
      have hnd : o[k] ∉ o.drop (k + 1) := by
        have := hd.sublist (List.drop_sublist k o)
        rw [drop_cons hlt, List.nodup_cons] at this
        exact this.1
      have ih := fit_loop n hn hj ho hol hd m (k + 1) (A.set o[k].toNat (ffp (pc ps o[k]) L)) (up sz L (ffp (pc ps o[k]) L) (pc ps o[k])) (by omega) (by omega) (by simp [hA]) (fun i hii => by
        have hi2 := ho i (List.mem_of_mem_drop hii)
        have hne : o[k].toNat ≠ i.toNat := fun e => by
          have : i = o[k] := by omega
          rw [this] at hii
          exact hnd hii
        rw [List.getD_eq_getElem?_getD, List.getElem?_set, if_neg hne, ← List.getD_eq_getElem?_getD]
        exact hAn i (by rw [drop_cons hlt]; exact List.mem_cons_of_mem _ hii)) (by omega) (up_rng2 hj hi hr)
      rw [dlt_t hlt, cond_true, idx_nat hlt, Option.bind_some, decide_eq_false (show ¬ o[k] < 0 by omega), decide_eq_false (show ¬ o[k] ≥ (ps.length : Int) by omega)]
      simp only [beq_self_eq_true, cond_true, Option.bind_some, cond_false]
      rw [hin, cond_true, hgA, Option.bind_some, decide_eq_false (by omega), cond_false, idxr_eq hn hi L (by omega), Option.bind_some, drop_cons hlt]
      have hfin : ffo sz ps (o[k] :: o.drop (k + 1)) (A, L) = ffo sz ps (o.drop (k + 1)) (A.set o[k].toNat (ffp (pc ps o[k]) L), up sz L (ffp (pc ps o[k]) L) (pc ps o[k])) := rfl
      rw [hfin]
      have hup : ∀ q : List Int, q = (if ffp (pc ps o[k]) L = L.length then L ++ [sz] else L) → q.set (ffp (pc ps o[k]) L) (rm sz L (ffp (pc ps o[k]) L) - pc ps o[k]) = up sz L (ffp (pc ps o[k]) L) (pc ps o[k]) := fun q hq => by rw [hq]; rfl
      generalize hs : ffp (pc ps o[k]) L = s at *
      by_cases e2 : s < L.length
      · have hroom : rm sz L s = L[s] := rm_get e2
        rw [if_pos e2, decide_eq_false (show ¬ (s : Int) < 0 by omega), cond_false, inB_nat e2, cond_true, idx_nat e2, Option.bind_some, hix, Option.bind_some, cond_true, Option.bind_some, Option.bind_some, ← hroom, wr_ok (x := rm sz L s - pc ps o[k]) (by omega) (by omega), Int.toNat_natCast, hup L (by rw [if_neg (by omega)]), wr_succ (by omega)]
        exact ih
      · have e3 : s = L.length := by omega
        have hroom : rm sz L s = sz := by unfold rm; rw [List.getD_eq_getElem?_getD, List.getElem?_eq_none (by omega), Option.getD_none]
        have hsl : L.length < (L ++ [sz]).length := by simp
        have hg : (L ++ [sz])[L.length] = sz := by simp
        have hu := hup (L ++ [sz]) (by rw [if_pos e3])
        rw [hroom, e3] at hu
        rw [e3] at ih
        rw [if_neg e2, decide_eq_true (show (-1 : Int) < 0 by omega), cond_true, lim_dec (by omega), cond_true, inB_nat hsl, cond_true, idx_nat hsl, Option.bind_some, hix, Option.bind_some, cond_true, Option.bind_some, Option.bind_some, hg, wr_ok (x := sz - pc ps o[k]) (by omega) (by omega), Int.toNat_natCast, hu, wr_succ (by omega), e3]
        exact ih
    · have hAl := ffo_len sz ps [] (A, L)
      rw [dlt_f hlt, cond_false, List.drop_of_length_le (by omega), tid_eq hn A (by omega), Option.bind_some]
      rfl
/-- A whole order. -/
def Ord (ps o : List Int) : Prop := o.Perm ((List.range ps.length).map fun i : Nat => (i : Int))
theorem Ord.nd {ps o : List Int} (h : Ord ps o) : o.Nodup := by
  refine h.nodup_iff.2 ?_
  rw [List.Nodup, List.pairwise_map]
  exact (List.pairwise_lt_range).imp (fun h => by omega)
theorem Ord.rng {ps o : List Int} (h : Ord ps o) : ∀ i ∈ o, 0 ≤ i ∧ i < ps.length := fun i hi => by
  obtain ⟨k, hk, rfl⟩ := List.mem_map.1 (h.mem_iff.1 hi)
  have := List.mem_range.1 hk
  omega
theorem Ord.len {ps o : List Int} (h : Ord ps o) : o.length = ps.length := by
  rw [h.length_eq]; simp
theorem Ord.mem {ps o : List Int} (h : Ord ps o) : ∀ j : Nat, j < ps.length → (j : Int) ∈ o := fun j hj =>
  h.mem_iff.2 (List.mem_map.2 ⟨j, List.mem_range.2 hj, rfl⟩)
def ffA (sz : Int) (ps o : List Int) : List Int × List Int := ffo sz ps o (zer ps.length, [])
theorem Fit_eq {sz : Int} {ps o : List Int} (hj : Job sz ps) (h : Ord ps o) : D32 N sz ps o = some (tid [] (ffA sz ps o).1, 0) := by
  have h8 := hj.len
  have hl := h.len
  unfold D32
  rw [Check_eq hN1, Option.bind_some, chk_job.2 hj, bne_self_eq_false, cond_false, show ((o.length : Int) != (ps.length : Int)) = false by simp [hl], cond_false, rep_eq _ hj.len, Option.bind_some]
  have := fit_loop N hN1 hj h.rng (by omega) h.nd N.1 0 (List.replicate ps.length (-1)) [] (by omega) (by have : N.1 = 1000000 := rfl; omega) (by simp) (fun i hi => by
    have := h.rng i hi
    rw [List.getD_eq_getElem?_getD, List.getElem?_replicate, if_pos (by omega), Option.getD_some]) (by simp) (by simp)
  rw [show ((0 : Nat) : Int) = 0 from rfl, List.drop_zero] at this
  rw [this]
  unfold ffA zer
  rw [ffo_same sz ps o (List.replicate ps.length (-1)) (List.replicate ps.length 0) [] (by simp) (fun j hj2 => ?_) (fun i hi => (h.rng i hi).1)]
  have : ¬ j < ps.length := fun hh => hj2 (h.mem j hh)
  rw [List.getElem?_eq_none (by simp; omega), List.getElem?_eq_none (by simp; omega)]
theorem Filled_eq {sz : Int} {ps o : List Int} (hj : Job sz ps) (h : Ord ps o) : D51 N sz ps o = some (tid [] (ffA sz ps o).1, (ffA sz ps o).2) :=
  filled_eq hN1 hj h.rng (by have := h.len; have := hj.len; omega)
end Go.Proofs.YtgmonagekfjnmaaDoor
set_option linter.unusedVariables false
set_option linter.unusedSimpArgs false
set_option maxRecDepth 100000
namespace Go.Proofs.YtgmonagekfjnmaaDoor
open Go.Vi
/-D 55 -/
/-D 10 -/
end Go.Proofs.YtgmonagekfjnmaaDoor
set_option linter.unusedVariables false
set_option linter.unusedSimpArgs false
namespace Go.Proofs.YtgmonagekfjnmaaDoor
open Go.Vi
/-! Sums over sheets. -/
def sumr (f : Nat → Int) : Nat → Int
  | 0 => 0
  | m + 1 => sumr f m + f m
theorem sumr_add (f g : Nat → Int) : ∀ m, sumr (fun s => f s + g s) m = sumr f m + sumr g m
  | 0 => rfl
  | m + 1 => by simp only [sumr]; rw [sumr_add f g m]; omega
theorem sumr_le {f g : Nat → Int} : ∀ m, (∀ s < m, f s ≤ g s) → sumr f m ≤ sumr g m
  | 0, _ => Int.le_refl _
  | m + 1, h => by
    have h1 := sumr_le m (fun s hs => h s (by omega))
    have h2 := h m (by omega)
    simp only [sumr]
    omega
theorem sumr_zero : ∀ m, sumr (fun _ => 0) m = 0
  | 0 => rfl
  | m + 1 => by simp only [sumr]; rw [sumr_zero m]; rfl
theorem sumr_one (x c : Int) : ∀ m : Nat, 0 ≤ x → sumr (fun s => if x = (s : Int) then c else 0) m = if x < m then c else 0
  | 0, h => by rw [if_neg (by omega)]; rfl
  | m + 1, h => by
    simp only [sumr]
    rw [sumr_one x c m h]
    by_cases h1 : x < m
    · rw [if_pos h1, if_neg (by omega), if_pos (by omega)]; omega
    · rw [if_neg h1]
      by_cases h2 : x = m
      · rw [if_pos h2, if_pos (by omega)]; omega
      · rw [if_neg h2, if_neg (by omega)]; omega
theorem sumr_mul (c : Int) (f : Nat → Int) : ∀ m, sumr (fun s => c * f s) m = c * sumr f m
  | 0 => by simp [sumr]
  | m + 1 => by simp only [sumr]; rw [sumr_mul c f m, Int.mul_add]
theorem sumr_const (c : Int) : ∀ m : Nat, sumr (fun _ => c) m = c * m
  | 0 => by simp [sumr]
  | m + 1 => by
    simp only [sumr]
    rw [sumr_const c m, Int.natCast_add, Int.mul_add]
    omega
theorem sumr_congr {f g : Nat → Int} : ∀ m, (∀ s < m, f s = g s) → sumr f m = sumr g m
  | 0, _ => rfl
  | m + 1, h => by simp only [sumr]; rw [sumr_congr m (fun s hs => h s (by omega)), h m (by omega)]
/-- The pieces of a sheet. -/
def sel : List Int → List Int → Int → List Int
  | p :: ps, x :: l, s => if x = s then p :: sel ps l s else sel ps l s
  | _, _, _ => []
def tot : List Int → Int
  | [] => 0
  | p :: r => p + tot r
/-- What is added up of pieces. -/
structure Add (f : List Int → Int) : Prop where
  nil : f [] = 0
  cons : ∀ p r, f (p :: r) = f [p] + f r
theorem tot_add : Add tot := ⟨rfl, fun p r => by simp [tot]⟩
theorem bal_add (sz k : Int) : Add (bal sz k) := ⟨rfl, fun p r => by simp [bal]⟩
theorem blf_add (sz k : Int) : Add (blf sz k) := ⟨rfl, fun p r => by simp [blf]⟩
theorem bsm_add (sz k : Int) : Add (bsm sz k) := ⟨rfl, fun p r => by simp [bsm]⟩
theorem sum_sel {f : List Int → Int} (hf : Add f) (m : Nat) : ∀ (ps l : List Int), ps.length = l.length → (∀ x ∈ l, 0 ≤ x ∧ x < m) → sumr (fun s => f (sel ps l (s : Int))) m = f ps
  | [], [], _, _ => by
    simp only [sel, hf.nil]
    exact sumr_zero m
  | p :: ps, x :: l, h, hx => by
    have h0 := hx x (by simp)
    have ih := sum_sel hf m ps l (by simpa using h) (fun y hy => hx y (by simp [hy]))
    have e : ∀ s : Nat, f (sel (p :: ps) (x :: l) (s : Int)) = (if x = (s : Int) then f [p] else 0) + f (sel ps l (s : Int)) := fun s => by
      simp only [sel]
      split
      · rw [hf.cons]
      · omega
    rw [sumr_congr m (fun s _ => e s), sumr_add, ih, sumr_one _ _ _ h0.1, if_pos h0.2, hf.cons p ps]
  | [], _ :: _, h, _ => by simp at h
  | _ :: _, [], h, _ => by simp at h
theorem tot_sel (s : Int) : ∀ (ps l : List Int), tot (sel ps l s) = usd ps l s
  | p :: ps, x :: l => by
    simp only [sel, usd]
    split
    · simp only [tot]; rw [tot_sel s ps l]
    · rw [tot_sel s ps l]; omega
  | [], [] => rfl
  | [], _ :: _ => rfl
  | _ :: _, [] => rfl
theorem sel_mem (s : Int) : ∀ (ps l : List Int), ∀ p ∈ sel ps l s, p ∈ ps
  | p :: ps, x :: l, q, h => by
    simp only [sel] at h
    split at h
    · rcases List.mem_cons.1 h with rfl | h
      · simp
      · exact List.mem_cons_of_mem _ (sel_mem s ps l q h)
    · exact List.mem_cons_of_mem _ (sel_mem s ps l q h)
  | [], [], _, h => by cases h
  | [], _ :: _, _, h => by cases h
  | _ :: _, [], _, h => by cases h
/-! One sheet. -/
def bhA (sz k : Int) : List Int → Int
  | [] => 0
  | p :: r => (if sz - k < p ∨ sz < 2 * p then p else 0) + bhA sz k r
theorem one_sheet {sz k : Int} (hk : 0 ≤ k) (hk2 : 2 * k ≤ sz) : ∀ (l : List Int), (∀ p ∈ l, 1 ≤ p ∧ p ≤ sz) →
    0 ≤ bal sz k l ∧ 0 ≤ bsm sz k l ∧ 0 ≤ blf sz k l ∧ 0 ≤ bhA sz k l ∧ bhA sz k l + bsm sz k l ≤ tot l ∧ (bal sz k l = 0 → bhA sz k l = 0 ∧ blf sz k l = 0) ∧ (1 ≤ bal sz k l → sz + 1 ≤ 2 * bhA sz k l) ∧ (2 ≤ bal sz k l → sz + 1 ≤ bhA sz k l) ∧ (bsm sz k l = 0 ∨ k ≤ bsm sz k l) ∧ (bal sz k l = 1 → blf sz k l = sz - bhA sz k l ∨ (blf sz k l = 0 ∧ sz - k + 1 ≤ bhA sz k l))
  | [], _ => by simp [bal, bsm, blf, bhA, tot]
  | p :: r, h => by
    have hp := h p (by simp)
    obtain ⟨h1, h2, h3, h4, h5, h6, h7, h8, h9, h10⟩ := one_sheet hk hk2 r (fun q hq => h q (by simp [hq]))
    simp only [bal, bsm, blf, bhA, tot]
    generalize bal sz k r = A at *
    generalize bsm sz k r = S at *
    generalize blf sz k r = F at *
    generalize bhA sz k r = H at *
    generalize tot r = T at *
    by_cases e1 : sz - k < p
    · rw [if_pos (.inl e1), if_pos (.inl e1), if_pos e1, if_pos (.inl e1)]
      refine ⟨by omega, by omega, by omega, by omega, by omega, by omega, by omega, by omega, by omega, by omega⟩
    · by_cases e2 : sz < 2 * p
      · rw [if_pos (.inr e2), if_pos (.inr e2), if_neg e1, if_pos e2, if_pos (.inr e2)]
        refine ⟨by omega, by omega, by omega, by omega, by omega, by omega, by omega, by omega, by omega, by omega⟩
      · have e3 : ¬ (sz - k < p ∨ sz < 2 * p) := by omega
        rw [if_neg e3, if_neg e3, if_neg e1, if_neg e2, if_neg e3]
        by_cases e4 : k ≤ p
        · rw [if_pos e4]
          refine ⟨by omega, by omega, by omega, by omega, by omega, by omega, by omega, by omega, by omega, by omega⟩
        · rw [if_neg e4]
          refine ⟨by omega, by omega, by omega, by omega, by omega, by omega, by omega, by omega, by omega, by omega⟩
theorem sheet_bnd {sz k : Int} (hk : 0 ≤ k) (hk2 : 2 * k ≤ sz) {l : List Int} (h : ∀ p ∈ l, 1 ≤ p ∧ p ≤ sz) (ht : tot l ≤ sz) : bsm sz k l + sz * bal sz k l ≤ sz + blf sz k l ∧ bal sz k l ≤ 1 := by
  obtain ⟨h1, h2, h3, h4, h5, h6, h7, h8, h9, h10⟩ := one_sheet hk hk2 l h
  have hb : bal sz k l = 0 ∨ bal sz k l = 1 := by
    rcases Int.lt_or_le 1 (bal sz k l) with h | h
    · have := h8 h; omega
    · omega
  rcases hb with e | e
  · rw [e]
    simp only [Int.mul_zero]
    omega
  · have := h10 e
    rw [e]
    simp only [Int.mul_one]
    omega
theorem bound_le {sz k : Int} {ps l : List Int} (h : Pln sz ps l) (hk : 0 ≤ k) (hk2 : k ≤ sz / 2) : bnd sz ps k ≤ mny l := by
  have hlo := h.job.lo
  have h0 := mny_nn l
  have hr : ∀ x ∈ l, 0 ≤ x ∧ x < ((mny l).toNat : Nat) := fun x hx => by
    have h1 := h.rng x hx
    have h2 := mny_lt hx
    omega
  have hone : ∀ s : Nat, bsm sz k (sel ps l (s : Int)) + sz * bal sz k (sel ps l (s : Int)) ≤ sz + blf sz k (sel ps l (s : Int)) ∧ bal sz k (sel ps l (s : Int)) ≤ 1 := fun s => by
    refine sheet_bnd hk (by omega) (fun p hp => h.job.ok p (sel_mem _ _ _ p hp)) ?_
    rw [tot_sel]
    by_cases hx : (s : Int) ∈ l
    · exact h.fit _ hx
    · rw [usd_none hx]; omega
  have s1 := sumr_le (mny l).toNat (fun s _ => (hone s).1)
  have s2 := sumr_le (mny l).toNat (fun s _ => (hone s).2)
  rw [sumr_add, sumr_add, sumr_mul, sumr_const, sum_sel (bsm_add sz k) _ ps l h.len.symm hr, sum_sel (bal_add sz k) _ ps l h.len.symm hr, sum_sel (blf_add sz k) _ ps l h.len.symm hr] at s1
  rw [sumr_const, sum_sel (bal_add sz k) _ ps l h.len.symm hr] at s2
  rw [show (((mny l).toNat : Nat) : Int) = mny l by omega] at s1 s2
  unfold bnd
  have hd : bsm sz k ps - blf sz k ps ≤ sz * (mny l - bal sz k ps) := by
    rw [Int.mul_sub]
    omega
  have hd0 : 0 ≤ sz * (mny l - bal sz k ps) := Int.mul_nonneg (by omega) (by omega)
  have hlt : (max (bsm sz k ps - blf sz k ps) 0 + sz - 1) / sz < mny l - bal sz k ps + 1 := by
    refine Int.ediv_lt_of_lt_mul (by omega) ?_
    rw [Int.add_mul, Int.one_mul, Int.mul_comm]
    omega
  omega
/-! The law's bound. -/
theorem total_loop (n : Nat × Nat) {l : List Int} (hb : ∀ p ∈ l, 0 ≤ p ∧ p ≤ 24) (hl : l.length ≤ 100) : ∀ (m k : Nat) (v : Int), k ≤ l.length → l.length - k < m → 0 ≤ v → v ≤ 24 * k → DL49_1 n m v l (l.length : Int) (k : Int) = some (v + tot (l.drop k))
  | 0, k, v, _, h, _, _ => by omega
  | m + 1, k, v, hk, h, h0, h1 => by
    rw [DL49_1_succ]
    unfold DF49_1
    by_cases hlt : k < l.length
    · have hp := hb _ (List.getElem_mem hlt)
      rw [dlt_t hlt, cond_true, idx_nat hlt, Option.bind_some, wr_ok (x := v + l[k]) (by omega) (by omega), wr_succ (by omega), total_loop n hb hl m (k + 1) _ (by omega) (by omega) (by omega) (by omega), drop_cons hlt]
      simp only [tot]
      congr 1
      omega
    · rw [dlt_f hlt, cond_false, List.drop_of_length_le (by omega)]
      simp [tot]
theorem total_eq {n : Nat × Nat} (hn : 1000 ≤ n.1) {l : List Int} (hb : ∀ p ∈ l, 0 ≤ p ∧ p ≤ 24) (hl : l.length ≤ 100) : D49 n l = some (tot l) := by
  unfold D49
  have := total_loop n hb hl n.1 0 0 (by omega) (by omega) (by omega) (by omega)
  rw [show ((0 : Nat) : Int) = 0 from rfl] at this
  rw [this]
  simp
theorem tot_rng : ∀ {l : List Int}, (∀ p ∈ l, 0 ≤ p ∧ p ≤ 24) → 0 ≤ tot l ∧ tot l ≤ 24 * l.length
  | [], _ => by simp [tot]
  | p :: l, h => by
    have h1 := h p (by simp)
    have h2 := tot_rng (l := l) (fun q hq => h q (by simp [hq]))
    simp only [tot, List.length_cons]
    omega
theorem tot_perm {l l' : List Int} (h : l.Perm l') : tot l = tot l' := by
  induction h with
  | nil => rfl
  | cons x _ ih => simp only [tot]; rw [ih]
  | swap x y l => simp only [tot]; omega
  | trans _ _ ih1 ih2 => exact ih1.trans ih2
theorem tot_app : ∀ a b : List Int, tot (a ++ b) = tot a + tot b
  | [], b => by simp [tot]
  | x :: a, b => by
    simp only [List.cons_append, tot]
    rw [tot_app a b]
    omega
def gA (A : List Int) (i : Int) : Int := A.getD i.toNat 0
/-- What is used of a sheet by some pieces. -/
def udn (ps o A : List Int) (s : Int) : Int := tot (o.map fun i => if gA A i = s then pc ps i else 0)
theorem usd_udn (s : Int) : ∀ (ps A : List Int), A.length = ps.length → usd ps A s = tot ((List.range ps.length).map fun i : Nat => if A.getD i 0 = s then ps.getD i 0 else 0)
  | [], [], _ => rfl
  | p :: ps, x :: A, h => by
    rw [List.length_cons, List.range_succ_eq_map, List.map_cons, List.map_map]
    simp only [usd, tot]
    rw [usd_udn s ps A (by simpa using h)]
    rfl
  | [], _ :: _, h => by simp at h
  | _ :: _, [], h => by simp at h
theorem usd_ord {ps o A : List Int} (h : Ord ps o) (hA : A.length = ps.length) (s : Int) : usd ps A s = udn ps o A s := by
  unfold udn
  rw [tot_perm (List.Perm.map _ h), usd_udn s ps A hA, List.map_map]
  rfl
theorem rm_end {sz : Int} (L : List Int) : rm sz L L.length = sz := by
  unfold rm
  rw [List.getD_eq_getElem?_getD, List.getElem?_eq_none (by omega), Option.getD_none]
structure FI (sz : Int) (ps dn A L : List Int) : Prop where
  len : A.length = ps.length
  rng : ∀ i ∈ dn, 0 ≤ gA A i ∧ gA A i < L.length
  all : ∀ s : Nat, s < L.length → ∃ i ∈ dn, gA A i = s
  left : ∀ (s : Nat) (h : s < L.length), L[s] = sz - udn ps dn A s
  lr : ∀ x ∈ L, 0 ≤ x ∧ x < sz
  two : ∀ (s t : Nat) (hs : s < L.length) (ht : t < L.length), s ≠ t → L[s] + L[t] < sz
theorem FI.none {sz : Int} {ps dn A L : List Int} (h : FI sz ps dn A L) {s : Nat} (hs : L.length ≤ s) : udn ps dn A s = 0 := by
  unfold udn
  have : ∀ i ∈ dn, (if gA A i = (s : Int) then pc ps i else 0) = 0 := fun i hi => by
    have := h.rng i hi
    rw [if_neg (by omega)]
  rw [List.map_congr_left this]
  clear this h
  induction dn with
  | nil => rfl
  | cons x r ih => simp only [List.map_cons, tot]; rw [ih]; rfl
theorem FI.rm {sz : Int} {ps dn A L : List Int} (h : FI sz ps dn A L) {s : Nat} (hs : s ≤ L.length) : rm sz L s = sz - udn ps dn A s := by
  by_cases e : s < L.length
  · rw [rm_get e]; exact h.left s e
  · have : s = L.length := by omega
    rw [h.none (by omega), this, rm_end]
    omega
theorem FI.step {sz : Int} {ps dn A L : List Int} (hj : Job sz ps) (h : FI sz ps dn A L) {i : Int} (hi : 0 ≤ i ∧ i < ps.length) (hdr : ∀ j ∈ dn, 0 ≤ j ∧ j < ps.length) (hn : i ∉ dn) :
    FI sz ps (dn ++ [i]) (fst1 sz ps (A, L) i).1 (fst1 sz ps (A, L) i).2 := by
  have hp := hj.ok _ (pc_mem hi.1 hi.2)
  have hfl := ffp_le (pc ps i) L
  have hul := up_len (sz := sz) (pc ps i) hfl
  have hlen := h.len
  have hrm := h.rm hfl
  have hroom := ffp_rm (L := L) hp.2
  have hbel : ∀ (s : Nat) (hs : s < L.length), s < ffp (pc ps i) L → L[s] < pc ps i := fun s hs hh => ffp_below hs hh
  simp only [fst1]
  generalize hS : ffp (pc ps i) L = S at *
  have g1 : ∀ j ∈ dn, gA (A.set i.toNat (S : Int)) j = gA A j := fun j hj2 => by
    have h1 := hdr j hj2
    have : i.toNat ≠ j.toNat := fun e => by
      have : j = i := by omega
      rw [this] at hj2; exact hn hj2
    unfold gA
    rw [List.getD_eq_getElem?_getD, List.getElem?_set, if_neg this, ← List.getD_eq_getElem?_getD]
  have g2 : gA (A.set i.toNat (S : Int)) i = S := by
    unfold gA
    rw [List.getD_eq_getElem?_getD, List.getElem?_set, if_pos rfl, if_pos (by omega), Option.getD_some]
  have hud : ∀ s : Int, udn ps (dn ++ [i]) (A.set i.toNat (S : Int)) s = udn ps dn A s + if (S : Int) = s then pc ps i else 0 := fun s => by
    unfold udn
    rw [List.map_append, tot_app, List.map_cons, List.map_nil, g2]
    simp only [tot]
    rw [List.map_congr_left (fun j hj2 => by rw [g1 j hj2])]
    omega
  have hget : ∀ (s : Nat) (hs : s < (up sz L S (pc ps i)).length), (up sz L S (pc ps i))[s] = if S = s then Proofs.YtgmonagekfjnmaaDoor.rm sz L S - pc ps i else Proofs.YtgmonagekfjnmaaDoor.rm sz L s := fun s hs => up_get _ hs
  refine ⟨by simp [hlen], fun j hj2 => ?_, fun s hs => ?_, fun s hs => ?_, ?_, fun s t hs ht hne => ?_⟩
  · rcases List.mem_append.1 hj2 with h1 | h1
    · rw [g1 j h1]
      have := h.rng j h1
      omega
    · rw [List.mem_singleton.1 h1, g2]
      omega
  · by_cases e : s = S
    · exact ⟨i, by simp, by rw [g2, e]⟩
    · obtain ⟨j, hj2, e2⟩ := h.all s (by omega)
      exact ⟨j, by simp [hj2], by rw [g1 j hj2]; exact e2⟩
  · rw [hget s hs, hud]
    by_cases e : S = s
    · rw [if_pos e, if_pos (by omega), hrm, ← e]
      omega
    · rw [if_neg e, if_neg (by omega), h.rm (by omega)]
      omega
  · refine up_rng h.lr (by have := hj.lo; omega) (by omega) hp.1 hroom
  · rw [hget s hs, hget t ht]
    have key : ∀ (u : Nat), u ≠ S → u < (up sz L S (pc ps i)).length → Proofs.YtgmonagekfjnmaaDoor.rm sz L S - pc ps i + Proofs.YtgmonagekfjnmaaDoor.rm sz L u < sz := fun u hu hul2 => by
      have hul3 : u < L.length := by omega
      rw [rm_get hul3]
      by_cases e : S < L.length
      · rw [rm_get e]
        have := h.two S u e hul3 (fun e => hu e.symm)
        omega
      · have e2 : S = L.length := by omega
        have := hbel u hul3 (by omega)
        rw [e2, rm_end]
        omega
    by_cases e1 : S = s
    · rw [if_pos e1]
      rw [if_neg (by omega)]
      exact key t (by omega) ht
    · rw [if_neg e1]
      by_cases e2 : S = t
      · rw [if_pos e2]
        have := key s (by omega) hs
        omega
      · rw [if_neg e2]
        have h1 : s < L.length := by omega
        have h2 : t < L.length := by omega
        rw [rm_get h1, rm_get h2]
        exact h.two s t h1 h2 hne
theorem FI.fold {sz : Int} {ps : List Int} (hj : Job sz ps) : ∀ (o dn : List Int) (t : List Int × List Int), FI sz ps dn t.1 t.2 → (dn ++ o).Nodup → (∀ j ∈ dn ++ o, 0 ≤ j ∧ j < ps.length) → FI sz ps (dn ++ o) (ffo sz ps o t).1 (ffo sz ps o t).2
  | [], dn, t, h, _, _ => by rw [List.append_nil]; exact h
  | i :: o, dn, t, h, hn, hr => by
    have h1 := FI.step hj h (hr i (by simp)) (fun j hj2 => hr j (by simp [hj2])) (fun hm => by
      have := (List.nodup_append.1 hn).2.2 i hm i (by simp)
      exact this rfl)
    have := FI.fold hj o (dn ++ [i]) (fst1 sz ps t i) h1 (by simpa using hn) (by simpa using hr)
    rw [List.append_assoc, List.singleton_append] at this
    exact this
theorem ffA_FI {sz : Int} {ps o : List Int} (hj : Job sz ps) (h : Ord ps o) : FI sz ps o (ffA sz ps o).1 (ffA sz ps o).2 := by
  have := FI.fold hj o [] (zer ps.length, []) ⟨by simp [zer], by simp, by simp, by simp, by simp, by simp⟩ (by simpa using h.nd) (by simpa using h.rng)
  unfold ffA
  simpa using this
/-! The plan that is read off. -/
theorem usd_map {f : Int → Int} {x : Int} : ∀ {ps l : List Int}, (∀ y ∈ l, f y = f x → y = x) → usd ps (l.map f) (f x) = usd ps l x
  | [], [], _ => rfl
  | [], _ :: _, _ => rfl
  | _ :: _, [], _ => rfl
  | p :: ps, y :: l, h => by
    simp only [List.map_cons, usd]
    rw [usd_map (fun z hz => h z (by simp [hz]))]
    by_cases e : y = x
    · rw [if_pos e, if_pos (by rw [e])]
    · rw [if_neg e, if_neg (fun hh => e (h y (by simp) hh))]
theorem ps0_inj : ∀ {l : List Int} {x y : Int}, x ∈ l → y ∈ l → ps0 x l = ps0 y l → x = y := by
  intro l x y hx hy h
  have key : ∀ (l : List Int) (k : Nat) (x : Int), x ∈ l → ∃ i : Nat, fnd (fun y => x == y) k l = ((k + i : Nat) : Int) ∧ l[i]? = some x := by
    intro l
    induction l with
    | nil => intro k x hx; cases hx
    | cons z r ih =>
      intro k x hx
      unfold fnd
      by_cases e : x = z
      · exact ⟨0, by simp [e], by simp [e]⟩
      · obtain ⟨i, h1, h2⟩ := ih (k + 1) x ((List.mem_cons.1 hx).resolve_left e)
        refine ⟨i + 1, ?_, by simpa using h2⟩
        rw [if_neg (by simpa using e), h1]
        omega
  obtain ⟨i, h1, h2⟩ := key l 0 x hx
  obtain ⟨j, h3, h4⟩ := key l 0 y hy
  unfold ps0 at h
  rw [h1, h3] at h
  have : i = j := by omega
  subst this
  rw [h2] at h4
  exact Option.some.inj h4
theorem tid_usd {ps l : List Int} {x : Int} (hx : x ∈ l) : usd ps (tid [] l) (ps0 x (dd [] l)) = usd ps l x := by
  rw [tid_map]
  have hm : ∀ y ∈ l, y ∈ dd [] l := fun y hy => (dd_mem y l []).2 (.inr hy)
  exact usd_map (f := fun x => ps0 x (dd [] l)) (fun y hy e => ps0_inj (hm y hy) (hm x hx) e)
theorem tid_oer : ∀ (l met : List Int), oer met.length (tid met l) = 0
  | [], met => rfl
  | x :: l, met => by
    unfold tid
    split
    · rename_i h
      have hl := fnd_lt h
      unfold ps0 at hl
      unfold oer
      rw [if_neg (by omega), if_neg (by omega), Int.max_eq_left (by omega)]
      exact tid_oer l met
    · have ih := tid_oer l (met ++ [x])
      unfold oer
      rw [if_neg (by omega), if_neg (by omega), Int.max_eq_right (by omega)]
      rw [List.length_append, List.length_singleton] at ih
      exact ih
theorem dd_nodup : ∀ (l met : List Int), met.Nodup → (dd met l).Nodup
  | [], met, h => h
  | x :: l, met, h => by
    unfold dd
    split
    · exact dd_nodup l met h
    · rename_i hx
      refine dd_nodup l _ ?_
      rw [List.nodup_append]
      refine ⟨h, by simp, fun a ha b hb e => ?_⟩
      rw [List.mem_singleton.1 hb] at e
      rw [e] at ha
      exact hx ha
theorem tid_full (l : List Int) : mny (tid [] l) = (dd [] l).length := by
  have := tid_mny l l.length (Nat.le_refl _)
  rw [List.take_length, ← tid_len l [], List.take_length] at this
  exact this
theorem dd_range {l : List Int} {m : Nat} (h1 : ∀ x ∈ l, 0 ≤ x ∧ x < m) (h2 : ∀ s : Nat, s < m → (s : Int) ∈ l) : (dd [] l).length = m := by
  have hp : (dd [] l).Perm ((List.range m).map fun i : Nat => (i : Int)) := by
    refine (List.perm_ext_iff_of_nodup (dd_nodup l [] (by simp)) ?_).2 (fun x => ?_)
    · rw [List.Nodup, List.pairwise_map]
      exact (List.pairwise_lt_range).imp (fun h => by omega)
    · rw [dd_mem]
      constructor
      · rintro (h | h)
        · cases h
        · have := h1 x h
          exact List.mem_map.2 ⟨x.toNat, List.mem_range.2 (by omega), by omega⟩
      · intro h
        obtain ⟨k, hk, rfl⟩ := List.mem_map.1 h
        exact .inr (h2 k (List.mem_range.1 hk))
  rw [hp.length_eq]
  simp
theorem FI.mem {sz : Int} {ps o A L : List Int} (h : FI sz ps o A L) (ho : Ord ps o) : (∀ x ∈ A, 0 ≤ x ∧ x < L.length) ∧ ∀ s : Nat, s < L.length → (s : Int) ∈ A := by
  have hl := h.len
  constructor
  · intro x hx
    obtain ⟨i, hi, e⟩ := List.getElem_of_mem hx
    have := h.rng i (ho.mem i (by omega))
    unfold gA at this
    rw [Int.toNat_natCast, List.getD_eq_getElem?_getD, List.getElem?_eq_getElem hi, Option.getD_some, e] at this
    exact this
  · intro s hs
    obtain ⟨i, hi, e⟩ := h.all s hs
    have hr := ho.rng i hi
    unfold gA at e
    rw [List.getD_eq_getElem?_getD, List.getElem?_eq_getElem (by omega), Option.getD_some] at e
    rw [← e]
    exact List.getElem_mem _
/-- First fit makes a plan with as many sheets. -/
theorem ffA_pln {sz : Int} {ps o : List Int} (hj : Job sz ps) (ho : Ord ps o) : Pln sz ps (tid [] (ffA sz ps o).1) ∧ mny (tid [] (ffA sz ps o).1) = ((ffA sz ps o).2.length : Int) := by
  have h := ffA_FI hj ho
  obtain ⟨m1, m2⟩ := h.mem ho
  have hl := h.len
  refine ⟨⟨hj, by rw [tid_len]; exact hl, tid_oer _ [], fun x hx => ?_⟩, by rw [tid_full, dd_range m1 m2]⟩
  rw [tid_map] at hx
  obtain ⟨y, hy, rfl⟩ := List.mem_map.1 hx
  rw [tid_usd hy, usd_ord ho hl]
  have hr := m1 y hy
  have := h.left y.toNat (by omega)
  have h2 := h.lr _ (List.getElem_mem (show y.toNat < (ffA sz ps o).2.length by omega))
  rw [show ((y.toNat : Nat) : Int) = y by omega] at this
  omega
theorem ffA_tot {sz : Int} {ps o : List Int} (hj : Job sz ps) (ho : Ord ps o) : tot ps = sumr (fun s => sz - rm sz (ffA sz ps o).2 s) (ffA sz ps o).2.length := by
  have h := ffA_FI hj ho
  obtain ⟨m1, m2⟩ := h.mem ho
  have hl := h.len
  rw [← sum_sel tot_add (ffA sz ps o).2.length ps (ffA sz ps o).1 hl.symm m1]
  refine sumr_congr _ (fun s hs => ?_)
  rw [tot_sel, usd_ord ho hl, rm_get hs, h.left s hs]
  omega
/-- One plan more. -/
def bst (t : Int × List Int × Int) (q : List Int) : Int × List Int × Int := if mny q < t.1 then (mny q, q, 1) else if mny q = t.1 then (t.1, t.2.1, t.2.2 + 1) else t
theorem bst_cnt : ∀ (l : List (List Int)) (t : Int × List Int × Int), 0 ≤ t.2.2 → 0 ≤ (l.foldl bst t).2.2 ∧ (l.foldl bst t).2.2 ≤ t.2.2 + l.length
  | [], t, h => by simp [h]
  | q :: l, t, h => by
    have h1 : 0 ≤ (bst t q).2.2 ∧ (bst t q).2.2 ≤ t.2.2 + 1 := by
      unfold bst
      split
      · simp only []; omega
      · split
        · simp only []; omega
        · omega
    have h2 := bst_cnt l (bst t q) h1.1
    rw [List.foldl_cons, List.length_cons]
    omega
theorem visit_eq (n : Nat × Nat) (q L : List Int) (hL : (L.length : Int) = mny q) (w : Int) (f : List Int) (c : Int) (hc : 0 ≤ c ∧ c ≤ 2000000) : D91io00111 n q L w f c = some ((), (bst (w, f, c) q).1, (bst (w, f, c) q).2.1, (bst (w, f, c) q).2.2, ()) := by
  unfold D91io00111 bst
  rw [hL]
  by_cases h1 : mny q < w
  · rw [decide_eq_true h1, cond_true, if_pos h1]
  · rw [decide_eq_false h1, cond_false, if_neg h1]
    by_cases h2 : mny q = w
    · rw [if_pos h2, show (mny q == w) = true by simpa using h2, cond_true, wr_ok (by omega) (by omega)]
    · rw [if_neg h2, beq_false_of_ne h2, cond_false]
theorem rm_up_hi {sz : Int} (L : List Int) : rm sz L L.length = sz := by unfold rm; rw [List.getD_eq_getElem?_getD, List.getElem?_eq_none (by omega), Option.getD_none]
theorem bounds_full (n : Nat) : bounds none (some (n : Int)) (some (n : Int)) n = true := by
  unfold bounds
  simp
theorem put_eq {sz : Int} {ps : List Int} (hj : Job sz ps) : ∀ (r b L : List Int), SI sz ps.length ps b L → (L.length : Int) = mny b → ps.drop b.length = r → ∀ d, r.length < d → ∀ t : Int × List Int × Int, 0 ≤ t.2.2 → t.2.2 + (pl sz ps.length r b L).length ≤ 1000000 →
    DT101f91io001110 N d b L ps t.1 t.2.1 t.2.2 sz = some ((), ps, ((pl sz ps.length r b L).foldl bst t).1, ((pl sz ps.length r b L).foldl bst t).2.1, ((pl sz ps.length r b L).foldl bst t).2.2, sz, ()) := by
  intro r
  induction r with
  | nil =>
    intro b L h hL hr d hd t ht ht2
    obtain ⟨d, rfl⟩ : ∃ k, d = k + 1 := ⟨d - 1, by omega⟩
    have hle := h.le
    have hb : b.length = ps.length := by have := List.drop_eq_nil_iff.1 hr; omega
    rw [DT101f91io001110_succ]
    unfold DB101f91io001110
    have e : pl sz ps.length [] b L = [b] := rfl
    rw [e] at ht2 ⊢
    rw [show ((b.length : Int) == (ps.length : Int)) = true by simp [hb], cond_true, visit_eq N b L hL _ _ _ ⟨ht, by omega⟩, Option.bind_some]
    rfl
  | cons p r ih =>
    intro b L h hL hr d hd t ht ht2
    obtain ⟨d, rfl⟩ : ∃ k, d = k + 1 := ⟨d - 1, by omega⟩
    have hb : b.length < ps.length := by
      rcases Nat.lt_or_ge b.length ps.length with h | h
      · exact h
      · rw [List.drop_eq_nil_of_le h] at hr; cases hr
    have hp : ps[b.length] = p ∧ ps.drop (b.length + 1) = r := by
      rw [drop_cons hb] at hr
      exact ⟨(List.cons.inj hr).1, (List.cons.inj hr).2⟩
    obtain ⟨hp1, hp2⟩ := hp
    have h8 := h.job.len
    have hlb := h.lb
    have hlo := h.job.lo
    have hhi := h.job.hi
    have hpr := hj.ok _ (List.getElem_mem hb)
    rw [hp1] at hpr
    have hmin : min (L.length + 1) ps.length = L.length + 1 := by omega
    rw [DT101f91io001110_succ]
    unfold DB101f91io001110
    rw [beq_false_of_ne (show (b.length : Int) ≠ (ps.length : Int) by omega), cond_false, wr_succ (by omega)]
    have loop : ∀ (e s : Nat), s + e = L.length + 1 → ∀ (m : Nat), e < m → ∀ t : Int × List Int × Int, 0 ≤ t.2.2 → t.2.2 + ((List.range' s e).flatMap fun s => if p ≤ rm sz L s then pl sz ps.length r (b ++ [(s : Int)]) (up sz L s p) else []).length ≤ 1000000 →
        DL101f91io001110_1 N (DT101f91io001110 N d) m b L (b.length : Int) ((L.length + 1 : Nat) : Int) (s : Int) ps sz t.1 t.2.1 t.2.2 =
          some ((), ps, (((List.range' s e).flatMap fun s => if p ≤ rm sz L s then pl sz ps.length r (b ++ [(s : Int)]) (up sz L s p) else []).foldl bst t).1, (((List.range' s e).flatMap fun s => if p ≤ rm sz L s then pl sz ps.length r (b ++ [(s : Int)]) (up sz L s p) else []).foldl bst t).2.1, (((List.range' s e).flatMap fun s => if p ≤ rm sz L s then pl sz ps.length r (b ++ [(s : Int)]) (up sz L s p) else []).foldl bst t).2.2, sz, ()) := by
      intro e
      induction e with
      | zero =>
        intro s hs m hm t ht ht2
        obtain ⟨m, rfl⟩ : ∃ k, m = k + 1 := ⟨m - 1, by omega⟩
        rw [DL101f91io001110_1_succ]
        unfold DF101f91io001110_1
        rw [dlt_f (by omega), cond_false]
        rfl
      | succ e ihe =>
        intro s hs m hm t ht ht2
        obtain ⟨m, rfl⟩ : ∃ k, m = k + 1 := ⟨m - 1, by omega⟩
        have h1 : s ≤ L.length := by omega
        have hrm := rm_rng h.rng (by omega : 0 ≤ sz) s
        have hul := up_len (sz := sz) p h1
        rw [List.range'_succ, List.flatMap_cons] at ht2 ⊢
        rw [DL101f91io001110_1_succ]
        unfold DF101f91io001110_1
        rw [dlt_t (by omega), cond_true, clone_eq N L (by omega), Option.bind_some]
        have hn1 : s + 1 + e = L.length + 1 := by omega
        -- what is done with the piece on this sheet
        have fin : ∀ (A : List Int), A = (if s = L.length then L ++ [sz] else L) →
            ((bif inB (s : Int) A.length then (idx A (s : Int)).bind fun x8' =>
              (idx ps (b.length : Int)).bind fun x9' =>
              (bif inB (s : Int) A.length then (idx A (s : Int)).bind fun x10' =>
                (bif inB (s : Int) (A.set (Int.toNat (s : Int)) (wr .i64 (x8' - x9'))).length then (idx (A.set (Int.toNat (s : Int)) (wr .i64 (x8' - x9'))) (s : Int)).bind fun x11' =>
                  (bif decide (x11' ≥ 0) then (bif ((b.length : Int) == (b.length : Int)) && bounds none (some (b.length : Int)) (some (b.length : Int)) b.length then (bif decide ((b.take (Int.toNat (b.length : Int))).length + [(s : Int)].length ≤ lim) && ((b.take (Int.toNat (b.length : Int))).isEmpty || ![(s : Int)].isEmpty) then (DT101f91io001110 N d ((b.take (Int.toNat (b.length : Int))) ++ [(s : Int)]) (A.set (Int.toNat (s : Int)) (wr .i64 (x8' - x9'))) ps t.1 t.2.1 t.2.2 sz).bind fun r12' =>
                        DL101f91io001110_2 N (DT101f91io001110 N d) (DL101f91io001110_1 N (DT101f91io001110 N d) m) b L (b.length : Int) ((L.length + 1 : Nat) : Int) (s : Int) r12'.2.1 r12'.2.2.2.2.2.1 r12'.2.2.1 r12'.2.2.2.1 r12'.2.2.2.2.1
                      else none)
                    else none)
                  else DL101f91io001110_2 N (DT101f91io001110 N d) (DL101f91io001110_1 N (DT101f91io001110 N d) m) b L (b.length : Int) ((L.length + 1 : Nat) : Int) (s : Int) ps sz t.1 t.2.1 t.2.2)
                else none)
              else none)
            else none) : Option R101f91io001110) =
            some ((), ps, ((((if p ≤ rm sz L s then pl sz ps.length r (b ++ [(s : Int)]) (up sz L s p) else []) ++ (List.range' (s + 1) e).flatMap fun s => if p ≤ rm sz L s then pl sz ps.length r (b ++ [(s : Int)]) (up sz L s p) else []).foldl bst t).1),
              ((((if p ≤ rm sz L s then pl sz ps.length r (b ++ [(s : Int)]) (up sz L s p) else []) ++ (List.range' (s + 1) e).flatMap fun s => if p ≤ rm sz L s then pl sz ps.length r (b ++ [(s : Int)]) (up sz L s p) else []).foldl bst t).2.1),
              ((((if p ≤ rm sz L s then pl sz ps.length r (b ++ [(s : Int)]) (up sz L s p) else []) ++ (List.range' (s + 1) e).flatMap fun s => if p ≤ rm sz L s then pl sz ps.length r (b ++ [(s : Int)]) (up sz L s p) else []).foldl bst t).2.2), sz, ()) := by
          intro A hA
          have hAs : A.set s (rm sz L s - p) = up sz L s p := by rw [hA]; rfl
          have hAl : s < A.length := by
            rw [hA]; split
            · simp; omega
            · omega
          have hAg : A[s] = rm sz L s := by
            subst hA
            by_cases he : s = L.length
            · subst he
              rw [rm_up_hi]
              simp
            · simp only [if_neg he]
              exact (rm_get (by omega)).symm
          have hAu : (up sz L s p)[s]'(by omega) = rm sz L s - p := by rw [up_get, if_pos rfl]
          rw [inB_nat hAl, cond_true, idx_nat hAl, Option.bind_some, idx_nat hb, Option.bind_some, cond_true, Option.bind_some, Int.toNat_natCast, hAg, hp1, wr_ok (by omega) (by omega), hAs, inB_nat (by omega), cond_true, idx_nat (by omega : s < (up sz L s p).length), Option.bind_some, hAu]
          unfold DL101f91io001110_2
          rw [wr_succ (by omega)]
          by_cases hf : p ≤ rm sz L s
          · rw [if_pos hf] at ht2
            rw [decide_eq_true (show rm sz L s - p ≥ 0 by omega), cond_true, if_pos hf, bounds_full, beq_self_eq_true, Bool.true_and, cond_true, Int.toNat_natCast, List.take_length, lim_dec (by omega)]
            simp only [List.isEmpty_cons, Bool.not_false, Bool.or_true, Bool.and_true, cond_true]
            have hch := h.child hb h1 (by omega) (by rw [hp1]; exact hf)
            rw [hp1] at hch
            rw [List.length_append] at ht2
            rw [ih _ _ hch (by rw [hul, mny_snoc]; omega) (by simp only [List.length_append, List.length_cons, List.length_nil]; exact hp2) d (by simp only [List.length_cons] at hd; omega) t ht (by omega), Option.bind_some, List.foldl_append]
            have hc := bst_cnt (pl sz ps.length r (b ++ [(s : Int)]) (up sz L s p)) t ht
            have := ihe (s + 1) hn1 m (by omega) ((pl sz ps.length r (b ++ [(s : Int)]) (up sz L s p)).foldl bst t) hc.1 (by omega)
            exact this
          · rw [if_neg hf, List.nil_append] at ht2
            rw [decide_eq_false (show ¬ rm sz L s - p ≥ 0 by omega), cond_false, if_neg hf, List.nil_append]
            exact ihe (s + 1) hn1 m (by omega) t ht ht2
        by_cases he : s = L.length
        · rw [show ((s : Int) == (L.length : Int)) = true by simp [he], cond_true, lim_dec (by omega), cond_true]
          exact fin _ (by rw [if_pos he])
        · rw [beq_false_of_ne (show (s : Int) ≠ (L.length : Int) by omega), cond_false]
          exact fin _ (by rw [if_neg he])
    have hpl : pl sz ps.length (p :: r) b L = (List.range' 0 (L.length + 1)).flatMap fun s => if p ≤ rm sz L s then pl sz ps.length r (b ++ [(s : Int)]) (up sz L s p) else [] := by
      rw [← hmin]; rfl
    rw [hpl] at ht2 ⊢
    exact loop (L.length + 1) 0 (by omega) N.1 (by have : N.1 = 1000000 := rfl; omega) t ht ht2
theorem bst_same {m : Int} : ∀ (l : List (List Int)) (f : List Int) (c : Int), (∀ q ∈ l, m ≤ mny q) → l.foldl bst (m, f, c) = (m, f, c + ((l.filter fun q => decide (mny q = m)).length : Int))
  | [], f, c, _ => by simp
  | q :: l, f, c, h => by
    have hq := h q (by simp)
    have ih := fun c => bst_same l f c (fun q hq => h q (by simp [hq]))
    rw [List.foldl_cons, List.filter_cons]
    by_cases e : mny q = m
    · have hb : bst (m, f, c) q = (m, f, c + 1) := by unfold bst; rw [if_neg (by simp only []; omega), if_pos e]
      rw [hb, ih, if_pos (by simpa using e), List.length_cons]
      congr 2
      omega
    · have hb : bst (m, f, c) q = (m, f, c) := by unfold bst; rw [if_neg (by simp only []; omega), if_neg e]
      rw [hb, ih, if_neg (by simpa using e)]
theorem bst_min {m : Int} : ∀ (l : List (List Int)) (t : Int × List Int × Int), (∀ q ∈ l, m ≤ mny q) → (∃ q ∈ l, mny q = m) → m < t.1 → l.foldl bst t = (m, (l.filter fun q => decide (mny q = m)).headD [], ((l.filter fun q => decide (mny q = m)).length : Int))
  | [], t, _, h, _ => by obtain ⟨q, hq, _⟩ := h; cases hq
  | q :: l, t, h, he, ht => by
    have hq := h q (by simp)
    rw [List.foldl_cons, List.filter_cons]
    by_cases e : mny q = m
    · have hb : bst t q = (m, q, 1) := by unfold bst; rw [if_pos (by omega), e]
      rw [hb, bst_same l q 1 (fun q hq => h q (by simp [hq])), if_pos (by simpa using e), List.headD_cons, List.length_cons]
      congr 2
      omega
    · rw [if_neg (by simpa using e)]
      refine bst_min l _ (fun q hq => h q (by simp [hq])) ?_ ?_
      · obtain ⟨x, hx, hxm⟩ := he
        rcases List.mem_cons.1 hx with rfl | hx
        · exact absurd hxm e
        · exact ⟨x, hx, hxm⟩
      · unfold bst
        split
        · simp only []; omega
        · split <;> exact ht
theorem apl_min {sz : Int} {ps : List Int} (hj : Job sz ps) : ∀ q ∈ apl sz ps ps.length, (fw sz ps : Int) ≤ mny q := fun q hq => by
  obtain ⟨h1, h2, h3⟩ := fw_spec hj
  have h0 := mny_nn q
  by_cases e : (fw sz ps : Int) ≤ mny q
  · exact e
  · have := apl_down (mo := (mny q).toNat) hq (by omega) (by have := apl_le hq; omega)
    rw [h3 _ (by omega)] at this
    cases this
theorem apl_fw {sz : Int} {ps : List Int} (hj : Job sz ps) : apl sz ps (fw sz ps) = (apl sz ps ps.length).filter fun q => decide (mny q = fw sz ps) := by
  obtain ⟨h1, h2, h3⟩ := fw_spec hj
  rw [apl_filter h2]
  refine List.filter_congr (fun q hq => ?_)
  have := apl_min hj q hq
  exact decide_eq_decide.2 (by omega)
/-- The law's best plan. -/
theorem best_eq {sz : Int} {ps : List Int} (hj : Job sz ps) : D52 N sz ps = some ((apl sz ps (fw sz ps)).headD [], (fw sz ps : Int), ((apl sz ps (fw sz ps)).length : Int)) := by
  obtain ⟨h1, h2, h3⟩ := fw_spec hj
  have h8 := hj.len
  have hcount := apl_count hj ps.length
  unfold D52 D90c91io001 D101f91io001110
  rw [wr_succ (by omega)]
  have hp := put_eq hj ps [] [] ⟨hj, by simp, by simp, by simp, by simp, by omega⟩ rfl rfl N.1 (by have : N.1 = 1000000 := rfl; omega) (((ps.length + 1 : Nat) : Int), [], 0) (Int.le_refl 0) (by unfold apl at hcount; simp only []; omega)
  simp only [] at hp
  rw [hp]
  simp only [Option.bind_some]
  obtain ⟨q, hq⟩ := List.exists_mem_of_ne_nil _ h1
  have hm := fw_mny hj hq
  have hmem : q ∈ apl sz ps ps.length := by rw [apl_fw hj] at hq; exact (List.mem_filter.1 hq).1
  have hb := bst_min (m := (fw sz ps : Int)) (apl sz ps ps.length) (((ps.length + 1 : Nat) : Int), [], 0) (apl_min hj) ⟨q, hmem, hm⟩ (by simp only []; omega)
  unfold apl at hb
  rw [hb]
  have := apl_fw hj
  unfold apl at this ⊢
  rw [this]
end Go.Proofs.YtgmonagekfjnmaaDoor
set_option linter.unusedVariables false
set_option linter.unusedSimpArgs false
set_option maxRecDepth 100000
namespace Go.Proofs.YtgmonagekfjnmaaDoor
open Go.Vi
/-D 53 -/
/-D 8 -/
end Go.Proofs.YtgmonagekfjnmaaDoor
set_option linter.unusedVariables false
set_option linter.unusedSimpArgs false
namespace Go.Proofs.YtgmonagekfjnmaaDoor
open Go.Vi
def goodC (s : Int) : Option (List Int) → Bool
  | some l => decide (l.length ≤ 20) && !l.isEmpty && l.all fun p => decide (1 ≤ p) && decide (s % p = 0) && l.all fun q => decide (p % q = 0) || decide (q % p = 0)
  | none => false
theorem chain_all : ∀ s : Fin 25, ∀ b : Fin 128, 1 ≤ s.val → goodC s.val (D89 N s.val b.val) = true := by decide +kernel
abbrev Stp := Int × Int × Int × Int × Int × Int × Int × Int × Int × Int × Int
abbrev ShS : Sh := .pair (.int .u8) (.pair (.int .u8) (.pair (.int .u8) (.pair (.int .u8) (.pair (.int .u8) (.pair (.int .u8) (.pair (.int .u8) (.pair (.int .u8) (.pair (.int .u8) (.pair (.int .u8) (.int .u8))))))))))
def By (x : Int) : Prop := 0 ≤ x ∧ x ≤ 255
structure StpOk (s : Stp) : Prop where
  size : By s.1
  many : By s.2.1
  chain : By s.2.2.1
  cuts : ∀ x ∈ [s.2.2.2.1, s.2.2.2.2.1, s.2.2.2.2.2.1, s.2.2.2.2.2.2.1, s.2.2.2.2.2.2.2.1, s.2.2.2.2.2.2.2.2.1, s.2.2.2.2.2.2.2.2.2.1, s.2.2.2.2.2.2.2.2.2.2], By x
theorem u8_rng {x : Int} (h : (Lit.int .u8 x).wf = true) : 0 ≤ x ∧ x ≤ 255 := by
  simpa [Lit.wf, IntKind.min, IntKind.max, IntKind.signed, IntKind.bits] using h
theorem by_wf {x : Int} (h : Wf (.int .u8) x) : By x := u8_rng h
theorem stp_ok {s : Stp} (h : Wf ShS s) : StpOk s := by
  obtain ⟨ha, hb, hc, h1, h2, h3, h4, h5, h6, h7, h8⟩ := h
  refine ⟨by_wf ha, by_wf hb, by_wf hc, fun x hx => ?_⟩
  simp only [List.mem_cons, List.not_mem_nil, or_false] at hx
  rcases hx with e | e | e | e | e | e | e | e <;> subst e
  · exact by_wf h1
  · exact by_wf h2
  · exact by_wf h3
  · exact by_wf h4
  · exact by_wf h5
  · exact by_wf h6
  · exact by_wf h7
  · exact by_wf h8
theorem pick_loop (n : Nat × Nat) (sz : Int) {cs lens : List Int} (hc : ∀ x ∈ cs, By x) (hl : lens ≠ []) (hll : lens.length ≤ 100) (h8 : cs.length ≤ 8) : ∀ (m k : Nat) (out : List Int), k ≤ cs.length → cs.length - k < m → out.length = k → (∀ x ∈ out, x ∈ lens) →
    ∃ ps, DL48_1 n m sz cs (cs.length : Int) (k : Int) lens out = some (sz, ps) ∧ ps.length = cs.length ∧ ∀ x ∈ ps, x ∈ lens
  | 0, k, out, _, h, _, _ => by omega
  | m + 1, k, out, hk, h, ho, hm => by
    rw [DL48_1_succ]
    unfold DF48_1
    have hpos : 0 < lens.length := List.length_pos_iff.2 hl
    by_cases hlt : k < cs.length
    · have hx := hc _ (List.getElem_mem hlt)
      unfold By at hx
      have hmod := Int.emod_nonneg cs[k] (show (lens.length : Int) ≠ 0 by omega)
      have hmod2 := Int.emod_lt_of_pos cs[k] (show (0 : Int) < lens.length by omega)
      have hi : (cs[k] % (lens.length : Int)).toNat < lens.length := by omega
      have hi2 : cs[k] % (lens.length : Int) = (((cs[k] % (lens.length : Int)).toNat : Nat) : Int) := by omega
      rw [dlt_t hlt, cond_true, idx_nat hlt, Option.bind_some, beq_false_of_ne (show (lens.length : Int) ≠ 0 by omega), cond_false, wr_ok (by omega) (by omega), tmod_mod hx.1, hi2, inB_nat hi, cond_true, idx_nat hi, Option.bind_some, lim_dec (by omega), cond_true, wr_succ (by omega)]
      exact pick_loop n sz hc hl hll h8 m (k + 1) _ (by omega) (by omega) (by simp [ho]) (fun x hx => by
        rcases List.mem_append.1 hx with hx | hx
        · exact hm x hx
        · rw [List.mem_singleton.1 hx]; exact List.getElem_mem _)
    · rw [dlt_f hlt, cond_false]
      exact ⟨out, rfl, by omega, hm⟩
theorem cuts_take {s : Stp} (h : StpOk s) {k : Nat} : ∀ x ∈ [s.2.2.2.1, s.2.2.2.2.1, s.2.2.2.2.2.1, s.2.2.2.2.2.2.1, s.2.2.2.2.2.2.2.1, s.2.2.2.2.2.2.2.2.1, s.2.2.2.2.2.2.2.2.2.1, s.2.2.2.2.2.2.2.2.2.2].take k, By x := fun x hx => h.cuts x (List.mem_of_mem_take hx)
theorem many_ok {s : Stp} (h : StpOk s) {most : Nat} (hm : most ≤ 8) : wr .i64 ((most : Int) + 1) = ((most + 1 : Nat) : Int) ∧ (((most + 1 : Nat) : Int) == 0) = false ∧ Int.tmod (wr .i64 s.2.1) ((most + 1 : Nat) : Int) = (((s.2.1 % ((most + 1 : Nat) : Int)).toNat : Nat) : Int) ∧ (s.2.1 % ((most + 1 : Nat) : Int)).toNat ≤ most := by
  have h1 := h.many
  unfold By at h1
  have hmod := Int.emod_nonneg s.2.1 (show ((most + 1 : Nat) : Int) ≠ 0 by omega)
  have hmod2 := Int.emod_lt_of_pos s.2.1 (show (0 : Int) < ((most + 1 : Nat) : Int) by omega)
  refine ⟨wr_succ (by omega), beq_false_of_ne (by omega), ?_, by omega⟩
  rw [wr_ok (by omega) (by omega), tmod_mod h1.1]
  omega
theorem fill_loop (n : Nat × Nat) (hn : 1000 ≤ n.1) {s : Stp} (h : StpOk s) {most : Nat} (hm : most ≤ 8) {sz : Int} (hs : 1 ≤ sz ∧ sz ≤ 24) : ∀ (m k : Nat) (lens : List Int), (k : Int) ≤ sz → sz - k < m → lens.length = k → (∀ x ∈ lens, 1 ≤ x ∧ x ≤ sz) →
    ∃ ps, DL48_2 n m most sz sz (k : Int) s.1 s.2.1 s.2.2.1 s.2.2.2.1 s.2.2.2.2.1 s.2.2.2.2.2.1 s.2.2.2.2.2.2.1 s.2.2.2.2.2.2.2.1 s.2.2.2.2.2.2.2.2.1 s.2.2.2.2.2.2.2.2.2.1 s.2.2.2.2.2.2.2.2.2.2 lens = some (sz, ps) ∧ ps.length ≤ most ∧ ∀ x ∈ ps, 1 ≤ x ∧ x ≤ sz
  | 0, k, lens, _, hh, _, _ => by omega
  | m + 1, k, lens, hk, hh, hl, hb => by
    rw [DL48_2_succ]
    unfold DF48_2
    by_cases hlt : (k : Int) < sz
    · rw [decide_eq_true hlt, cond_true, lim_dec (by omega), cond_true, wr_succ (by omega)]
      exact fill_loop n hn h hm hs m (k + 1) _ (by omega) (by omega) (by simp [hl]) (fun x hx => by
        rcases List.mem_append.1 hx with hx | hx
        · exact hb x hx
        · rw [List.mem_singleton.1 hx]; omega)
    · obtain ⟨e1, e2, e3, e4⟩ := many_ok h hm
      rw [decide_eq_false hlt, cond_false, e1, e2, cond_false, e3, bounds_hi (by omega), cond_true, Int.toNat_natCast]
      obtain ⟨ps, hp, hpl, hpm⟩ := pick_loop n sz (cs := [s.2.2.2.1, s.2.2.2.2.1, s.2.2.2.2.2.1, s.2.2.2.2.2.2.1, s.2.2.2.2.2.2.2.1, s.2.2.2.2.2.2.2.2.1, s.2.2.2.2.2.2.2.2.2.1, s.2.2.2.2.2.2.2.2.2.2].take (s.2.1 % ((most + 1 : Nat) : Int)).toNat) (lens := lens) (cuts_take h) (by intro e; rw [e] at hl; simp at hl; omega) (by omega) (by rw [List.length_take]; exact Nat.min_le_right _ _) n.1 0 [] (by omega) (by simp; omega) rfl (by simp)
      exact ⟨ps, hp, by rw [hpl, List.length_take]; omega, fun x hx => hb x (hpm x hx)⟩
/-- What a job by numbers is. -/
theorem made_ok {s : Stp} (h : StpOk s) {most : Nat} (hm : most ≤ 8) : ∃ sz ps, D48 N s most = some (sz, ps) ∧ Job sz ps ∧ ps.length ≤ most ∧ (s.2.2.1 % 2 = 1 → IsC sz ps) := by
  have h1 := h.size
  have h3 := h.chain
  unfold By at h1 h3
  obtain ⟨e1, e2, e3, e4⟩ := many_ok h hm
  have hsz : wr .i64 (1 + Int.tmod (wr .i64 s.1) 24) = 1 + s.1 % 24 := by
    rw [wr_ok (x := s.1) (by omega) (by omega), tmod_mod h1.1, wr_ok (by omega) (by omega)]
  have hb : wr .i64 (Int.tdiv (wr .i64 s.2.2.1) 2) = s.2.2.1 / 2 := by
    rw [wr_ok (x := s.2.2.1) (by omega) (by omega), Int.tdiv_eq_ediv_of_nonneg h3.1, wr_ok (by omega) (by omega)]
  unfold D48
  rw [show ((24 : Nat) == 0) = false from rfl, show ((2 : Nat) == 0) = false from rfl, cond_false, cond_false, hsz, tmod_mod h3.1]
  by_cases e : s.2.2.1 % 2 = 1
  · rw [show (s.2.2.1 % 2 == 1) = true by simpa using e, cond_true, cond_false, hb]
    have hg := chain_all ⟨(1 + s.1 % 24).toNat, by omega⟩ ⟨(s.2.2.1 / 2).toNat, by omega⟩ (by simp only []; omega)
    simp only [] at hg
    rw [show (((1 + s.1 % 24).toNat : Nat) : Int) = 1 + s.1 % 24 by omega, show (((s.2.2.1 / 2).toNat : Nat) : Int) = s.2.2.1 / 2 by omega] at hg
    cases hD : D89 N (1 + s.1 % 24) (s.2.2.1 / 2) with
    | none => rw [hD] at hg; cases hg
    | some lens =>
      rw [hD] at hg
      simp only [goodC, Bool.and_eq_true, decide_eq_true_eq, List.all_eq_true, Bool.or_eq_true, Bool.not_eq_true', List.isEmpty_eq_false_iff] at hg
      obtain ⟨⟨hg1, hg2⟩, hg3⟩ := hg
      rw [Option.bind_some, e1, e2, cond_false, e3, bounds_hi (by omega), cond_true, Int.toNat_natCast]
      obtain ⟨ps, hp, hpl, hpm⟩ := pick_loop N (1 + s.1 % 24) (cs := [s.2.2.2.1, s.2.2.2.2.1, s.2.2.2.2.2.1, s.2.2.2.2.2.2.1, s.2.2.2.2.2.2.2.1, s.2.2.2.2.2.2.2.2.1, s.2.2.2.2.2.2.2.2.2.1, s.2.2.2.2.2.2.2.2.2.2].take (s.2.1 % ((most + 1 : Nat) : Int)).toNat) (lens := lens) (cuts_take h) hg2 (by omega) (by rw [List.length_take]; exact Nat.min_le_right _ _) N.1 0 [] (by omega) (by have : N.1 = 1000000 := rfl; simp; omega) rfl (by simp)
      have hdiv : ∀ p ∈ lens, 1 ≤ p ∧ p ≤ 1 + s.1 % 24 ∧ (1 + s.1 % 24) % p = 0 := fun p hp => by
        have := (hg3 p hp).1
        exact ⟨this.1, Int.le_of_dvd (by omega) (Int.dvd_of_emod_eq_zero this.2), this.2⟩
      have hlen : ps.length ≤ most := by rw [hpl, List.length_take]; omega
      refine ⟨1 + s.1 % 24, ps, hp, ⟨by omega, by omega, by omega, fun p hp => ?_⟩, hlen, fun _ => ⟨fun p hp => (hdiv p (hpm p hp)).2.2, ?_⟩⟩
      · have := hdiv p (hpm p hp)
        exact ⟨this.1, this.2.1⟩
      · rw [List.pairwise_iff_forall_sublist]
        intro a b hab
        have ha := hpm a (hab.subset (by simp))
        have hb := hpm b (hab.subset (by simp))
        exact (hg3 a ha).2 b hb
  · rw [show (s.2.2.1 % 2 == 1) = false from beq_false_of_ne e, cond_false]
    obtain ⟨ps, hp, hpl, hpm⟩ := fill_loop N hN1 h hm (sz := 1 + s.1 % 24) ⟨by omega, by omega⟩ N.1 0 [] (by omega) (by have : N.1 = 1000000 := rfl; omega) rfl (by simp)
    exact ⟨1 + s.1 % 24, ps, hp, ⟨by omega, by omega, by omega, hpm⟩, hpl, fun h => absurd h e⟩
theorem bdS_in {sz k : Int} {ps : List Int} (hj : Job sz ps) (hk : 0 ≤ k ∧ k ≤ sz / 2) : bdS sz ps k = (bnd sz ps k, 0) := by unfold bdS; rw [if_neg (by simpa using chk_job.2 hj), if_neg (by omega)]
/-! The falling order, by lengths. -/
theorem perm_sort_eq {R : Int → Int → Prop} (asym : ∀ a b, R a b → R b a → False) : ∀ {l l' : List Int}, l.Perm l' → l.Pairwise R → l'.Pairwise R → l = l'
  | [], l', h, _, _ => h.nil_eq
  | x :: l, [], h, _, _ => absurd h.length_eq (by simp)
  | x :: l, y :: l', h, h1, h2 => by
    rw [List.pairwise_cons] at h1 h2
    by_cases e : x = y
    · subst e
      rw [perm_sort_eq asym (List.Perm.cons_inv h) h1.2 h2.2]
    · have hx : x ∈ l' := (List.mem_cons.1 (h.mem_iff.1 (by simp))).resolve_left e
      have hy : y ∈ l := (List.mem_cons.1 (h.mem_iff.2 (by simp))).resolve_left (fun hh => e hh.symm)
      exact (asym _ _ (h1.1 y hy) (h2.1 x hx)).elim
theorem plc_mem (s : Int) : ∀ (l : List Int) (k : Nat) (x : Int), x ∈ plc s k l ↔ ∃ i : Nat, l[i]? = some s ∧ x = ((k + i : Nat) : Int)
  | [], k, x => by simp [plc]
  | y :: l, k, x => by
    have ih := plc_mem s l (k + 1) x
    have hsplit : (∃ i : Nat, (y :: l)[i]? = some s ∧ x = ((k + i : Nat) : Int)) ↔ (y = s ∧ x = (k : Int)) ∨ ∃ i : Nat, l[i]? = some s ∧ x = ((k + 1 + i : Nat) : Int) := by
      constructor
      · rintro ⟨i, h1, h2⟩
        cases i with
        | zero => exact .inl ⟨by simpa using h1, by simpa using h2⟩
        | succ i => exact .inr ⟨i, by simpa using h1, by rw [h2]; omega⟩
      · rintro (⟨h1, h2⟩ | ⟨i, h1, h2⟩)
        · exact ⟨0, by simp [h1], by simp [h2]⟩
        · exact ⟨i + 1, by simpa using h1, by rw [h2]; omega⟩
    have hp : plc s k (y :: l) = if y = s then (k : Int) :: plc s (k + 1) l else plc s (k + 1) l := rfl
    rw [hsplit, ← ih, hp]
    by_cases e : y = s
    · rw [if_pos e, List.mem_cons]
      simp [e]
    · rw [if_neg e]
      simp [e]
theorem plc_pair (s : Int) : ∀ (l : List Int) (k : Nat), (plc s k l).Pairwise (· < ·)
  | [], k => by simp [plc]
  | y :: l, k => by
    unfold plc
    split
    · refine List.pairwise_cons.2 ⟨fun x hx => ?_, plc_pair s l (k + 1)⟩
      obtain ⟨i, _, rfl⟩ := (plc_mem s l (k + 1) x).1 hx
      omega
    · exact plc_pair s l (k + 1)
def flo (ps : List Int) : Nat → List Int
  | 0 => []
  | k + 1 => plc ((k + 1 : Nat) : Int) 0 ps ++ flo ps k
theorem flo_mem (ps : List Int) : ∀ (k : Nat) (x : Int), x ∈ flo ps k ↔ ∃ i : Nat, x = (i : Int) ∧ ∃ p, ps[i]? = some p ∧ 1 ≤ p ∧ p ≤ k
  | 0, x => by
    unfold flo
    constructor
    · intro h; cases h
    · rintro ⟨i, _, p, _, h1, h2⟩; omega
  | k + 1, x => by
    unfold flo
    rw [List.mem_append, plc_mem, flo_mem ps k]
    constructor
    · rintro (⟨i, h1, h2⟩ | ⟨i, h1, p, h2, h3, h4⟩)
      · exact ⟨i, by rw [h2]; omega, _, h1, by omega, by omega⟩
      · exact ⟨i, h1, p, h2, h3, by omega⟩
    · rintro ⟨i, h1, p, h2, h3, h4⟩
      by_cases e : p = ((k + 1 : Nat) : Int)
      · exact .inl ⟨i, by rw [← e]; exact h2, by rw [h1]; omega⟩
      · exact .inr ⟨i, h1, p, h2, h3, by omega⟩
theorem pc_nat {ps : List Int} {i : Nat} {p : Int} (h : ps[i]? = some p) : pc ps (i : Int) = p := by
  unfold pc
  rw [Int.toNat_natCast, List.getD_eq_getElem?_getD, h, Option.getD_some]
theorem flo_pair (ps : List Int) : ∀ k : Nat, (flo ps k).Pairwise (Fbf ps)
  | 0 => by simp [flo]
  | k + 1 => by
    unfold flo
    rw [List.pairwise_append]
    refine ⟨?_, flo_pair ps k, fun x hx y hy => ?_⟩
    · rw [List.pairwise_iff_forall_sublist]
      intro a b hab
      obtain ⟨i, h1, h2⟩ := (plc_mem _ _ _ _).1 (hab.subset (show a ∈ [a, b] by simp))
      obtain ⟨j, h3, h4⟩ := (plc_mem _ _ _ _).1 (hab.subset (show b ∈ [a, b] by simp))
      have hlt := List.pairwise_iff_forall_sublist.1 (plc_pair ((k + 1 : Nat) : Int) ps 0) hab
      rw [Nat.zero_add] at h2 h4
      subst h2 h4
      exact .inr ⟨by rw [pc_nat h1, pc_nat h3], hlt⟩
    · obtain ⟨i, h1, h2⟩ := (plc_mem _ _ _ _).1 hx
      obtain ⟨j, h3, p, h4, h5, h6⟩ := (flo_mem ps k y).1 hy
      rw [Nat.zero_add] at h2
      subst h2 h3
      left
      rw [pc_nat h1, pc_nat h4]
      omega
theorem flo_fal {ps : List Int} (hb : ∀ p ∈ ps, 1 ≤ p ∧ p ≤ 24) : flo ps 24 = fal ps := by
  have irr : ∀ a, ¬ Fbf ps a a := fun a h => by unfold Fbf at h; omega
  have hnd : ∀ {l : List Int}, l.Pairwise (Fbf ps) → l.Nodup := fun h => h.imp (fun hab e => by rw [e] at hab; exact irr _ hab)
  refine perm_sort_eq (R := Fbf ps) (fun a b h1 h2 => by unfold Fbf at h1 h2; omega) ?_ (flo_pair ps 24) (fal_sort ps)
  refine (List.perm_ext_iff_of_nodup (hnd (flo_pair ps 24)) (hnd (fal_sort ps))).2 (fun x => ?_)
  rw [flo_mem, (fal_perm ps).mem_iff, List.mem_map]
  constructor
  · rintro ⟨i, h1, p, h2, _, _⟩
    have hi : i < ps.length := by
      rcases Nat.lt_or_ge i ps.length with h | h
      · exact h
      · rw [List.getElem?_eq_none h] at h2; cases h2
    exact ⟨i, List.mem_range.2 hi, h1.symm⟩
  · rintro ⟨i, h1, h2⟩
    have hi := List.mem_range.1 h1
    have := hb _ (List.getElem_mem hi)
    exact ⟨i, h2.symm, _, List.getElem?_eq_getElem hi, this.1, by omega⟩
theorem fg_in (n : Nat × Nat) (f1 : List Int → Int → List Int → Option R50) (ps : List Int) (len : Int) (h8 : ps.length ≤ 8) : ∀ (m k : Nat) (out : List Int), k ≤ ps.length → ps.length - k < m → out.length + (ps.length - k) ≤ 1000 →
    DL50_2 n f1 m ps len ps (ps.length : Int) (k : Int) out = f1 ps (wr .i64 (len - 1)) (out ++ plc len k (ps.drop k))
  | 0, k, _, _, h, _ => by omega
  | m + 1, k, out, hk, h, ho => by
    rw [DL50_2_succ]
    unfold DF50_2
    by_cases hlt : k < ps.length
    · rw [dlt_t hlt, cond_true, idx_nat hlt, Option.bind_some, drop_cons hlt]
      unfold DL50_3 plc
      by_cases e : ps[k] = len
      · rw [show (ps[k] == len) = true by simpa using e, cond_true, lim_dec (by omega), cond_true, wr_succ (by omega), if_pos e]
        rw [fg_in n f1 ps len h8 m (k + 1) _ (by omega) (by omega) (by rw [List.length_append, List.length_singleton]; omega), List.append_assoc, List.singleton_append]
      · rw [beq_false_of_ne e, cond_false, wr_succ (by omega), if_neg e, fg_in n f1 ps len h8 m (k + 1) _ (by omega) (by omega) (by omega)]
    · rw [dlt_f hlt, cond_false, List.drop_of_length_le (by omega)]
      simp [plc]
theorem fg_loop {n : Nat × Nat} (hn : 1000 ≤ n.1) (ps : List Int) (h8 : ps.length ≤ 8) : ∀ (m k : Nat) (out : List Int), k < m → k ≤ 24 → out.length + 8 * k ≤ 900 → DL50_1 n m ps (k : Int) out = some (out ++ flo ps k)
  | 0, k, _, h, _, _ => by omega
  | m + 1, 0, out, h, _, _ => by
    rw [DL50_1_succ]
    unfold DF50_1 flo
    rw [decide_eq_false (by omega), cond_false, List.append_nil]
  | m + 1, k + 1, out, h, h24, ho => by
    have hpl := plc_len ((k + 1 : Nat) : Int) ps 0
    rw [DL50_1_succ]
    unfold DF50_1
    have := fg_in n (DL50_1 n m) ps ((k + 1 : Nat) : Int) h8 n.1 0 out (by omega) (by omega) (by omega)
    rw [show ((0 : Nat) : Int) = 0 from rfl, List.drop_zero] at this
    rw [decide_eq_true (show ((k + 1 : Nat) : Int) > 0 by omega), cond_true]
    refine Eq.trans this ?_
    rw [wr_ok (by omega) (by omega), show ((k + 1 : Nat) : Int) - 1 = (k : Int) by omega, fg_loop hn ps h8 m k _ (by omega) (by omega) (by rw [List.length_append]; omega), List.append_assoc]
    rfl
theorem falling_eq {n : Nat × Nat} (hn : 1000 ≤ n.1) {ps : List Int} (hb : ∀ p ∈ ps, 1 ≤ p ∧ p ≤ 24) (h8 : ps.length ≤ 8) : D50 n ps = some (fal ps) := by
  unfold D50
  have := fg_loop hn ps h8 n.1 24 [] (by omega) (by omega) (by simp)
  rw [show ((24 : Nat) : Int) = 24 from rfl, List.nil_append, flo_fal hb] at this
  exact this
/-! Chains fill sheets. -/
theorem chain_ff {sz : Int} (hs : 1 ≤ sz) (ps : List Int) : ∀ (o A L : List Int), (∀ s : Nat, ∀ h : s < L.length, s + 1 < L.length → L[s] = 0) → (∀ x ∈ L, 0 ≤ x ∧ x < sz) → (∀ i ∈ o, 1 ≤ pc ps i ∧ pc ps i ≤ sz ∧ sz % pc ps i = 0 ∧ ∀ x ∈ L, x % pc ps i = 0) → o.Pairwise (fun i j => pc ps i % pc ps j = 0) →
    ∀ s : Nat, ∀ h : s < (ffo sz ps o (A, L)).2.length, s + 1 < (ffo sz ps o (A, L)).2.length → (ffo sz ps o (A, L)).2[s] = 0
  | [], A, L, h, _, _, _ => h
  | i :: o, A, L, h, hr, hd, hp => by
    obtain ⟨p1, p2, p3, p4⟩ := hd i (by simp)
    rw [List.pairwise_cons] at hp
    have hfl := ffp_le (pc ps i) L
    have hul := up_len (sz := sz) (pc ps i) hfl
    have hrm := ffp_rm (L := L) p2
    -- the sheet is the last one, or a new one
    have hlast : L.length ≤ ffp (pc ps i) L + 1 := by
      rcases Nat.lt_or_ge (ffp (pc ps i) L + 1) L.length with hlt | hge
      · have h1 := h (ffp (pc ps i) L) (by omega) hlt
        have h2 := ffp_room (p := pc ps i) (L := L) (by omega)
        omega
      · exact hge
    have hnew : ffp (pc ps i) L = L.length → ∀ s : Nat, ∀ hh : s < L.length, L[s] = 0 := fun he s hh => by
      by_cases e : s + 1 < L.length
      · exact h s hh e
      · have hb := ffp_below hh (by omega : s < ffp (pc ps i) L)
        have h0 := hr _ (List.getElem_mem hh)
        have hm := p4 _ (List.getElem_mem hh)
        rw [Int.emod_eq_of_lt h0.1 hb] at hm
        exact hm
    show ∀ s : Nat, ∀ h : s < (ffo sz ps o (fst1 sz ps (A, L) i)).2.length, s + 1 < (ffo sz ps o (fst1 sz ps (A, L) i)).2.length → (ffo sz ps o (fst1 sz ps (A, L) i)).2[s] = 0
    refine chain_ff hs ps o _ _ (fun s hs1 hs2 => ?_) (up_rng hr (by omega) hfl p1 hrm) (fun j hj => ?_) hp.2
    · have hs1 : s < (up sz L (ffp (pc ps i) L) (pc ps i)).length := hs1
      have hs2 : s + 1 < (up sz L (ffp (pc ps i) L) (pc ps i)).length := hs2
      show (up sz L (ffp (pc ps i) L) (pc ps i))[s] = 0
      rw [up_get _ hs1]
      have hne : ffp (pc ps i) L ≠ s := by omega
      rw [if_neg hne]
      by_cases e : ffp (pc ps i) L = L.length
      · rw [rm_get (by omega)]
        exact hnew e s (by omega)
      · rw [rm_get (by omega)]
        exact h s (by omega) (by omega)
    · obtain ⟨q1, q2, q3, q4⟩ := hd j (by simp [hj])
      refine ⟨q1, q2, q3, fun x hx => ?_⟩
      have hx : x ∈ up sz L (ffp (pc ps i) L) (pc ps i) := hx
      rcases up_mem hfl x hx with e | e
      · have hpq := hp.1 j hj
        have hrq : rm sz L (ffp (pc ps i) L) % pc ps j = 0 := by
          by_cases e2 : ffp (pc ps i) L < L.length
          · rw [rm_get e2]; exact q4 _ (List.getElem_mem e2)
          · rw [show ffp (pc ps i) L = L.length by omega, rm_end]; exact q3
        rw [e, Int.sub_emod, hrq, hpq]
        simp
      · exact q4 x e
theorem sumr_full {L : List Int} {sz : Int} (h : ∀ s : Nat, ∀ h : s < L.length, s + 1 < L.length → L[s] = 0) : ∀ m, m < L.length → sumr (fun s => sz - rm sz L s) m = sz * m
  | 0, _ => by simp [sumr]
  | m + 1, hm => by
    have ih := sumr_full (sz := sz) h m (by omega)
    simp only [sumr]
    have hmul : sz * ((m + 1 : Nat) : Int) = sz * m + sz := by rw [Int.natCast_add, Int.mul_add]; simp
    rw [ih, hmul, rm_get (by omega), h m (by omega) (by omega)]
    omega
/-- How many sheets there are if all are full but the last one. -/
theorem full_count {sz : Int} {ps o : List Int} (hj : Job sz ps) (ho : Ord ps o) (h : ∀ s : Nat, ∀ h : s < (ffA sz ps o).2.length, s + 1 < (ffA sz ps o).2.length → (ffA sz ps o).2[s] = 0) :
    ((ffA sz ps o).2.length : Int) = (tot ps + sz - 1) / sz ∧ (0 < (ffA sz ps o).2.length → sz * ((ffA sz ps o).2.length : Int) < tot ps + sz) := by
  have ht := ffA_tot hj ho
  have hf := ffA_FI hj ho
  have hlo := hj.lo
  generalize (ffA sz ps o).2 = L at *
  cases hm : L.length with
  | zero =>
    rw [hm] at ht
    rw [ht]
    simp only [sumr]
    refine ⟨?_, fun h => absurd h (by omega)⟩
    rw [Int.ediv_eq_zero_of_lt (by omega) (by omega)]
    rfl
  | succ m =>
    have hs := sumr_full (sz := sz) h m (by omega)
    have hl := hf.lr _ (List.getElem_mem (show m < L.length by omega))
    rw [hm] at ht
    simp only [sumr] at ht
    rw [hs, rm_get (by omega)] at ht
    have hmul : sz * ((m + 1 : Nat) : Int) = sz * m + sz := by rw [Int.natCast_add, Int.mul_add]; simp
    refine ⟨?_, fun _ => by omega⟩
    have e : tot ps + sz - 1 = (sz - 1 - L[m]) + sz * ((m + 1 : Nat) : Int) := by omega
    rw [e, Int.add_mul_ediv_left _ _ (by omega), Int.ediv_eq_zero_of_lt (by omega) (by omega), Int.zero_add]
theorem bnd0_tot {sz : Int} : ∀ {ps : List Int}, (∀ p ∈ ps, 1 ≤ p ∧ p ≤ sz) → bsm sz 0 ps + sz * bal sz 0 ps - blf sz 0 ps = tot ps
  | [], _ => by simp [bsm, bal, blf, tot]
  | p :: r, h => by
    have hp := h p (by simp)
    have ih := bnd0_tot (sz := sz) (ps := r) (fun q hq => h q (by simp [hq]))
    simp only [bsm, bal, blf, tot]
    rw [Int.mul_add]
    rw [if_neg (show ¬ sz - 0 < p by omega)]
    by_cases e : sz < 2 * p
    · rw [if_pos (.inr e), if_pos (.inr e), if_pos e]; omega
    · rw [if_neg (show ¬ (sz - 0 < p ∨ sz < 2 * p) by omega), if_neg (show ¬ (sz - 0 < p ∨ sz < 2 * p) by omega), if_neg e, if_pos (show 0 ≤ p by omega)]; omega
theorem bnd0_ge {sz : Int} {ps : List Int} (hj : Job sz ps) : tot ps ≤ sz * bnd sz ps 0 := by
  have h1 := bnd0_tot hj.ok
  have hlo := hj.lo
  unfold bnd
  rw [Int.mul_add]
  have h2 := Int.lt_mul_ediv_self_add (x := max (bsm sz 0 ps - blf sz 0 ps) 0 + sz - 1) (show 0 < sz by omega)
  omega
theorem odd_ok {c : Int} (h : By c) : By (wr .u8 (BitVec.ofInt (IntKind.bits .u8) c ||| BitVec.ofInt (IntKind.bits .u8) 1).toNat) ∧ wr .u8 (BitVec.ofInt (IntKind.bits .u8) c ||| BitVec.ofInt (IntKind.bits .u8) 1).toNat % 2 = 1 := by
  have key : ∀ c : Fin 256, (0 ≤ wr .u8 (BitVec.ofInt (IntKind.bits .u8) c.val ||| BitVec.ofInt (IntKind.bits .u8) 1).toNat ∧ wr .u8 (BitVec.ofInt (IntKind.bits .u8) c.val ||| BitVec.ofInt (IntKind.bits .u8) 1).toNat ≤ 255) ∧ wr .u8 (BitVec.ofInt (IntKind.bits .u8) c.val ||| BitVec.ofInt (IntKind.bits .u8) 1).toNat % 2 = 1 := by decide +kernel
  unfold By at h ⊢
  have := key ⟨c.toNat, by omega⟩
  simp only [show ((c.toNat : Nat) : Int) = c by omega] at this
  exact this
theorem ch_loop {sz : Int} {ps : List Int} (v5 : Int) (o p L : List Int) (hl : L.length ≤ 8) (h : ∀ s : Nat, ∀ h : s < L.length, s + 1 < L.length → L[s] = 0) {r : Option R7} (hr : ∀ m, DL7_1 N (m + 1) sz ps v5 (L.length : Int) (L.length : Int) o p L = r) : ∀ (m k : Nat), k ≤ L.length → L.length - k < m → DL7_1 N m sz ps v5 (L.length : Int) (k : Int) o p L = r
  | 0, k, _, hh => by omega
  | m + 1, k, hk, hh => by
    by_cases hlt : k < L.length
    · rw [DL7_1_succ]
      unfold DF7_1
      rw [dlt_t hlt, cond_true, inB_nat hlt, cond_true, idx_nat hlt, Option.bind_some, wr_ok (x := (L.length : Int) - 1) (by omega) (by omega), wr_succ (by omega)]
      have ih := ch_loop v5 o p L hl h hr m (k + 1) (by omega) (by omega)
      by_cases e : k + 1 < L.length
      · rw [h k hlt e]
        simp only [bne_self_eq_false, show (false == true) = false from rfl, cond_false, Option.bind_some]
        exact ih
      · rw [decide_eq_false (show ¬ (k : Int) < (L.length : Int) - 1 by omega)]
        cases hb : (L[k] != 0) <;> simp only [hb, show (false == true) = false from rfl, beq_self_eq_true, cond_true, cond_false, Option.bind_some] <;> exact ih
    · have : k = L.length := by omega
      subst this
      exact hr m
theorem chained_ok {s : Stp} (h : StpOk s) : S7 N s = some true := by
  rw [S7_D N rfl]
  unfold D7
  obtain ⟨ho1, ho2⟩ := odd_ok h.chain
  obtain ⟨sz, ps, h1, hj, h7, hc⟩ := made_ok (s := (s.1, s.2.1, wr .u8 (BitVec.ofInt (IntKind.bits .u8) s.2.2.1 ||| BitVec.ofInt (IntKind.bits .u8) 1).toNat, s.2.2.2)) ⟨h.size, h.many, ho1, h.cuts⟩ (most := 7) (by omega)
  have hc := hc ho2
  have e1 : D48 N (s.1, s.2.1, wr .u8 (BitVec.ofInt (IntKind.bits .u8) s.2.2.1 ||| BitVec.ofInt (IntKind.bits .u8) 1).toNat, s.2.2.2) 7 = some (sz, ps) := h1
  have hlo := hj.lo
  have hhi := hj.hi
  have h8 := hj.len
  have hb : ∀ p ∈ ps, 1 ≤ p ∧ p ≤ 24 := fun p hp => by have := hj.ok p hp; omega
  have ht := tot_rng (l := ps) (fun p hp => by have := hb p hp; omega)
  have ho : Ord ps (fal ps) := fal_perm ps
  obtain ⟨hpl, hmy⟩ := ffA_pln hj ho
  have hfl : (fal ps).length = ps.length := fal_len ps
  -- the sheets are full
  have hch := (chn_fall (s := sz) (l := (fal ps).map (pc ps)) (fun p hp => (hb p ((fal_map ps).mem_iff.1 hp)).1) (fal_down ps)).2 ((isC_perm (fal_map ps)).2 hc)
  rw [chn_iff, List.pairwise_map] at hch
  have hfull : ∀ s : Nat, ∀ h : s < (ffA sz ps (fal ps)).2.length, s + 1 < (ffA sz ps (fal ps)).2.length → (ffA sz ps (fal ps)).2[s] = 0 :=
    chain_ff hlo ps (fal ps) (zer ps.length) [] (by simp) (by simp) (fun i hi => by
      have hr := fal_rng ps i hi
      have hp := hj.ok _ (pc_mem hr.1 hr.2)
      exact ⟨hp.1, hp.2, hch.1 _ (List.mem_map.2 ⟨i, hi, rfl⟩), by simp⟩) hch.2
  obtain ⟨hcnt, hlt⟩ := full_count hj ho hfull
  -- it is the fewest, by the bound of 0
  have hge := bnd0_ge hj
  have hble := bound_le (k := 0) (fst_pln hj) (by omega) (by omega)
  rw [fst_mny hj] at hble
  have hfw := fw_le hpl
  rw [hmy] at hfw
  have hmb : ((ffA sz ps (fal ps)).2.length : Int) ≤ bnd sz ps 0 := by
    by_cases e : 0 < (ffA sz ps (fal ps)).2.length
    · have h1 := hlt e
      have h2 : sz * ((ffA sz ps (fal ps)).2.length : Int) < sz * (bnd sz ps 0 + 1) := by rw [Int.mul_add]; omega
      have := Int.lt_of_mul_lt_mul_left h2 (by omega)
      omega
    · have hbr := b_rng (k := 0) ⟨hlo, hhi⟩ hj.ok
      have : 0 ≤ bnd sz ps 0 := by
        unfold bnd
        have := Int.ediv_nonneg (a := max (bsm sz 0 ps - blf sz 0 ps) 0 + sz - 1) (b := sz) (by omega) (by omega)
        omega
      omega
  have hfe : (fw sz ps : Int) = (ffA sz ps (fal ps)).2.length := by omega
  have hbe : bnd sz ps 0 = fw sz ps := by omega
  have hL8 : (ffA sz ps (fal ps)).2.length ≤ 8 := by
    have := ffo_llen sz ps (fal ps) (zer ps.length, [])
    unfold ffA
    simp only [List.length_nil] at this
    omega
  have hnn : wr .i64 (Int.tdiv (wr .i64 ((wr .i64 (tot ps + sz)) - 1)) sz) = (tot ps + sz - 1) / sz := by
    rw [wr_ok (x := tot ps + sz) (by omega) (by omega), wr_ok (x := tot ps + sz - 1) (by omega) (by omega), Int.tdiv_eq_ediv_of_nonneg (by omega), wr_ok (by omega) (by omega)]
  have hf30 : D30 N sz ps = some (fal ps, 0) := by rw [Fall_eq hN1, if_neg (by simpa using chk_job.2 hj)]
  rw [e1, Option.bind_some]
  simp only []
  rw [total_eq hN1 (fun p hp => by have := hb p hp; omega) (by omega), Option.bind_some, beq_false_of_ne (show sz ≠ 0 by omega), cond_false, hf30, Option.bind_some]
  simp only [bne_self_eq_false, beq_self_eq_true, cond_true]
  rw [falling_eq hN1 hb h8, Option.bind_some, same_eq hN1 (by omega), Option.bind_some, decide_eq_true rfl]
  simp only [Bool.not_true, Option.bind_some, cond_false]
  rw [Filled_eq hj ho, Option.bind_some, hnn]
  refine ch_loop _ _ _ _ hL8 hfull (fun m => ?_) N.1 0 (by omega) (by have : N.1 = 1000000 := rfl; omega)
  have hprS : prS sz ps = (0, 0) := by
    unfold prS
    obtain ⟨d, hd⟩ : ∃ d, (sz / 2 + 1).toNat = d + 1 := ⟨(sz / 2).toNat, by omega⟩
    rw [if_neg (by simpa using chk_job.2 hj), hd]
    unfold prg
    rw [if_pos hbe]
  have hpv : pvS sz ps (tid [] (ffA sz ps (fal ps)).1) 0 = 0 := by
    unfold pvS
    rw [vld_pln.2 hpl, if_neg (by simp), bdS_in hj ⟨by omega, by omega⟩, if_neg (by simp), hmy, if_neg]
    simp only []
    omega
  have hchS : chS sz ps = (true, 0) := by unfold chS; rw [if_neg (by simpa using chk_job.2 hj), decide_eq_true hc]
  have htl : (tid [] (ffA sz ps (fal ps)).1).length < 900 := by
    rw [tid_len]
    have := (ffA_FI hj ho).len
    omega
  have hfl2 : (fst sz ps).length < 900 := by have := (fst_pln hj).len; omega
  have hbest : D52 N sz ps = some (fst sz ps, (fw sz ps : Int), ((apl sz ps (fw sz ps)).length : Int)) := best_eq hj
  rw [DL7_1_succ]
  unfold DF7_1
  rw [dlt_f (by omega), cond_false, Fit_eq hj ho, Option.bind_some, Fewest_eq, Option.bind_some, hbest, Option.bind_some, First_eq, Option.bind_some, Chain_eq hN1, Option.bind_some, Prove_eq, Option.bind_some, fwS_eq hj, fsS_eq hj, hprS, hchS, ← hcnt, hfe]
  simp only [beq_self_eq_true, cond_true, Option.bind_some, same_eq hN1 htl, same_eq hN1 hfl2, decide_true, Proves_eq hN1, hpv, works_eq]
end Go.Proofs.YtgmonagekfjnmaaDoor
