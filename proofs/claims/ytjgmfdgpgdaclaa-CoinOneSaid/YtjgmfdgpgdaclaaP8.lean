/- Texts of this claim, joined: Ce to Ch. -/
import Derived.Test.YtjgmfdgpgdaclaaP7
set_option linter.unusedVariables false
set_option linter.unusedSimpArgs false
namespace Go.Proofs.Ytjgmfdgpgdaclaa
open Go.Vi

theorem filter_less (p : Nat → Bool) (s : Nat) : ∀ (l : List Nat), l.Nodup → s ∈ l → p s = true → (l.filter (fun x => p x && x != s)).length + 1 = (l.filter p).length
  | [], _, h, _ => by cases h
  | a :: l, hn, h, hp => by
    have h2 := List.nodup_cons.1 hn
    by_cases e : a = s
    · subst e
      have hf : l.filter (fun x => p x && x != a) = l.filter p := List.filter_congr fun x hx => by
        have : x ≠ a := fun e => h2.1 (e ▸ hx)
        simp [this]
      rw [List.filter_cons_of_neg (by simp), List.filter_cons_of_pos hp, hf]
      simp
    · have hs : s ∈ l := by
        rcases List.mem_cons.1 h with h | h
        · exact absurd h.symm e
        · exact h
      have ih := filter_less p s l h2.2 hs hp
      by_cases hpa : p a = true
      · rw [List.filter_cons_of_pos (by simp [hpa, e]), List.filter_cons_of_pos hpa]
        simp only [List.length_cons]
        omega
      · rw [List.filter_cons_of_neg (by simp [hpa]), List.filter_cons_of_neg hpa]
        exact ih
/-- How many sums are not yet reached. -/
def unm (M : Nat) (F : Nat → Int) : Nat := ((List.range (M + 1)).filter fun x => decide (F x < 0)).length
theorem unm_le (M : Nat) (F : Nat → Int) : unm M F ≤ M + 1 := by
  unfold unm
  refine Nat.le_trans (List.length_filter_le _ _) ?_
  simp
theorem unm_set {M : Nat} {F : Nat → Int} {s : Nat} {v : Int} (hs : s ≤ M) (h : F s < 0) (hv : 0 ≤ v) : unm M (fun x => if x = s then v else F x) + 1 = unm M F := by
  unfold unm
  rw [← filter_less (fun x => decide (F x < 0)) s (List.range (M + 1)) List.nodup_range (by simp; omega) (by simpa using h)]
  congr 2
  apply List.filter_congr
  intro x _
  by_cases e : x = s
  · subst e; simp; omega
  · simp [e]

/-- What the coins add to the next round's sums. -/
def adds (M : Nat) (s : Nat) (l : List Int) : List Int := (l.map fun c => (s : Int) + c).filter fun t => decide (t ≤ (M : Int))
theorem of_inner (n : Nat × Nat) {cs : List Int} (hv : Vld cs) (f1 : List Int → Int → Int → List Int → List Int → Option R44) (f2 : List Int → Int → Int → Int → Int → List Int → List Int → List Int → Option R44) (M s : Nat) (k v26 v27 : Int) (out v25 : List Int) (hM : M ≤ 900) (hs : s ≤ M) :
    ∀ (m i : Nat) (nx : List Int), i ≤ cs.length → cs.length - i < m → nx.length + (cs.length - i) ≤ 10000 → DL44_4 n f1 f2 m cs (M : Int) k (s : Int) v26 v27 cs (cs.length : Int) (i : Int) out nx v25 = DL44_3 n f1 f2 cs (M : Int) k v26 v27 out (nx ++ adds M s (cs.drop i)) v25
  | 0, i, nx, _, h, _ => by omega
  | m + 1, i, nx, hi, h, hnx => by
    have hl := hv.len
    rw [DL44_4_succ]
    unfold DF44_4
    by_cases hlt : i < cs.length
    · obtain ⟨hc1, hc2⟩ := hv.rng cs[i] (List.getElem_mem _)
      rw [decide_eq_true (show (i : Int) < (cs.length : Int) by omega), cond_true, idx_nat hlt, drop_cons hlt]
      simp only [Option.bind_some, adds, List.map_cons]
      generalize cs[i] = c at hc1 hc2
      rw [wr_ok (x := (s : Int) + c) (by omega) (by omega)]
      have ih := fun nx (h9 : nx.length + (cs.length - (i + 1)) ≤ 10000) => of_inner n hv f1 f2 M s k v26 v27 out v25 hM hs m (i + 1) nx (by omega) (by omega) h9
      rw [show ((i + 1 : Nat) : Int) = wr .i64 ((i : Int) + 1) by rw [wr_ok (by omega) (by omega)]; omega] at ih
      by_cases hle : (s : Int) + c ≤ (M : Int)
      · rw [decide_eq_true hle, cond_true, decide_eq_true (by simp [lim]; omega), cond_true]
        simp only [DL44_5]
        rw [ih _ (by simp; omega), List.filter_cons_of_pos (by simpa using hle)]
        simp [adds]
      · rw [decide_eq_false hle, cond_false]
        simp only [DL44_5]
        rw [ih _ (by omega), List.filter_cons_of_neg (by simpa using hle)]
        simp [adds]
    · rw [decide_eq_false (show ¬ (i : Int) < (cs.length : Int) by omega), cond_false, List.drop_of_length_le (by omega)]
      simp [adds]
theorem adds_len (M s : Nat) (l : List Int) : (adds M s l).length ≤ l.length := by
  unfold adds
  refine Nat.le_trans (List.length_filter_le _ _) ?_
  simp

/-- In round k: sums with fewer coins are known, and those of k coins that were met. -/
structure Rd (cs : List Int) (M k : Nat) (F : Nat → Int) : Prop where
  val : ∀ x, x ≤ M → F x = opt cs x ∨ F x = -1
  low : ∀ x, x ≤ M → opt cs x < k → F x = opt cs x
  top : ∀ x, x ≤ M → F x = opt cs x → opt cs x ≤ k

theorem of_mid (n : Nat × Nat) (hn : 10000 ≤ n.1) {cs : List Int} (hv : Vld cs) (f1 : List Int → Int → Int → List Int → List Int → Option R44) (M k : Nat) (hM : M ≤ 900) (hk : k ≤ M) (now : List Int) (hnow : now.length ≤ 9000)
    (hr : ∀ x ∈ now, 0 ≤ x ∧ x ≤ (M : Int) ∧ Rch cs k x) :
    ∀ (m i : Nat) (F : Nat → Int) (nx : List Int), i ≤ now.length → now.length - i < m → Rd cs M k F → (∀ x ∈ now.take i, F x.toNat = opt cs x) → nx.length + 6 * unm M F ≤ 6 * (M + 1) →
      (∀ x ∈ nx, 0 ≤ x ∧ x ≤ (M : Int) ∧ Rch cs (k + 1) x) → (∀ s, s ≤ M → F s = opt cs s → opt cs s = k → ∀ c ∈ cs, (s : Int) + c ≤ M → (s : Int) + c ∈ nx) →
      ∃ F' nx', DL44_2 n f1 m cs (M : Int) (k : Int) (now.length : Int) (i : Int) (ltab M F) nx now = f1 cs (M : Int) ((k : Int) + 1) (ltab M F') nx' ∧
        Rd cs M k F' ∧ (∀ x ∈ now, F' x.toNat = opt cs x) ∧ nx'.length ≤ 6 * (M + 1) ∧ (∀ x ∈ nx', 0 ≤ x ∧ x ≤ (M : Int) ∧ Rch cs (k + 1) x) ∧ (∀ s, s ≤ M → F' s = opt cs s → opt cs s = k → ∀ c ∈ cs, (s : Int) + c ≤ M → (s : Int) + c ∈ nx')
  | 0, i, F, nx, _, h, _, _, _, _, _ => by omega
  | m + 1, i, F, nx, hi, h, hR, htk, hcnt, hnx, hcl => by
    rw [DL44_2_succ]
    unfold DF44_2
    by_cases hlt : i < now.length
    · obtain ⟨hx0, hxM, hxr⟩ := hr now[i] (List.getElem_mem _)
      rw [decide_eq_true (show (i : Int) < (now.length : Int) by omega), cond_true, inB_nat hlt, cond_true, idx_nat hlt]
      simp only [Option.bind_some]
      generalize hxx : now[i] = x at hx0 hxM hxr
      obtain ⟨s, rfl⟩ := Int.eq_ofNat_of_zero_le hx0
      have hsM : s ≤ M := by omega
      have hsl : s < (ltab M F).length := by rw [ltab_length]; omega
      have ho0 := opt_nonneg hv.mnt (s := (s : Int)) (by omega)
      have htk1 : ∀ (G : Nat → Int), G s = opt cs s → (∀ x ∈ now.take i, G x.toNat = opt cs x) → ∀ x ∈ now.take (i + 1), G x.toNat = opt cs x := fun G h1 h2 x hx => by
        rw [List.take_add_one, List.getElem?_eq_getElem hlt, hxx] at hx
        simp only [Option.toList_some, List.mem_append, List.mem_singleton] at hx
        rcases hx with hx | rfl
        · exact h2 x hx
        · exact h1
      rw [inB_nat hsl, cond_true, idx_nat hsl, ltab_get]
      simp only [Option.bind_some]
      have ih := of_mid n hn hv f1 M k hM hk now hnow hr m (i + 1)
      rw [show ((i + 1 : Nat) : Int) = wr .i64 ((i : Int) + 1) by rw [wr_ok (by omega) (by omega)]; omega] at ih
      by_cases hF : F s ≥ 0
      · rw [decide_eq_true hF, cond_true]
        simp only [DL44_3]
        have hFs : F s = opt cs s := by
          rcases hR.val s hsM with h | h
          · exact h
          · omega
        exact ih F nx (by omega) (by omega) hR (htk1 F hFs htk) hcnt hnx hcl
      · rw [decide_eq_false hF, cond_false, cond_true]
        have hge : (k : Int) ≤ opt cs s := by
          refine Int.not_lt.1 fun hl => ?_
          have := hR.low s hsM hl
          omega
        have hle := opt_le hv.mnt hxr
        have hok : opt cs s = k := by omega
        have hun := unm_set (M := M) (F := F) (s := s) (v := (k : Int)) hsM (by omega) (by omega)
        have hl6 := hv.len
        have hin := fun out => of_inner n hv f1 (DL44_2 n f1 m) M s (k : Int) (now.length : Int) (i : Int) out now hM hsM n.1 0 nx (by omega) (by omega) (by omega)
        simp only [show ((0 : Nat) : Int) = 0 from rfl] at hin
        rw [hin]
        simp only [DL44_3, List.drop_zero]
        rw [Int.toNat_natCast, ltab_set]
        have hadl := adds_len M s cs
        refine ih (fun x => if x = s then (k : Int) else F x) (nx ++ adds M s cs) (by omega) (by omega) ⟨?_, ?_, ?_⟩ ?_ ?_ ?_ ?_
        · intro x hx
          by_cases e : x = s
          · subst e; left; rw [if_pos rfl, hok]
          · rw [if_neg e]; exact hR.val x hx
        · intro x hx ho
          by_cases e : x = s
          · subst e; rw [if_pos rfl, hok]
          · rw [if_neg e]; exact hR.low x hx ho
        · intro x hx ho
          by_cases e : x = s
          · subst e; omega
          · rw [if_neg e] at ho; exact hR.top x hx ho
        · refine htk1 (fun x => if x = s then (k : Int) else F x) (by rw [if_pos rfl, hok]) fun x hx => ?_
          by_cases e : x.toNat = s
          · rw [if_pos e]
            have hx9 := hr x (List.mem_of_mem_take hx)
            rw [show x = (s : Int) by omega, hok]
          · rw [if_neg e]; exact htk x hx
        · simp only [List.length_append]; omega
        · intro x hx
          rcases List.mem_append.1 hx with hx | hx
          · exact hnx x hx
          · simp only [adds, List.mem_filter, List.mem_map, decide_eq_true_eq] at hx
            obtain ⟨⟨c, hc, rfl⟩, hxm⟩ := hx
            have := (hv.rng c hc).1
            exact ⟨by omega, hxm, c, hc, by rw [show (s : Int) + c - c = s by omega]; exact hxr⟩
        · intro t ht hFt hot c hc htc
          by_cases e : t = s
          · subst e
            refine List.mem_append.2 (.inr ?_)
            simp only [adds, List.mem_filter, List.mem_map, decide_eq_true_eq]
            exact ⟨⟨c, hc, rfl⟩, htc⟩
          · rw [if_neg e] at hFt
            exact List.mem_append.2 (.inl (hcl t ht hFt hot c hc htc))
    · obtain rfl : i = now.length := by omega
      rw [decide_eq_false (show ¬ (now.length : Int) < (now.length : Int) by omega), cond_false, wr_ok (by omega) (by omega)]
      rw [List.take_length] at htk
      exact ⟨F, nx, rfl, hR, htk, by omega, hnx, hcl⟩

theorem of_out (n : Nat × Nat) (hn : 10000 ≤ n.1) {cs : List Int} (hv : Vld cs) (M : Nat) (hM : M ≤ 900) : ∀ (m k : Nat) (F : Nat → Int) (now : List Int), k ≤ M + 1 → M + 1 - k < m → now.length ≤ 6 * (M + 1) → (∀ x ∈ now, 0 ≤ x ∧ x ≤ (M : Int) ∧ Rch cs k x) →
    (∀ x, x ≤ M → opt cs x = k → (x : Int) ∈ now) → (∀ x, x ≤ M → F x = if opt cs x < k then opt cs x else -1) → DL44_1 n m cs (M : Int) (k : Int) (ltab M F) now = some (ftab cs M)
  | 0, k, F, now, _, h, hl, hr, hc, hF => by
    omega
  | m + 1, k, F, now, hkM, h, hl, hr, hc, hF => by
    rw [DL44_1_succ]
    unfold DF44_1
    have hm := hv.mnt
    by_cases hz : now.length = 0
    · rw [decide_eq_false (by omega), cond_false]
      have hnil : now = [] := List.eq_nil_of_length_eq_zero hz
      -- no sum needs k coins or more
      have no : ∀ d : Nat, ∀ x : Nat, x ≤ M → opt cs x ≠ (k : Int) + d := by
        intro d
        induction d with
        | zero =>
          intro x hx ho
          have := hc x hx (by omega)
          rw [hnil] at this
          cases this
        | succ d ih =>
          intro x hx ho
          have hx0 : 0 < (x : Int) := by
            have := opt_self hm (s := (x : Int)) (by omega)
            omega
          obtain ⟨c, a1, a2, a3⟩ := opt_step hm hx0
          have hcp := hm.pos c a1
          refine ih ((x : Int) - c).toNat (by omega) ?_
          rw [Int.toNat_of_nonneg (by omega)]
          omega
      have : ltab M F = ftab cs M := ltab_congr fun x hx => by
        rw [hF x hx, if_pos]
        refine Int.not_le.1 fun hge => ?_
        have := no (opt cs x - k).toNat x hx
        omega
      rw [this]
    · rw [decide_eq_true (by omega), cond_true]
      -- some sum is k coins: k is not greater than the sum
      have hk : k ≤ M := by
        obtain ⟨x, hx⟩ := List.exists_mem_of_length_pos (show 0 < now.length by omega)
        obtain ⟨h1, h2, h3⟩ := hr x hx
        have := h3.le hm.pos
        omega
      have hv0 : ∀ x : Nat, 0 ≤ opt cs x := fun x => opt_nonneg hm (by omega)
      obtain ⟨F', nx', he, hR, hall, hln, hrn, hcn⟩ := of_mid n hn hv (DL44_1 n m) M k hM hk now (by omega) hr n.1 0 F [] (by omega) (by omega)
        ⟨fun x hx => by rw [hF x hx]; split <;> simp, fun x hx ho => by rw [hF x hx, if_pos ho], fun x hx ho => by
          rw [hF x hx] at ho
          have := hv0 x
          split at ho <;> omega⟩ (by simp) (by have := unm_le M F; simp; omega) (by simp) (fun s hs hFs ho => by
          rw [hF s hs, if_neg (by omega)] at hFs
          have := hv0 s
          omega)
      rw [show ((0 : Nat) : Int) = 0 from rfl] at he
      rw [he]
      have ih := of_out n hn hv M hM m (k + 1) F' nx' (by omega) (by omega) hln hrn (fun x hx ho => by
        have hx0 : 0 < (x : Int) := by
          have := opt_self hm (s := (x : Int)) (by omega)
          omega
        obtain ⟨c, a1, a2, a3⟩ := opt_step hm hx0
        have hcp := hm.pos c a1
        obtain ⟨y, hy⟩ : ∃ y : Nat, (x : Int) - c = y := ⟨((x : Int) - c).toNat, by omega⟩
        rw [hy] at a3
        have hoy : opt cs y = k := by omega
        have hyn := hall y (hc y (by omega) hoy)
        rw [Int.toNat_natCast] at hyn
        have := hcn y (by omega) hyn hoy c a1 (by omega)
        rwa [show (y : Int) + c = x by omega] at this) (fun x hx => by
        by_cases h1 : opt cs x < (k : Int)
        · rw [if_pos (by omega), hR.low x hx h1]
        · by_cases h2 : opt cs x = (k : Int)
          · rw [if_pos (by omega)]
            have := hall x (hc x hx h2)
            rwa [Int.toNat_natCast] at this
          · rw [if_neg (by omega)]
            rcases hR.val x hx with h3 | h3
            · have := hR.top x hx h3; omega
            · exact h3)
      rw [show ((k + 1 : Nat) : Int) = (k : Int) + 1 by omega] at ih
      exact ih
theorem ofew_eq {cs : List Int} (hv : Vld cs) (M : Nat) (hM : M ≤ 249) : D44 N cs (M : Int) = some (ftab cs M) := by
  unfold D44
  rw [show wr .i64 ((M : Int) + 1) = ((M + 1 : Nat) : Int) by rw [wr_ok (by omega) (by omega)]; omega, rep_eq (by omega)]
  simp only [Option.bind_some]
  have := of_out N (Nat.le_refl _) hv M (by omega) N.1 0 (fun _ => -1) [0] (by omega) (by show M + 1 - 0 < 10000; omega) (by simp; omega) (by simp; exact rfl) (fun x hx ho => by
    have : x = 0 := by
      refine Classical.byContradiction fun h => ?_
      have := opt_pos hv.mnt (s := (x : Int)) (by omega)
      omega
    subst this
    simp) (fun x hx => by
    have := opt_nonneg hv.mnt (s := (x : Int)) (by omega)
    rw [if_neg (by omega)])
  rw [show ltab M (fun _ => -1) = List.replicate (M + 1) (-1) by
    apply List.ext_getElem
    · simp [ltab]
    · intro i h1 h2; rw [ltab_get]; simp] at this
  exact this

theorem gr_cons (c : Int) (l : List Int) (s : Int) : gr (c :: l) s = ((gr l s).2.2 / c :: (gr l s).1, (gr l s).2.1 + (gr l s).2.2 / c, (gr l s).2.2 - (gr l s).2.2 / c * c) := rfl
theorem gr_length : ∀ (l : List Int) (s : Int), (gr l s).1.length = l.length
  | [], s => rfl
  | c :: l, s => by rw [gr_cons]; simp [gr_length l s]
theorem gr_rest {l : List Int} : ∀ (hp : ∀ c ∈ l, 1 ≤ c) {s : Int}, 0 ≤ s → 0 ≤ (gr l s).2.2 ∧ (gr l s).2.2 ≤ s := by
  induction l with
  | nil => intro hp s hs; exact ⟨hs, Int.le_refl s⟩
  | cons c l ih =>
    intro hp s hs
    obtain ⟨h1, h2⟩ := ih (fun c h => hp c (by simp [h])) hs
    have hc := hp c (by simp)
    have h3 := Int.emod_nonneg (gr l s).2.2 (show c ≠ 0 by omega)
    have h4 := Int.mul_ediv_add_emod (gr l s).2.2 c
    have h5 := Int.ediv_nonneg h1 (show 0 ≤ c by omega)
    have h6 : 0 ≤ (gr l s).2.2 / c * c := Int.mul_nonneg h5 (by omega)
    rw [Int.mul_comm] at h4
    rw [gr_cons]
    simp only
    omega
theorem gr_nn {l : List Int} : ∀ (hp : ∀ c ∈ l, 1 ≤ c) {s : Int}, 0 ≤ s → (∀ x ∈ (gr l s).1, 0 ≤ x) ∧ 0 ≤ (gr l s).2.1 ∧ (gr l s).2.1 + (gr l s).2.2 ≤ s := by
  induction l with
  | nil => intro hp s hs; exact ⟨by simp [gr], Int.le_refl 0, by show (0 : Int) + s ≤ s; omega⟩
  | cons c l ih =>
    intro hp s hs
    obtain ⟨h1, h2, h7⟩ := ih (fun c h => hp c (by simp [h])) hs
    have hr := gr_rest (l := l) (fun c h => hp c (by simp [h])) hs
    have hc := hp c (by simp)
    have h5 := Int.ediv_nonneg hr.1 (show 0 ≤ c by omega)
    have h6 : (gr l s).2.2 / c * 1 ≤ (gr l s).2.2 / c * c := Int.mul_le_mul_of_nonneg_left hc h5
    rw [gr_cons]
    refine ⟨fun x hx => ?_, by simp only; omega, by simp only; omega⟩
    rcases List.mem_cons.1 hx with rfl | hx
    · exact h5
    · exact h1 x hx
theorem gr_tot : ∀ (l : List Int) (s : Int), tot (gr l s).1 = (gr l s).2.1
  | [], s => rfl
  | c :: l, s => by rw [gr_cons]; simp only [tot]; rw [gr_tot l s]; omega
theorem gr_zero : ∀ (l : List Int), (gr l 0).1 = List.replicate l.length 0 ∧ (gr l 0).2 = (0, 0)
  | [] => ⟨rfl, rfl⟩
  | c :: l => by
    obtain ⟨h1, h2⟩ := gr_zero l
    rw [gr_cons, h1, h2]
    simp [List.replicate_succ]
theorem gr_over {l : List Int} {s : Int} (h0 : 0 ≤ s) : (∀ c ∈ l, s < c) → gr l s = (List.replicate l.length 0, 0, s) := by
  induction l with
  | nil => intro _; rfl
  | cons c l ih =>
    intro h
    rw [gr_cons, ih (fun x hx => h x (by simp [hx]))]
    simp only
    rw [Int.ediv_eq_zero_of_lt h0 (h c (by simp))]
    simp [List.replicate_succ]
/-- The number of greatest coins. -/
theorem gr_grd : ∀ (l : List Int) (s : Int), (∀ c ∈ l, 1 ≤ c) → ∀ (ds : List Int), grd (l.reverse ++ ds) s = (gr l s).2.1 + grd ds (gr l s).2.2
  | [], s, _, ds => by show grd ds s = 0 + grd ds s; omega
  | c :: l, s, hp, ds => by
    rw [List.reverse_cons, List.append_assoc, gr_grd l s (fun x hx => hp x (by simp [hx])) ([c] ++ ds), gr_cons]
    simp only [List.cons_append, List.nil_append, grd_cons]
    have h4 := Int.mul_ediv_add_emod (gr l s).2.2 c
    rw [Int.mul_comm] at h4
    rw [show (gr l s).2.2 - (gr l s).2.2 / c * c = (gr l s).2.2 % c by omega]
    omega
theorem gr_count {l : List Int} (hp : ∀ c ∈ l, 1 ≤ c) (s : Int) : (gr l s).2.1 = grd l.reverse s := by
  have := gr_grd l s hp []
  rw [List.append_nil] at this
  simp only [grd] at this
  omega
theorem Vld.cons {cs : List Int} (h : Vld cs) : ∃ l, cs = 1 :: l := by
  have h1 := h.one
  have h2 := h.pos
  cases cs with
  | nil => simp at h2
  | cons a l => simp at h1; exact ⟨l, by rw [h1]⟩
theorem gr_done {cs : List Int} (h : Vld cs) (s : Int) : (gr cs s).2.2 = 0 := by
  obtain ⟨l, rfl⟩ := h.cons
  rw [gr_cons]
  simp only [Int.ediv_one]
  omega
theorem gr_sub {l : List Int} : ∀ (hp : ∀ c ∈ l, 1 ≤ c) {s : Int}, 0 ≤ s → PayU l (s - (gr l s).2.2) (gr l s).1 := by
  induction l with
  | nil => intro hp s hs; exact ⟨by show s - s = 0; omega, rfl⟩
  | cons c l ih =>
    intro hp s hs
    have hr := gr_rest (l := l) (fun c h => hp c (by simp [h])) hs
    have hc := hp c (by simp)
    have h5 := Int.ediv_nonneg hr.1 (show 0 ≤ c by omega)
    rw [gr_cons]
    refine ⟨_, _, rfl, h5, ?_⟩
    have := ih (fun c h => hp c (by simp [h])) hs
    simp only
    rwa [show s - ((gr l s).2.2 - (gr l s).2.2 / c * c) - (gr l s).2.2 / c * c = s - (gr l s).2.2 by omega]
theorem gr_payU {cs : List Int} (h : Vld cs) {s : Int} (hs : 0 ≤ s) : PayU cs s (gr cs s).1 := by
  have := gr_sub (fun c hc => (h.rng c hc).1) hs
  rwa [gr_done h s, Int.sub_zero] at this

theorem great_eq {n : Nat × Nat} {cs : List Int} (h : Vld cs) {s : Int} (h0 : 0 ≤ s) (h1 : s ≤ 1000000) : D63 n cs s = some ((gr cs s).1, (gr cs s).2.1) := by
  unfold D63 HF63
  have hl := h.len
  have hp := h.pos
  have hb : ((cs.all fun c => decide (1 ≤ c) && decide (c ≤ 1073741824)) && (decide (0 ≤ s) && decide (s ≤ 1073741824)) && (decide (0 < cs.length) && decide (cs.length ≤ 1048576))) = true := by
    simp only [Bool.and_eq_true, decide_eq_true_eq, List.all_eq_true]
    exact ⟨⟨fun c hc => by have := h.rng c hc; omega, h0, by omega⟩, hp, by omega⟩
  rw [hb, cond_true]

theorem rgreat_loop (n : Nat × Nat) {cs : List Int} (h : Vld cs) {s : Int} (h0 : 0 ≤ s) (h1 : s ≤ 1000000) : ∀ (m i : Nat), i ≤ cs.length → i < m →
    DL64_1 n m cs (gr (cs.drop i) s).2.2 ((i : Int) - 1) (List.replicate i 0 ++ (gr (cs.drop i) s).1) = some (gr cs s).1
  | 0, i, _, hm => by omega
  | m + 1, i, hi, hm => by
    have hl := h.len
    rw [DL64_1_succ]
    unfold DF64_1
    cases i with
    | zero =>
      rw [decide_eq_false (by omega), cond_false]
      simp
    | succ i =>
      have hlt : i < cs.length := by omega
      have hc := h.rng cs[i] (List.getElem_mem _)
      have hr := gr_rest (l := cs.drop (i + 1)) (fun c hc => (h.rng c (List.mem_of_mem_drop hc)).1) h0
      have hol : i < (List.replicate (i + 1) (0 : Int) ++ (gr (cs.drop (i + 1)) s).1).length := by simp; omega
      rw [show ((i + 1 : Nat) : Int) - 1 = (i : Int) by omega, decide_eq_true (show (i : Int) ≥ 0 by omega), cond_true, idx_nat hlt]
      simp only [Option.bind_some]
      have hne : (cs[i] == 0) = false := by simpa using (show cs[i] ≠ 0 by omega)
      rw [hne, cond_false, inB_nat hol, cond_true, idx_nat hol]
      simp only [Option.bind_some, cond_false]
      have ih := rgreat_loop n h h0 h1 m i (by omega) (by omega)
      rw [drop_cons hlt, gr_cons] at ih
      generalize gr (cs.drop (i + 1)) s = g at *
      have hd := Int.ediv_nonneg hr.1 (show 0 ≤ cs[i] by omega)
      have hdl : g.2.2 / cs[i] * 1 ≤ g.2.2 / cs[i] * cs[i] := Int.mul_le_mul_of_nonneg_left hc.1 hd
      have hm4 := Int.mul_ediv_add_emod g.2.2 cs[i]
      have hm5 := Int.emod_nonneg g.2.2 (show cs[i] ≠ 0 by omega)
      rw [Int.mul_comm] at hm4
      rw [Int.tdiv_eq_ediv_of_nonneg hr.1, Int.tmod_eq_emod_of_nonneg hr.1, wr_ok (x := (i : Int) - 1) (by omega) (by omega), wr_ok (x := g.2.2 / cs[i]) (by omega) (by omega), Int.toNat_natCast]
      rw [show g.2.2 - g.2.2 / cs[i] * cs[i] = g.2.2 % cs[i] by omega] at ih
      rw [show (List.replicate (i + 1) (0 : Int) ++ g.1).set i (g.2.2 / cs[i]) = List.replicate i 0 ++ (g.2.2 / cs[i] :: g.1) by
        rw [List.set_append_left _ _ (by simp), List.replicate_succ', List.set_append_right _ _ (by simp)]
        simp]
      exact ih
theorem rgreat_eq {n : Nat × Nat} (hn : 1000 ≤ n.1) {cs : List Int} (h : Vld cs) {s : Int} (h0 : 0 ≤ s) (h1 : s ≤ 1000000) : D64 n cs s = some (gr cs s).1 := by
  unfold D64
  have hl := h.len
  rw [decide_eq_true (show (0 : Int) ≤ (cs.length : Int) by omega), decide_eq_true (Int.le_refl _), decide_eq_true (show (cs.length : Int) ≤ lim by simp [lim]; omega), Bool.and_self, Bool.and_self, cond_true, wr_ok (by omega) (by omega), Int.toNat_natCast]
  have := rgreat_loop n h h0 h1 n.1 cs.length (Nat.le_refl _) (by omega)
  rw [List.drop_of_length_le (Nat.le_refl _)] at this
  simpa [gr] using this

/-- The total. -/
theorem total_loop (n : Nat × Nat) (l : List Int) (hl : l.length ≤ 100) (hb : ∀ x ∈ l, -1000000000 ≤ x ∧ x ≤ 1000000000) : ∀ (m i : Nat) (v : Int), i ≤ l.length → l.length - i < m → -1000000000 * (i : Int) ≤ v → v ≤ 1000000000 * (i : Int) → DL70_1 n m l v (i : Int) = some (v + tot (l.drop i))
  | 0, i, v, _, h, _, _ => by omega
  | m + 1, i, v, hi, h, h1, h2 => by
    rw [DL70_1_succ]
    unfold DF70_1
    by_cases hlt : i < l.length
    · have hx := hb l[i] (List.getElem_mem _)
      rw [decide_eq_true (show (i : Int) < (l.length : Int) by omega), cond_true, idx_nat hlt]
      simp only [Option.bind_some]
      rw [wr_ok (x := v + l[i]) (by omega) (by omega), drop_cons hlt]
      have ih := total_loop n l hl hb m (i + 1) (v + l[i]) (by omega) (by omega) (by omega) (by omega)
      rw [show ((i + 1 : Nat) : Int) = wr .i64 ((i : Int) + 1) by rw [wr_ok (by omega) (by omega)]; omega] at ih
      rw [ih]
      simp only [tot]
      congr 1
      omega
    · rw [decide_eq_false (show ¬ (i : Int) < (l.length : Int) by omega), cond_false, List.drop_of_length_le (by omega)]
      simp [tot]
theorem total_eq {n : Nat × Nat} (hn : 1000 ≤ n.1) (l : List Int) (hl : l.length ≤ 100) (hb : ∀ x ∈ l, -1000000000 ≤ x ∧ x ≤ 1000000000) : D70 n l = some (tot l) := by
  unfold D70
  have := total_loop n l hl hb n.1 0 0 (by omega) (by omega) (by simp) (by simp)
  simpa using this
theorem gr_bd {cs : List Int} (h : Vld cs) {s : Int} (h0 : 0 ≤ s) : ∀ x ∈ (gr cs s).1, 0 ≤ x ∧ x ≤ s := by
  obtain ⟨h1, h2, h3⟩ := gr_nn (fun c hc => (h.rng c hc).1) h0
  have h4 := gr_rest (fun c hc => (h.rng c hc).1) h0
  have ht := gr_tot cs s
  have key : ∀ (l : List Int), (∀ x ∈ l, 0 ≤ x) → 0 ≤ tot l ∧ ∀ x ∈ l, x ≤ tot l := by
    intro l
    induction l with
    | nil => intro _; simp [tot]
    | cons a l ih =>
      intro ha
      obtain ⟨k1, k2⟩ := ih (fun x hx => ha x (by simp [hx]))
      have := ha a (by simp)
      refine ⟨by simp only [tot]; omega, fun x hx => ?_⟩
      simp only [tot]
      rcases List.mem_cons.1 hx with rfl | hx
      · omega
      · have := k2 x hx; omega
  intro x hx
  have := (key _ h1).2 x hx
  exact ⟨h1 x hx, by omega⟩
theorem rtotal_eq {n : Nat × Nat} (hn : 1000 ≤ n.1) {cs : List Int} (h : Vld cs) {s : Int} (h0 : 0 ≤ s) (h1 : s ≤ 1000000) : D70 n (gr cs s).1 = some (gr cs s).2.1 := by
  rw [total_eq hn _ (by rw [gr_length]; have := h.len; omega) (fun x hx => by have := gr_bd h h0 x hx; omega), gr_tot]
/-! ### Greatest coins, one by one -/
def bump (l : List Int) (i : Nat) : List Int := l.set i (l[i]?.getD 0 + 1)
theorem gr_step : ∀ {l : List Int} (hp : ∀ c ∈ l, 1 ≤ c) {s : Int} {i : Nat} (hi : i < l.length), l[i] ≤ s → (∀ j (hj : j < l.length), i < j → s < l[j]) →
    (gr l s).1 = bump (gr l (s - l[i])).1 i ∧ (gr l s).2.1 = (gr l (s - l[i])).2.1 + 1 ∧ (gr l s).2.2 = (gr l (s - l[i])).2.2
  | [], _, _, _, hi, _, _ => by simp at hi
  | c :: l, hp, s, 0, hi, hle, hov => by
    have hc := hp c (by simp)
    simp only [List.getElem_cons_zero] at hle ⊢
    have ho : ∀ x ∈ l, s < x := fun x hx => by
      obtain ⟨j, hj, rfl⟩ := List.getElem_of_mem hx
      have := hov (j + 1) (by simp; omega) (by omega)
      simpa using this
    have e1 := gr_over (l := l) (s := s) (by omega) ho
    have e2 := gr_over (l := l) (s := s - c) (by omega) (fun x hx => by have := ho x hx; omega)
    rw [gr_cons, gr_cons, e1, e2]
    have h2 : (s - c) / c = s / c - 1 := by
      have := Int.add_mul_ediv_right s (-1) (show c ≠ 0 by omega)
      rw [show s + -1 * c = s - c by omega] at this
      omega
    simp only [bump, h2]
    refine ⟨?_, by omega, ?_⟩
    · simp
    · rw [Int.sub_mul]; omega
  | c :: l, hp, s, i + 1, hi, hle, hov => by
    have hc := hp c (by simp)
    simp only [List.getElem_cons_succ] at hle ⊢
    obtain ⟨h1, h2, h3⟩ := gr_step (l := l) (fun x hx => hp x (by simp [hx])) (s := s) (i := i) (by simpa using hi) hle (fun j hj hij => by
      have := hov (j + 1) (by simp; omega) (by omega)
      simpa using this)
    rw [gr_cons, gr_cons, h1, h2, h3]
    simp only [bump]
    refine ⟨?_, by omega, trivial⟩
    simp

def zad (a b : List Int) : List Int := List.zipWith (· + ·) a b
theorem zad_zero : ∀ (a : List Int) (k : Nat), k = a.length → zad a (List.replicate k 0) = a
  | [], k, h => by subst h; rfl
  | x :: a, k, h => by
    subst h
    have := zad_zero a a.length rfl
    unfold zad at *
    simp only [List.length_cons, List.replicate_succ, List.zipWith_cons_cons, this, Int.add_zero]
theorem zero_zad : ∀ (a : List Int) (k : Nat), k = a.length → zad (List.replicate k 0) a = a
  | [], k, h => by subst h; rfl
  | x :: a, k, h => by
    subst h
    have := zero_zad a a.length rfl
    unfold zad at *
    simp only [List.length_cons, List.replicate_succ, List.zipWith_cons_cons, this, Int.zero_add]
theorem zad_bump : ∀ (a b : List Int) (i : Nat), a.length = b.length → i < a.length → zad (bump a i) b = zad a (bump b i)
  | [], _, i, _, h => by simp at h
  | x :: a, [], i, h, _ => by simp at h
  | x :: a, y :: b, 0, h, hi => by
    simp only [zad, bump, List.set_cons_zero, List.getElem?_cons_zero, Option.getD_some, List.zipWith_cons_cons]
    congr 1
    omega
  | x :: a, y :: b, i + 1, h, hi => by
    have := zad_bump a b i (by simpa using h) (by simpa using hi)
    simp only [zad, bump, List.set_cons_succ, List.getElem?_cons_succ, List.zipWith_cons_cons] at this ⊢
    rw [this]

theorem og_find (n : Nat × Nat) {cs : List Int} (h : Vld cs) (f1 : List Int → Int → Int → List Int → Option R45) (r v : Int) (out : List Int) (hr : 1 ≤ r) (hr2 : r ≤ 1000000) (hol : out.length = cs.length) (hob : ∀ x ∈ out, 0 ≤ x ∧ x ≤ 1000000) (hv0 : 0 ≤ v) (hv1 : v ≤ 1000000) :
    ∀ (m i : Nat) (hi : i < cs.length), i < m → (∀ j (hj : j < cs.length), i < j → r < cs[j]) →
    ∃ i' : Nat, ∃ hi' : i' < cs.length, cs[i'] ≤ r ∧ (∀ j (hj : j < cs.length), i' < j → r < cs[j]) ∧ DL45_2 n f1 m cs r v (i : Int) out = f1 cs (r - cs[i']) (v + 1) (bump out i')
  | 0, i, _, hm, _ => by omega
  | m + 1, i, hi, hm, hov => by
    have hl := h.len
    rw [DL45_2_succ]
    unfold DF45_2
    rw [idx_nat hi]
    simp only [Option.bind_some]
    have hc := h.rng cs[i] (List.getElem_mem _)
    by_cases hgt : cs[i] > r
    · rw [decide_eq_true hgt, cond_true]
      have hi0 : i ≠ 0 := by
        rintro rfl
        obtain ⟨l, hcl⟩ := h.cons
        have : cs[0] = 1 := by simp [hcl]
        omega
      obtain ⟨i', hi', a, b, c⟩ := og_find n h f1 r v out hr hr2 hol hob hv0 hv1 m (i - 1) (by omega) (by omega) (fun j hj hij => by
        by_cases e : j = i
        · subst e; omega
        · exact hov j hj (by omega))
      rw [show wr .i64 ((i : Int) - 1) = ((i - 1 : Nat) : Int) by rw [wr_ok (by omega) (by omega)]; omega]
      exact ⟨i', hi', a, b, c⟩
    · rw [decide_eq_false hgt, cond_false]
      have hio : i < out.length := by omega
      have hx := hob out[i] (List.getElem_mem _)
      rw [inB_nat hio, cond_true, idx_nat hio]
      simp only [Option.bind_some]
      rw [wr_ok (x := r - cs[i]) (by omega) (by omega), wr_ok (x := v + 1) (by omega) (by omega), wr_ok (x := out[i] + 1) (by omega) (by omega), Int.toNat_natCast]
      refine ⟨i, hi, by omega, hov, ?_⟩
      unfold bump
      rw [List.getElem?_eq_getElem hio]
      rfl
theorem og_loop (n : Nat × Nat) (hn : 1000 ≤ n.1) {cs : List Int} (h : Vld cs) (S : Int) (hS : S ≤ 1000000) : ∀ (m : Nat) (r v : Int) (out : List Int), 0 ≤ r → r < m → out.length = cs.length → (∀ x ∈ out, 0 ≤ x ∧ x + r ≤ S) → 0 ≤ v → v + r ≤ S →
    DL45_1 n m cs r v out = some (zad out (gr cs r).1, v + (gr cs r).2.1)
  | 0, r, v, out, h0, hm, _, _, _, _ => by omega
  | m + 1, r, v, out, h0, hm, hol, hob, hv0, hv1 => by
    have hl := h.len
    have hp := h.pos
    rw [DL45_1_succ]
    unfold DF45_1
    by_cases hr : r > 0
    · rw [decide_eq_true hr, cond_true]
      obtain ⟨i, hi, a, b, c⟩ := og_find n h (DL45_1 n m) r v out (by omega) (by omega) hol (fun x hx => by have := hob x hx; omega) hv0 (by omega) n.1 (cs.length - 1) (by omega) (by omega) (fun j hj hij => by omega)
      have hci := h.rng cs[i] (List.getElem_mem _)
      rw [show wr .i64 ((cs.length : Int) - 1) = ((cs.length - 1 : Nat) : Int) by rw [wr_ok (by omega) (by omega)]; omega, c]
      obtain ⟨h1, h2, h3⟩ := gr_step (fun c hc => (h.rng c hc).1) hi a b
      have hio : i < out.length := by omega
      rw [og_loop n hn h S hS m (r - cs[i]) (v + 1) (bump out i) (by omega) (by omega) (by simp [bump, hol]) (fun x hx => by
        unfold bump at hx
        rcases List.mem_or_eq_of_mem_set hx with hx | rfl
        · have := hob x hx; omega
        · rw [List.getElem?_eq_getElem hio]
          have := hob out[i] (List.getElem_mem _)
          simp only [Option.getD_some]
          omega) (by omega) (by omega)]
      rw [h1, h2, zad_bump _ _ _ (by rw [gr_length]; exact hol) hio]
      congr 2
      omega
    · rw [decide_eq_false hr, cond_false, show r = 0 by omega]
      obtain ⟨h1, h2⟩ := gr_zero cs
      rw [h1, h2, zad_zero out cs.length hol.symm]
      simp
theorem ogreat_eq {n : Nat × Nat} (hn : 1000 ≤ n.1) {cs : List Int} (h : Vld cs) {s : Int} (h0 : 0 ≤ s) (h1 : s < n.1) (h2 : s ≤ 1000000) : D45 n cs s = some ((gr cs s).1, (gr cs s).2.1) := by
  unfold D45
  have hl := h.len
  rw [decide_eq_true (show (0 : Int) ≤ (cs.length : Int) by omega), decide_eq_true (Int.le_refl _), decide_eq_true (show (cs.length : Int) ≤ lim by simp [lim]; omega), Bool.and_self, Bool.and_self, cond_true, Int.toNat_natCast]
  rw [og_loop n hn h s h2 n.1 s 0 (List.replicate cs.length 0) h0 h1 (by simp) (fun x hx => by
    have := List.eq_of_mem_replicate hx
    omega) (Int.le_refl 0) (by omega), zero_zad _ _ (gr_length cs s).symm]
  simp
end Go.Proofs.Ytjgmfdgpgdaclaa
/-
  Coins: the first bad sum (the program's and the reference's), and one coin more.
-/
set_option linter.unusedVariables false
set_option linter.unusedSimpArgs false
namespace Go.Proofs.Ytjgmfdgpgdaclaa
open Go.Vi

/-- Greatest coins are not best for this sum. -/
def Bad (cs : List Int) (s : Int) : Prop := opt cs s < (gr cs s).2.1

theorem Mnt.rev {cs : List Int} (h : Mnt cs) : Mnt cs.reverse := ⟨by simpa using h.one, fun c hc => h.pos c (by simpa using hc)⟩
theorem opt_rev {cs : List Int} (h : Mnt cs) {s : Int} (hs : 0 ≤ s) : opt cs.reverse s = opt cs s := by
  have h1 := opt_mono h h.rev (fun c hc => by simpa using hc) hs
  have h2 := opt_mono h.rev h (fun c hc => by simpa using hc) hs
  omega
theorem bad_iff {cs : List Int} (h : Mnt cs) {s : Int} (hs : 0 ≤ s) : Bad cs s ↔ ¬ Well cs.reverse s := by
  unfold Bad Well
  rw [gr_count h.pos, opt_rev h hs]
  omega
theorem not_bad_zero {cs : List Int} (h : Mnt cs) : ¬ Bad cs 0 := by
  unfold Bad
  rw [opt_zero h, (gr_zero cs).2]
  simp

open Classical in
/-- The first bad sum; 0: there is none. -/
noncomputable def fbad (cs : List Int) : Int := if h : ∃ n : Nat, Bad cs n then ((Classical.choose (exMin _ h) : Nat) : Int) else 0
theorem fbad_spec {cs : List Int} (hm : Mnt cs) : (fbad cs = 0 ∧ ∀ s, 0 ≤ s → ¬ Bad cs s) ∨ (0 < fbad cs ∧ Bad cs (fbad cs) ∧ ∀ s, 0 ≤ s → s < fbad cs → ¬ Bad cs s) := by
  unfold fbad
  by_cases h : ∃ n : Nat, Bad cs n
  · rw [dif_pos h]
    obtain ⟨h1, h2⟩ := Classical.choose_spec (exMin _ h)
    right
    refine ⟨?_, h1, fun s hs hlt hb => ?_⟩
    · have h0 : Classical.choose (exMin _ h) ≠ 0 := fun e => by
        rw [e] at h1
        exact not_bad_zero hm h1
      omega
    · have := h2 s.toNat (by rwa [Int.toNat_of_nonneg hs])
      omega
  · rw [dif_neg h]
    left
    refine ⟨rfl, fun s hs hb => h ⟨s.toNat, by rwa [Int.toNat_of_nonneg hs]⟩⟩
theorem fbad_zero {cs : List Int} (hm : Mnt cs) : fbad cs = 0 ↔ ∀ s, 0 ≤ s → ¬ Bad cs s := by
  rcases fbad_spec hm with ⟨h1, h2⟩ | ⟨h1, h2, h3⟩
  · exact ⟨fun _ => h2, fun _ => h1⟩
  · exact ⟨fun e => by omega, fun h => absurd h2 (h _ (by omega))⟩
theorem fbad_is {cs : List Int} (hm : Mnt cs) {w : Int} (h0 : 0 ≤ w) (h1 : Bad cs w) (h2 : ∀ s, 0 ≤ s → s < w → ¬ Bad cs s) : fbad cs = w := by
  rcases fbad_spec hm with ⟨e, h⟩ | ⟨h3, h4, h5⟩
  · exact absurd h1 (h w h0)
  · by_cases ha : fbad cs < w
    · exact absurd h4 (h2 _ (by omega) ha)
    · by_cases hb : w < fbad cs
      · exact absurd h1 (h5 _ h0 hb)
      · omega

theorem Vld.revp {cs : List Int} (h : Vld cs) : cs.reverse.Pairwise (· > ·) := List.pairwise_reverse.2 h.inc
theorem Vld.last2 {cs : List Int} (h : Vld cs) (h2 : 2 ≤ cs.length) : ∃ (d e : Int) (ds : List Int), cs.reverse = d :: e :: ds ∧ cs[cs.length - 1]? = some d ∧ cs[cs.length - 2]? = some e ∧ e < d ∧ ∀ x ∈ ds, x < e := by
  have hl : cs.reverse.length = cs.length := by simp
  match hr : cs.reverse with
  | [] => rw [hr] at hl; simp at hl; omega
  | [d] => rw [hr] at hl; simp at hl; omega
  | d :: e :: ds =>
    have hp := h.revp
    rw [hr] at hp
    have h1 := List.pairwise_cons.1 hp
    have h3 := List.pairwise_cons.1 h1.2
    refine ⟨d, e, ds, rfl, ?_, ?_, h1.1 e (by simp), fun x hx => h3.1 x hx⟩
    · have : cs.reverse[0]? = some d := by rw [hr]; rfl
      rw [List.getElem?_reverse (by omega)] at this
      exact this
    · have : cs.reverse[1]? = some e := by rw [hr]; rfl
      rw [List.getElem?_reverse (by omega)] at this
      rw [show cs.length - 2 = cs.length - 1 - 1 by omega]
      exact this
/-- Where the first bad sum can be. -/
theorem fbad_bound {cs : List Int} (h : Vld cs) (h2 : 2 ≤ cs.length) : fbad cs < cs[cs.length - 1]?.getD 0 + cs[cs.length - 2]?.getD 0 := by
  obtain ⟨d, e, ds, hr, h3, h4, h5, h6⟩ := h.last2 h2
  have hm := h.mnt.rev
  rw [hr] at hm
  rw [h3, h4, Option.getD_some, Option.getD_some]
  have hd := hm.pos d (by simp)
  have he := hm.pos e (by simp)
  rcases fbad_spec h.mnt with ⟨e0, _⟩ | ⟨k1, k2, k3⟩
  · omega
  · have b := (bad_iff h.mnt (by omega)).1 k2
    rw [hr] at b
    exact kozen hm h5 (fun c hc => by have := h6 c hc; omega) (by omega) b (fun s hs hlt => Classical.byContradiction fun hw => k3 s hs hlt ((bad_iff h.mnt hs).2 (by rw [hr]; exact hw)))
theorem fbad_two {cs : List Int} (h : Vld cs) (h2 : cs.length < 3) : fbad cs = 0 := by
  rw [fbad_zero h.mnt]
  intro s hs hb
  have b := (bad_iff h.mnt hs).1 hb
  obtain ⟨l, rfl⟩ := h.cons
  match l, h2 with
  | [], _ => exact b (well_one s hs)
  | [d], _ =>
    have : 1 < d := (List.pairwise_cons.1 h.inc).1 d (by simp)
    exact b (well_two this s hs)
  | _ :: _ :: _, h2 => simp at h2; omega
theorem fbad_low {cs : List Int} (h : Vld cs) (hb : 0 < fbad cs) : 2 < cs.length ∧ cs[2]?.getD 0 + 1 < fbad cs := by
  have h3 : ¬ cs.length < 3 := fun h9 => by have := fbad_two h h9; omega
  refine ⟨by omega, ?_⟩
  rcases fbad_spec h.mnt with ⟨e0, _⟩ | ⟨k1, k2, k3⟩
  · omega
  have b := (bad_iff h.mnt (by omega)).1 k2
  obtain ⟨l, rfl⟩ := h.cons
  match l, h3 with
  | [], h3 => simp at h3
  | [_], h3 => simp at h3
  | x :: y :: t, _ =>
    have hp := h.revp
    have e : (1 :: x :: y :: t).reverse = t.reverse ++ [y, x, 1] := by simp
    rw [e] at hp b
    exact kozen_low hp (by omega) b
theorem fbad_top {cs : List Int} (h : Vld cs) : fbad cs ≤ 2 * cs[cs.length - 1]?.getD 0 := by
  have hp := h.pos
  by_cases h2 : 2 ≤ cs.length
  · have := fbad_bound h h2
    obtain ⟨d, e, ds, hr, h3, h4, h5, h6⟩ := h.last2 h2
    rw [h3, h4, Option.getD_some, Option.getD_some] at this
    rw [h3, Option.getD_some]
    omega
  · have := fbad_two h (by omega)
    rw [List.getElem?_eq_getElem (by omega), Option.getD_some]
    have := h.rng cs[cs.length - 1] (List.getElem_mem _)
    omega

theorem bad_loop (n : Nat × Nat) (hn : 1000 ≤ n.1) {cs : List Int} (h : Vld cs) (M : Nat) (hM : M ≤ 900) (hb : fbad cs ≤ M) : ∀ (m k : Nat), k ≤ M + 1 → M + 1 - k < m → (∀ s : Int, 0 ≤ s → s < k → ¬ Bad cs s) → DL66_1 n m cs ((M + 1 : Nat) : Int) (k : Int) (ftab cs M) = some (fbad cs)
  | 0, k, _, hm, _ => by omega
  | m + 1, k, hk, hm, hno => by
    rw [DL66_1_succ]
    unfold DF66_1
    by_cases hlt : k < M + 1
    · have hkl : k < (ftab cs M).length := by rw [ftab_length]; omega
      rw [decide_eq_true (show (k : Int) < ((M + 1 : Nat) : Int) by omega), cond_true, inB_nat hkl, cond_true, idx_nat hkl, ftab_get]
      simp only [Option.bind_some]
      rw [great_eq h (by omega) (by omega)]
      simp only [Option.bind_some]
      by_cases hbad : Bad cs k
      · have hb2 : (gr cs (k : Int)).2.1 > opt cs (k : Int) := hbad
        rw [decide_eq_true hb2, cond_true, fbad_is h.mnt (by omega) hbad hno]
      · have hb2 : ¬ (gr cs (k : Int)).2.1 > opt cs (k : Int) := hbad
        rw [decide_eq_false hb2, cond_false]
        have ih := bad_loop n hn h M hM hb m (k + 1) (by omega) (by omega) (fun s hs hlt => by
          by_cases e : s = k
          · subst e; exact hbad
          · exact hno s hs (by omega))
        rw [show ((k + 1 : Nat) : Int) = wr .i64 ((k : Int) + 1) by rw [wr_ok (by omega) (by omega)]; omega] at ih
        exact ih
    · rw [decide_eq_false (show ¬ (k : Int) < ((M + 1 : Nat) : Int) by omega), cond_false]
      rcases fbad_spec h.mnt with ⟨e, _⟩ | ⟨h1, h2, _⟩
      · rw [e]
      · exact absurd h2 (hno _ (by omega) (by omega))
theorem bad_eq {n : Nat × Nat} (hn : 1000 ≤ n.1) {cs : List Int} (h : Vld cs) : D66 n cs = some (fbad cs) := by
  unfold D66
  have hp := h.pos
  have hl := h.len
  have hlt : cs.length - 1 < cs.length := by omega
  have hc := h.rng cs[cs.length - 1] (List.getElem_mem _)
  have ht := fbad_top h
  rw [List.getElem?_eq_getElem hlt, Option.getD_some] at ht
  rw [idx_int (k := cs.length - 1) (by rw [wr_ok (by omega) (by omega)]; omega) hlt]
  simp only [Option.bind_some]
  obtain ⟨M, hM⟩ : ∃ M : Nat, 2 * cs[cs.length - 1] = M := ⟨(2 * cs[cs.length - 1]).toNat, by omega⟩
  rw [hM, wr_ok (by omega) (by omega), few_eq hn h M (by omega)]
  simp only [Option.bind_some]
  rw [ftab_length]
  exact bad_loop n hn h M (by omega) (by omega) n.1 0 (by omega) (by omega) (fun s h1 h2 => by omega)
theorem rbad_loop (n : Nat × Nat) (hn : 1000 ≤ n.1) {cs : List Int} (h : Vld cs) (M : Nat) (hM : M ≤ 900) (hb : fbad cs < M) : ∀ (m k : Nat), 1 ≤ k → k ≤ M → M - k < m → (∀ s : Int, 0 ≤ s → s < k → ¬ Bad cs s) → DL67_1 n m cs (M : Int) (k : Int) (ftab cs M) = some (fbad cs)
  | 0, k, _, _, hm, _ => by omega
  | m + 1, k, hk1, hk, hm, hno => by
    rw [DL67_1_succ]
    unfold DF67_1
    by_cases hlt : k < M
    · have hkl : k < (ftab cs M).length := by rw [ftab_length]; omega
      rw [decide_eq_true (show (k : Int) < (M : Int) by omega), cond_true, rgreat_eq hn h (by omega) (by omega)]
      simp only [Option.bind_some]
      rw [rtotal_eq hn h (by omega) (by omega)]
      simp only [Option.bind_some]
      rw [inB_nat hkl, cond_true, idx_nat hkl, ftab_get]
      simp only [Option.bind_some]
      by_cases hbad : Bad cs k
      · have hb2 : (gr cs (k : Int)).2.1 > opt cs (k : Int) := hbad
        rw [decide_eq_true hb2, cond_true, fbad_is h.mnt (by omega) hbad hno]
      · have hb2 : ¬ (gr cs (k : Int)).2.1 > opt cs (k : Int) := hbad
        rw [decide_eq_false hb2, cond_false]
        have ih := rbad_loop n hn h M hM hb m (k + 1) (by omega) (by omega) (by omega) (fun s hs hlt => by
          by_cases e : s = k
          · subst e; exact hbad
          · exact hno s hs (by omega))
        rw [show ((k + 1 : Nat) : Int) = wr .i64 ((k : Int) + 1) by rw [wr_ok (by omega) (by omega)]; omega] at ih
        exact ih
    · rw [decide_eq_false (show ¬ (k : Int) < (M : Int) by omega), cond_false]
      rcases fbad_spec h.mnt with ⟨e, _⟩ | ⟨h1, h2, _⟩
      · rw [e]
      · exact absurd h2 (hno _ (by omega) (by omega))
theorem rbad_eq {n : Nat × Nat} (hn : 1000 ≤ n.1) {cs : List Int} (h : Vld cs) : D67 n cs = some (fbad cs) := by
  unfold D67
  have hp := h.pos
  have hl := h.len
  by_cases h3 : cs.length < 3
  · rw [decide_eq_true (show (cs.length : Int) < 3 by omega), cond_true, fbad_two h h3]
  · rw [decide_eq_false (show ¬ (cs.length : Int) < 3 by omega), cond_false]
    have hlt : cs.length - 1 < cs.length := by omega
    have hlt2 : cs.length - 2 < cs.length := by omega
    have hc := h.rng cs[cs.length - 1] (List.getElem_mem _)
    have hc2 := h.rng cs[cs.length - 2] (List.getElem_mem _)
    have ht := fbad_bound h (by omega)
    rw [List.getElem?_eq_getElem hlt, Option.getD_some, List.getElem?_eq_getElem hlt2, Option.getD_some] at ht
    rw [idx_int (k := cs.length - 1) (by rw [wr_ok (by omega) (by omega)]; omega) hlt, idx_int (k := cs.length - 2) (by rw [wr_ok (by omega) (by omega)]; omega) hlt2]
    simp only [Option.bind_some]
    obtain ⟨M, hM⟩ : ∃ M : Nat, cs[cs.length - 1] + cs[cs.length - 2] = M := ⟨(cs[cs.length - 1] + cs[cs.length - 2]).toNat, by omega⟩
    rw [hM, wr_ok (by omega) (by omega), rfew_eq hn h M (by omega)]
    simp only [Option.bind_some]
    exact rbad_loop n hn h M (by omega) (by omega) n.1 1 (Nat.le_refl 1) (by omega) (by omega) (fun s h1 h2 => by
      have : s = 0 := by omega
      subst this
      exact not_bad_zero h.mnt)

/-! ### One coin more -/
theorem Vld.snoc {cs : List Int} (h : Vld cs) (h6 : cs.length < 6) {c : Int} (hc : cs[cs.length - 1]?.getD 0 < c) (h40 : c ≤ 40) : Vld (cs ++ [c]) := by
  have hp := h.pos
  have hlt : cs.length - 1 < cs.length := by omega
  rw [List.getElem?_eq_getElem hlt, Option.getD_some] at hc
  have hall : ∀ x ∈ cs, x ≤ cs[cs.length - 1] := fun x hx => by
    obtain ⟨j, hj, rfl⟩ := List.getElem_of_mem hx
    by_cases e : j = cs.length - 1
    · subst e; exact Int.le_refl _
    · have := List.pairwise_iff_getElem.1 h.inc j (cs.length - 1) hj hlt (by omega)
      omega
  have hl1 := h.rng cs[cs.length - 1] (List.getElem_mem _)
  refine ⟨by simp, by simp; omega, fun x hx => ?_, ?_, ?_⟩
  · rcases List.mem_append.1 hx with hx | hx
    · exact h.rng x hx
    · simp at hx; omega
  · rw [List.pairwise_append]
    exact ⟨h.inc, by simp, fun a ha b hb => by simp at hb; have := hall a ha; omega⟩
  · obtain ⟨l, rfl⟩ := h.cons
    rfl
theorem one_iff {cs : List Int} (h : Vld cs) {c d m : Int} (hv : Vld (cs ++ [c])) (hd : cs[cs.length - 1]?.getD 0 = d) (hdc : d < c) (hg : fbad cs = 0) (hm1 : c ≤ m * d) (hm2 : m * d < c + d) :
    (gr (cs ++ [c]) (m * d)).2.1 ≤ m ↔ fbad (cs ++ [c]) = 0 := by
  have hp := h.pos
  have hlt : cs.length - 1 < cs.length := by omega
  rw [List.getElem?_eq_getElem hlt, Option.getD_some] at hd
  have hdm : d ∈ cs := hd ▸ List.getElem_mem _
  have hd1 := (h.rng d hdm).1
  have hm0 : 0 ≤ m := by
    refine Int.not_lt.1 fun hlt => ?_
    have : m * d ≤ 0 := Int.mul_nonpos_of_nonpos_of_nonneg (by omega) (by omega)
    omega
  have hc := hv.rng c (by simp)
  obtain ⟨ds, hds⟩ : ∃ ds, cs.reverse = d :: ds := by
    have : cs.reverse[0]? = some d := by rw [List.getElem?_reverse (by omega), List.getElem?_eq_getElem (by omega)]; simp [hd]
    match hr : cs.reverse, this with
    | x :: ds, h => cases h; exact ⟨ds, rfl⟩
  have hrev : (cs ++ [c]).reverse = c :: d :: ds := by simp [hds]
  constructor
  · intro hle
    have hm := hv.mnt.rev
    rw [hrev] at hm
    have hm9 := h.mnt.rev
    rw [hds] at hm9
    have hpr := hv.revp
    rw [hrev] at hpr
    have hq := List.pairwise_cons.1 hpr
    rw [fbad_zero hv.mnt]
    intro s hs hb
    have b := (bad_iff hv.mnt hs).1 hb
    rw [hrev] at b
    refine b (one_point hm hm9 hdc (fun x hx => hq.1 x hx) (fun s hs => ?_) hm1 hm2 ?_ s hs)
    · have := (fbad_zero h.mnt).1 hg s hs
      rw [bad_iff h.mnt hs, hds] at this
      exact Classical.byContradiction this
    · rw [gr_count hv.mnt.pos, hrev] at hle
      exact hle
  · intro h0
    have hnb := (fbad_zero hv.mnt).1 h0 (m * d) (by omega)
    have hr : Rch (cs ++ [c]) m.toNat (m * d) := by
      have key : ∀ k : Nat, Rch (cs ++ [c]) k ((k : Int) * d) := by
        intro k
        induction k with
        | zero => show (0 : Int) * d = 0; simp
        | succ k ih => exact ⟨d, by simp [hdm], by rw [show ((k + 1 : Nat) : Int) * d - d = (k : Int) * d by rw [Int.natCast_add, Int.add_mul]; omega]; exact ih⟩
      have := key m.toNat
      rwa [Int.toNat_of_nonneg hm0] at this
    have := opt_le hv.mnt hr
    unfold Bad at hnb
    omega
end Go.Proofs.Ytjgmfdgpgdaclaa
set_option linter.unusedVariables false
set_option linter.unusedSimpArgs false
namespace Go.Proofs.Ytjgmfdgpgdaclaa
open Go.Vi

theorem works_eq : D17 N = some true := by kernel_rfl

noncomputable def goodS (cs : List Int) : Bool × Int := if chk cs = 0 then (decide (fbad cs = 0), 0) else (false, chk cs)
noncomputable def whyS (cs : List Int) : Int × Int := if chk cs = 0 then (if fbad cs = 0 then (0, 13) else (fbad cs, 0)) else (0, chk cs)
theorem good_eq {n : Nat × Nat} (hn : 1000 ≤ n.1) (cs : List Int) : D27 n cs = some (goodS cs) := by
  unfold D27 goodS
  rw [chk_eq hn]
  simp only [Option.bind_some]
  by_cases h : chk cs = 0
  · rw [show (chk cs != 0) = false by simp [h], cond_false, if_pos h, bad_eq hn (chk_vld h)]
    simp only [Option.bind_some]
    by_cases h2 : fbad cs = 0 <;> simp [h2]
  · rw [show (chk cs != 0) = true by simpa using h, cond_true, if_neg h]
theorem rgood_eq {n : Nat × Nat} (hn : 1000 ≤ n.1) (cs : List Int) : D28 n cs = some (goodS cs) := by
  unfold D28 goodS
  rw [chkr_eq hn]
  simp only [Option.bind_some]
  by_cases h : chk cs = 0
  · rw [show (chk cs != 0) = false by simp [h], cond_false, if_pos h, rbad_eq hn (chk_vld h)]
    simp only [Option.bind_some]
    by_cases h2 : fbad cs = 0 <;> simp [h2]
  · rw [show (chk cs != 0) = true by simpa using h, cond_true, if_neg h]
theorem why_eq {n : Nat × Nat} (hn : 1000 ≤ n.1) (cs : List Int) : D29 n cs = some (whyS cs) := by
  unfold D29 whyS
  rw [chk_eq hn]
  simp only [Option.bind_some]
  by_cases h : chk cs = 0
  · rw [show (chk cs != 0) = false by simp [h], cond_false, if_pos h, bad_eq hn (chk_vld h)]
    simp only [Option.bind_some]
    by_cases h2 : fbad cs = 0
    · simp [h2]
    · rw [show (fbad cs == 0) = false by simpa using h2, cond_false, if_neg h2]
  · rw [show (chk cs != 0) = true by simpa using h, cond_true, if_neg h]
theorem rwhy_eq {n : Nat × Nat} (hn : 1000 ≤ n.1) (cs : List Int) : D30 n cs = some (whyS cs) := by
  unfold D30 whyS
  rw [chkr_eq hn]
  simp only [Option.bind_some]
  by_cases h : chk cs = 0
  · rw [show (chk cs == 0) = true by simp [h], show (true == true) = true from rfl, cond_true, if_pos h, rbad_eq hn (chk_vld h)]
    simp only [Option.bind_some]
    by_cases h2 : fbad cs = 0
    · simp [h2]
    · rw [show (fbad cs == 0) = false by simpa using h2, cond_false, if_neg h2, show (chk cs != 0) = false by simp [h], cond_false]
  · rw [show (chk cs == 0) = false by simpa using h, show (false == true) = false from rfl, cond_false, if_neg h]
    simp only [Option.bind_some, cond_false]
    rw [show (chk cs != 0) = true by simpa using h, cond_true]

/-! ### Payments that prove it -/
def cnt (cs l : List Int) : Int := if l.length ≠ cs.length then 5 else if (∀ x ∈ l, 0 ≤ x ∧ x ≤ 200) then 0 else 1
theorem min_loop (n : Nat × Nat) (l : List Int) (hl : l.length ≤ 100) : ∀ (m i : Nat) (v : Int), i ≤ l.length → l.length - i < m → ∃ r : Int, DL75_1 n m l v (i : Int) = some r ∧ (r = v ∨ r ∈ l) ∧ r ≤ v ∧ ∀ x ∈ l.drop i, r ≤ x
  | 0, i, v, _, h => by omega
  | m + 1, i, v, hi, h => by
    rw [DL75_1_succ]
    unfold DF75_1
    by_cases hlt : i < l.length
    · rw [decide_eq_true (show (i : Int) < (l.length : Int) by omega), cond_true, idx_nat hlt, drop_cons hlt]
      simp only [Option.bind_some]
      obtain ⟨r, h1, h2, h3, h4⟩ := min_loop n l hl m (i + 1) (if l[i] < v then l[i] else v) (by omega) (by omega)
      rw [show ((i + 1 : Nat) : Int) = wr .i64 ((i : Int) + 1) by rw [wr_ok (by omega) (by omega)]; omega] at h1
      refine ⟨r, h1, ?_, ?_, fun x hx => ?_⟩
      · rcases h2 with h2 | h2
        · split at h2
          · right; rw [h2]; exact List.getElem_mem _
          · exact .inl h2
        · exact .inr h2
      · split at h3 <;> omega
      · rcases List.mem_cons.1 hx with rfl | hx
        · split at h3 <;> omega
        · exact h4 x hx
    · rw [decide_eq_false (show ¬ (i : Int) < (l.length : Int) by omega), cond_false, List.drop_of_length_le (by omega)]
      exact ⟨v, rfl, .inl rfl, Int.le_refl v, by simp⟩
theorem max_loop (n : Nat × Nat) (l : List Int) (hl : l.length ≤ 100) : ∀ (m i : Nat) (v : Int), i ≤ l.length → l.length - i < m → ∃ r : Int, DL76_1 n m l v (i : Int) = some r ∧ (r = v ∨ r ∈ l) ∧ v ≤ r ∧ ∀ x ∈ l.drop i, x ≤ r
  | 0, i, v, _, h => by omega
  | m + 1, i, v, hi, h => by
    rw [DL76_1_succ]
    unfold DF76_1
    by_cases hlt : i < l.length
    · rw [decide_eq_true (show (i : Int) < (l.length : Int) by omega), cond_true, idx_nat hlt, drop_cons hlt]
      simp only [Option.bind_some]
      obtain ⟨r, h1, h2, h3, h4⟩ := max_loop n l hl m (i + 1) (if l[i] > v then l[i] else v) (by omega) (by omega)
      rw [show ((i + 1 : Nat) : Int) = wr .i64 ((i : Int) + 1) by rw [wr_ok (by omega) (by omega)]; omega] at h1
      refine ⟨r, h1, ?_, ?_, fun x hx => ?_⟩
      · rcases h2 with h2 | h2
        · split at h2
          · right; rw [h2]; exact List.getElem_mem _
          · exact .inl h2
        · exact .inr h2
      · split at h3 <;> omega
      · rcases List.mem_cons.1 hx with rfl | hx
        · split at h3 <;> omega
        · exact h4 x hx
    · rw [decide_eq_false (show ¬ (i : Int) < (l.length : Int) by omega), cond_false, List.drop_of_length_le (by omega)]
      exact ⟨v, rfl, .inl rfl, Int.le_refl v, by simp⟩
theorem min_eq {n : Nat × Nat} (hn : 1000 ≤ n.1) (l : List Int) (hl : l.length ≤ 100) (h0 : 0 < l.length) : ∃ r : Int, D75 n l = some r ∧ r ∈ l ∧ ∀ x ∈ l, r ≤ x := by
  unfold D75
  rw [decide_eq_false (show ¬ (l.length : Int) < 1 by omega), cond_false, show idx l 0 = some l[0] from idx_int (k := 0) rfl h0]
  simp only [Option.bind_some]
  obtain ⟨r, h1, h2, h3, h4⟩ := min_loop n l hl n.1 1 l[0] (by omega) (by omega)
  refine ⟨r, h1, ?_, fun x hx => ?_⟩
  · rcases h2 with rfl | h2
    · exact List.getElem_mem _
    · exact h2
  · rw [show l = l[0] :: l.drop 1 by rw [← drop_cons (k := 0) h0]; rfl] at hx
    rcases List.mem_cons.1 hx with rfl | hx
    · exact h3
    · exact h4 x hx
theorem max_eq {n : Nat × Nat} (hn : 1000 ≤ n.1) (l : List Int) (hl : l.length ≤ 100) (h0 : 0 < l.length) : ∃ r : Int, D76 n l = some r ∧ r ∈ l ∧ ∀ x ∈ l, x ≤ r := by
  unfold D76
  rw [decide_eq_false (show ¬ (l.length : Int) < 1 by omega), cond_false, show idx l 0 = some l[0] from idx_int (k := 0) rfl h0]
  simp only [Option.bind_some]
  obtain ⟨r, h1, h2, h3, h4⟩ := max_loop n l hl n.1 1 l[0] (by omega) (by omega)
  refine ⟨r, h1, ?_, fun x hx => ?_⟩
  · rcases h2 with rfl | h2
    · exact List.getElem_mem _
    · exact h2
  · rw [show l = l[0] :: l.drop 1 by rw [← drop_cons (k := 0) h0]; rfl] at hx
    rcases List.mem_cons.1 hx with rfl | hx
    · exact h3
    · exact h4 x hx
theorem cnt_eq {n : Nat × Nat} (hn : 1000 ≤ n.1) (cs l : List Int) (h0 : 0 < cs.length) (hl : cs.length ≤ 100) : D68 n cs l = some (cnt cs l) := by
  unfold D68 cnt
  by_cases h : l.length = cs.length
  · rw [show ((l.length : Int) != (cs.length : Int)) = false by simp [h], cond_false, if_neg (by simpa using h)]
    obtain ⟨a, a1, a2, a3⟩ := min_eq hn l (by omega) (by omega)
    obtain ⟨b, b1, b2, b3⟩ := max_eq hn l (by omega) (by omega)
    rw [a1]
    simp only [Option.bind_some]
    by_cases h1 : a < 0
    · rw [if_neg (fun hh => by have := hh a a2; omega)]
      simp [h1]
    · rw [decide_eq_false h1, show (false == false) = true from rfl, cond_true, b1]
      simp only [Option.bind_some]
      by_cases h2 : b > 200
      · rw [if_neg (fun hh => by have := hh b b2; omega)]
        simp [h2]
      · rw [if_pos (fun x hx => by have := a3 x hx; have := b3 x hx; omega)]
        simp [h2]
  · rw [show ((l.length : Int) != (cs.length : Int)) = true by simpa using (show ¬ (l.length : Int) = (cs.length : Int) by omega), cond_true, if_pos h]
theorem rcnt_loop (n : Nat × Nat) (l : List Int) (hl : l.length ≤ 100) : ∀ (m i : Nat), i ≤ l.length → l.length - i < m → DL69_1 n m l (i : Int) = some (if (∀ x ∈ l.drop i, 0 ≤ x ∧ x ≤ 200) then 0 else 1)
  | 0, i, _, h => by omega
  | m + 1, i, hi, h => by
    rw [DL69_1_succ]
    unfold DF69_1
    by_cases hlt : i < l.length
    · rw [decide_eq_true (show (i : Int) < (l.length : Int) by omega), cond_true, idx_nat hlt, drop_cons hlt]
      simp only [Option.bind_some, in_eq]
      have ih := rcnt_loop n l hl m (i + 1) (by omega) (by omega)
      rw [show ((i + 1 : Nat) : Int) = wr .i64 ((i : Int) + 1) by rw [wr_ok (by omega) (by omega)]; omega] at ih
      by_cases hx : 0 ≤ l[i] ∧ l[i] ≤ 200
      · rw [decide_eq_true hx.1, decide_eq_true hx.2]
        simp only [Bool.and_self, Bool.not_true, cond_false, List.forall_mem_cons]
        rw [ih]
        by_cases hy : ∀ x ∈ l.drop (i + 1), 0 ≤ x ∧ x ≤ 200
        · rw [if_pos hy, if_pos ⟨hx, hy⟩]
        · rw [if_neg hy, if_neg (fun h => hy h.2)]
      · rw [show (!(decide (0 ≤ l[i]) && decide (l[i] ≤ 200))) = true by
          rw [Bool.not_eq_true', Bool.and_eq_false_iff]
          by_cases h0 : 0 ≤ l[i]
          · right; exact decide_eq_false fun h2 => hx ⟨h0, h2⟩
          · left; exact decide_eq_false h0, cond_true, if_neg (fun h => hx (h l[i] List.mem_cons_self))]
    · rw [decide_eq_false (show ¬ (i : Int) < (l.length : Int) by omega), cond_false, List.drop_of_length_le (by omega)]
      simp
theorem rcnt_eq {n : Nat × Nat} (hn : 1000 ≤ n.1) (cs l : List Int) (hl : cs.length ≤ 100) : D69 n cs l = some (cnt cs l) := by
  unfold D69 cnt
  by_cases h : l.length = cs.length
  · rw [show ((l.length : Int) != (cs.length : Int)) = false by simp [h], cond_false, if_neg (by simpa using h)]
    have := rcnt_loop n l (by omega) n.1 0 (by omega) (by omega)
    simpa using this
  · rw [show ((l.length : Int) != (cs.length : Int)) = true by simpa using (show ¬ (l.length : Int) = (cs.length : Int) by omega), cond_true, if_pos h]

/-- What numbers of coins are together. -/
def dot : List Int → List Int → Int
  | c :: cs, p :: ps => p * c + dot cs ps
  | _, _ => 0
noncomputable def provS (cs : List Int) (s : Int) (p : List Int) : Int := if smd cs s ≠ 0 then smd cs s else if cnt cs p ≠ 0 then cnt cs p else if dot cs p ≠ s then 17 else if (gr cs s).2.1 ≤ tot p then 14 else 0

theorem mulb {a b : Int} (h1 : 0 ≤ a) (h2 : a ≤ 200) (h3 : 1 ≤ b) (h4 : b ≤ 40) : 0 ≤ a * b ∧ a * b ≤ 8000 := by
  have := Int.mul_nonneg h1 (show 0 ≤ b by omega)
  have := Int.mul_le_mul h2 h4 (by omega) (show (0 : Int) ≤ 200 by omega)
  omega
theorem cnt_zero {cs p : List Int} (h : cnt cs p = 0) : p.length = cs.length ∧ ∀ x ∈ p, 0 ≤ x ∧ x ≤ 200 := by
  unfold cnt at h
  split at h
  · cases h
  · rename_i h1
    split at h
    · rename_i h2; exact ⟨by simpa using h1, h2⟩
    · cases h
theorem prov_loop (n : Nat × Nat) {cs : List Int} (hv : Vld cs) {s : Int} (h0 : 0 ≤ s) (h1 : s ≤ 200) {p : List Int} (hpl : p.length = cs.length) (hp : ∀ x ∈ p, 0 ≤ x ∧ x ≤ 200) : ∀ (m i : Nat) (w t : Int), i ≤ p.length → p.length - i < m → 0 ≤ w → w ≤ 8000 * i → 0 ≤ t → t ≤ 200 * i →
    DL31_1 n m cs s w t p (p.length : Int) (i : Int) = some (if w + dot (cs.drop i) (p.drop i) ≠ s then 17 else if (gr cs s).2.1 ≤ t + tot (p.drop i) then 14 else 0)
  | 0, i, w, t, _, h, _, _, _, _ => by omega
  | m + 1, i, w, t, hi, h, a, b, c, d => by
    have hl := hv.len
    rw [DL31_1_succ]
    unfold DF31_1
    by_cases hlt : i < p.length
    · have hlc : i < cs.length := by omega
      have hx := hp p[i] (List.getElem_mem _)
      have hc := hv.rng cs[i] (List.getElem_mem _)
      have hmb := mulb hx.1 hx.2 hc.1 hc.2
      rw [decide_eq_true (show (i : Int) < (p.length : Int) by omega), cond_true, idx_nat hlt, idx_nat hlc, drop_cons hlt, drop_cons hlc]
      simp only [Option.bind_some, dot, tot]
      rw [wr_ok (x := p[i] * cs[i]) (by omega) (by omega), wr_ok (x := w + p[i] * cs[i]) (by omega) (by omega), wr_ok (x := t + p[i]) (by omega) (by omega)]
      have ih := prov_loop n hv h0 h1 hpl hp m (i + 1) (w + p[i] * cs[i]) (t + p[i]) (by omega) (by omega) (by omega) (by omega) (by omega) (by omega)
      rw [show ((i + 1 : Nat) : Int) = wr .i64 ((i : Int) + 1) by rw [wr_ok (by omega) (by omega)]; omega] at ih
      rw [ih, show w + p[i] * cs[i] + dot (cs.drop (i + 1)) (p.drop (i + 1)) = w + (p[i] * cs[i] + dot (cs.drop (i + 1)) (p.drop (i + 1))) by omega, show t + p[i] + tot (p.drop (i + 1)) = t + (p[i] + tot (p.drop (i + 1))) by omega]
      rfl
    · rw [decide_eq_false (show ¬ (i : Int) < (p.length : Int) by omega), cond_false, great_eq hv h0 (by omega)]
      simp only [Option.bind_some]
      rw [List.drop_of_length_le (show p.length ≤ i by omega), List.drop_of_length_le (show cs.length ≤ i by omega)]
      simp only [dot, tot, Int.add_zero]
      by_cases e : w = s
      · rw [show (w != s) = false by simp [e], cond_false, if_neg (by simpa using e)]
        by_cases e2 : (gr cs s).2.1 ≤ t
        · rw [decide_eq_true (show t ≥ (gr cs s).2.1 from e2), cond_true, if_pos e2]
        · rw [decide_eq_false (show ¬ t ≥ (gr cs s).2.1 from e2), cond_false, if_neg e2]
      · rw [show (w != s) = true by simpa using e, cond_true, if_pos e]
theorem prov_eq {n : Nat × Nat} (hn : 1000 ≤ n.1) (cs : List Int) (s : Int) (p : List Int) : D31 n cs s p = some (provS cs s p) := by
  unfold D31 provS
  rw [smd_eq hn]
  simp only [Option.bind_some]
  by_cases h : smd cs s = 0
  · obtain ⟨hv, h0, h1⟩ := smd_zero h
    rw [show (smd cs s != 0) = false by simp [h], cond_false, if_neg (by simpa using h), cnt_eq hn cs p hv.pos (by have := hv.len; omega)]
    simp only [Option.bind_some]
    by_cases h2 : cnt cs p = 0
    · obtain ⟨a, b⟩ := cnt_zero h2
      have := hv.len
      rw [show (cnt cs p != 0) = false by simp [h2], cond_false, if_neg (by simpa using h2)]
      have := prov_loop n hv h0 h1 a b n.1 0 0 0 (by omega) (by omega) (by omega) (by omega) (by omega) (by omega)
      simpa using this
    · rw [show (cnt cs p != 0) = true by simpa using h2, cond_true, if_pos h2]
  · rw [show (smd cs s != 0) = true by simpa using h, cond_true, if_pos h]
theorem rprov_loop (n : Nat × Nat) (hn : 1000 ≤ n.1) {cs : List Int} (hv : Vld cs) {s : Int} (h0 : 0 ≤ s) (h1 : s ≤ 200) {p : List Int} (hpl : p.length = cs.length) (hp : ∀ x ∈ p, 0 ≤ x ∧ x ≤ 200) : ∀ (m i : Nat) (w : Int), i ≤ p.length → p.length - i < m → 0 ≤ w → w ≤ 8000 * i →
    DL32_1 n m cs s p w (i : Int) = some (if w + dot (cs.drop i) (p.drop i) ≠ s then 17 else if (gr cs s).2.1 ≤ tot p then 14 else 0)
  | 0, i, w, _, h, _, _ => by omega
  | m + 1, i, w, hi, h, a, b => by
    have hl := hv.len
    rw [DL32_1_succ]
    unfold DF32_1
    by_cases hlt : i < p.length
    · have hlc : i < cs.length := by omega
      have hx := hp p[i] (List.getElem_mem _)
      have hc := hv.rng cs[i] (List.getElem_mem _)
      have hmb := mulb hx.1 hx.2 hc.1 hc.2
      rw [decide_eq_true (show (i : Int) < (cs.length : Int) by omega), cond_true, idx_nat hlt, idx_nat hlc, drop_cons hlt, drop_cons hlc]
      simp only [Option.bind_some, dot]
      rw [Int.mul_comm cs[i] p[i], wr_ok (x := p[i] * cs[i]) (by omega) (by omega), wr_ok (x := w + p[i] * cs[i]) (by omega) (by omega)]
      have ih := rprov_loop n hn hv h0 h1 hpl hp m (i + 1) (w + p[i] * cs[i]) (by omega) (by omega) (by omega) (by omega)
      rw [show ((i + 1 : Nat) : Int) = wr .i64 ((i : Int) + 1) by rw [wr_ok (by omega) (by omega)]; omega] at ih
      rw [ih, show w + p[i] * cs[i] + dot (cs.drop (i + 1)) (p.drop (i + 1)) = w + (p[i] * cs[i] + dot (cs.drop (i + 1)) (p.drop (i + 1))) by omega]
      rfl
    · rw [decide_eq_false (show ¬ (i : Int) < (cs.length : Int) by omega), cond_false]
      rw [List.drop_of_length_le (show p.length ≤ i by omega), List.drop_of_length_le (show cs.length ≤ i by omega)]
      simp only [dot, Int.add_zero]
      by_cases e : w = s
      · rw [show (w != s) = false by simp [e], cond_false, if_neg (by simpa using e), total_eq hn p (by omega) (fun x hx => by have := hp x hx; omega), rgreat_eq hn hv h0 (by omega)]
        simp only [Option.bind_some]
        rw [rtotal_eq hn hv h0 (by omega)]
        simp only [Option.bind_some]
        by_cases e2 : (gr cs s).2.1 ≤ tot p
        · rw [decide_eq_true (show tot p ≥ (gr cs s).2.1 from e2), cond_true, if_pos e2]
        · rw [decide_eq_false (show ¬ tot p ≥ (gr cs s).2.1 from e2), cond_false, if_neg e2]
      · rw [show (w != s) = true by simpa using e, cond_true, if_pos e]
theorem rprov_eq {n : Nat × Nat} (hn : 1000 ≤ n.1) (cs : List Int) (s : Int) (p : List Int) : D32 n cs s p = some (provS cs s p) := by
  unfold D32 provS
  rw [smdr_eq hn]
  simp only [Option.bind_some]
  by_cases h : smd cs s = 0
  · obtain ⟨hv, h0, h1⟩ := smd_zero h
    rw [show (smd cs s == 0) = true by simp [h], cond_true, if_neg (by simpa using h), rcnt_eq hn cs p (by have := hv.len; omega)]
    simp only [Option.bind_some]
    by_cases h2 : cnt cs p = 0
    · obtain ⟨a, b⟩ := cnt_zero h2
      have := hv.len
      rw [show (cnt cs p != 0) = false by simp [h2], cond_false, if_neg (by simpa using h2)]
      have := rprov_loop n hn hv h0 h1 a b n.1 0 0 (by omega) (by omega) (by omega) (by omega)
      simpa using this
    · rw [show (cnt cs p != 0) = true by simpa using h2, cond_true, if_pos h2]
  · rw [show (smd cs s == 0) = false by simpa using h, cond_false, show (smd cs s != 0) = true by simpa using h, cond_true, if_pos h]
end Go.Proofs.Ytjgmfdgpgdaclaa
