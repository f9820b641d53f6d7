/- Reign: plain laws: blocks out of values; the law ReignNear. -/
import Derived.Test.YtombednapelokaaMv
set_option linter.unusedVariables false
set_option linter.unusedSimpArgs false
namespace Go.Proofs.Ytombednapelokaa
open Go.Vi

theorem ne_frc {x y : Frc} (h : x ≠ y) : (!((x.1 == y.1) && ((x.2 == y.2) && true))) = true := by
  obtain ⟨a, b⟩ := x
  obtain ⟨c, d⟩ := y
  simp only [Bool.and_true, Bool.not_eq_true', Bool.and_eq_false_iff, beq_eq_false_iff_ne]
  by_cases h1 : a = c
  · refine .inr fun h2 => h ?_
    rw [h1, h2]
  · exact .inl h1
theorem eq_frc (x : Frc) : (!((x.1 == x.1) && ((x.2 == x.2) && true))) = false := by simp

/-- The reference's blocks: on to the end of one. -/
theorem grp_inner {n : Nat × Nat} {l : List Src} (hl8 : l.length ≤ 8) {V : List Frc} (hV : V.length = l.length) {b e : Nat} (h : b < e) (he : e ≤ l.length) {w : Frc} (hVb : ∀ i (hi : i < V.length), b ≤ i → i < e → V[i] = w) (hne : ∀ (hi : e < V.length), V[e] ≠ w) (out : List B4) (ho : out.length ≤ 100) : ∀ (c k m : Nat), k + c = e → b < k →
    DL33_1 n (m + (c + 1)) l (b : Int) (k : Int) V out = DL33_1 n m l (e : Int) ((e + 1 : Nat) : Int) V (out ++ [((b : Int), (e : Int), w)])
  | 0, k, m, hk, hbk => by
    have : k = e := by omega
    subst this
    rw [show m + (0 + 1) = m + 1 from rfl, DL33_1_succ]
    unfold DF33_1 DL33_2
    have hb : b < V.length := by omega
    have hVv := hVb b hb (Nat.le_refl _) h
    have hinb : inB (b : Int) V.length = true := by simp [inB]; omega
    rw [show decide ((k : Int) ≤ (l.length : Int)) = true by simp; omega, cond_true]
    by_cases hend : k = l.length
    · rw [show ((k : Int) == (l.length : Int)) = true by rw [beq_iff_eq]; omega]
      simp only [show (true == false) = false from rfl, cond_false, Option.bind_some, cond_true, hinb, idx_nat hb, hVv]
      rw [show decide (out.length + [((b : Int), (k : Int), w)].length ≤ lim) = true by simp [lim]; omega, cond_true, show wr .i64 ((k : Int) + 1) = ((k + 1 : Nat) : Int) by rw [wr_ok (by omega) (by omega)]; omega]
    · have hkV : k < V.length := by omega
      have hn := hne hkV
      rw [show ((k : Int) == (l.length : Int)) = false by rw [beq_eq_false_iff_ne]; omega, show inB (k : Int) V.length = true by simp [inB]; omega]
      simp only [show (false == false) = true from rfl, cond_true, idx_nat hkV, Option.bind_some, hinb, idx_nat hb, hVv, ne_frc hn]
      rw [show decide (out.length + [((b : Int), (k : Int), w)].length ≤ lim) = true by simp [lim]; omega, cond_true, show wr .i64 ((k : Int) + 1) = ((k + 1 : Nat) : Int) by rw [wr_ok (by omega) (by omega)]; omega]
  | c + 1, k, m, hk, hbk => by
    rw [show m + (c + 1 + 1) = m + (c + 1) + 1 from rfl, DL33_1_succ]
    unfold DF33_1 DL33_2
    have hb : b < V.length := by omega
    have hVv := hVb b hb (Nat.le_refl _) h
    have hkV : k < V.length := by omega
    have hVk := hVb k hkV (by omega) (by omega)
    have hinb : inB (b : Int) V.length = true := by simp [inB]; omega
    rw [show decide ((k : Int) ≤ (l.length : Int)) = true by simp; omega, cond_true, show ((k : Int) == (l.length : Int)) = false by rw [beq_eq_false_iff_ne]; omega, show inB (k : Int) V.length = true by simp [inB]; omega]
    simp only [show (false == false) = true from rfl, cond_true, idx_nat hkV, Option.bind_some, hinb, idx_nat hb, hVv, hVk, eq_frc, cond_false]
    rw [show wr .i64 ((k : Int) + 1) = ((k + 1 : Nat) : Int) by rw [wr_ok (by omega) (by omega)]; omega]
    exact grp_inner hl8 hV h he hVb hne out ho c (k + 1) m (by omega) (by omega)

theorem grp_all {n : Nat × Nat} {l : List Src} (hl8 : l.length ≤ 8) {V : List Frc} (hV : V.length = l.length) : ∀ (r : List (Nat × Nat)) (t m : Nat) (out : List B4), ChB t r l.length → l.length + 1 - t < m → out.length + r.length ≤ 100 →
    (∀ x ∈ r, ∀ i (h : i < V.length), x.1 ≤ i → i < x.2 → V[i] = Mx l x.1 x.2) → (∀ x ∈ r, ∀ (h : x.2 < V.length), V[x.2] ≠ Mx l x.1 x.2) → t ≤ l.length →
    DL33_1 n m l (t : Int) ((t + 1 : Nat) : Int) V out = some (out ++ r.map (blk l), 0)
  | [], t, m, out, hch, hm, ho, _, _, _ => by
    have : t = l.length := hch
    subst this
    obtain ⟨m, rfl⟩ : ∃ k, m = k + 1 := ⟨m - 1, by omega⟩
    rw [DL33_1_succ]
    unfold DF33_1
    rw [show decide (((l.length + 1 : Nat) : Int) ≤ (l.length : Int)) = false by simp; omega, cond_false]
    simp
  | (b, e) :: r, t, m, out, hch, hm, ho, hVb, hne, ht => by
    obtain ⟨h1, h2, h3⟩ := hch
    subst h1
    have hrng : ∀ {r : List (Nat × Nat)} {s t : Nat}, ChB s r t → s ≤ t := by
      intro r
      induction r with
      | nil => intro s t h; exact Nat.le_of_eq h
      | cons x r ih =>
        obtain ⟨b, e⟩ := x
        intro s t h
        obtain ⟨a1, a2, a3⟩ := h
        have := ih a3
        omega
    have he : e ≤ l.length := hrng h3
    obtain ⟨m, rfl⟩ : ∃ k, m = k + ((e - (b + 1)) + 1) := ⟨m - (e - (b + 1) + 1), by omega⟩
    rw [grp_inner hl8 hV h2 he (w := Mx l b e) (fun i hi => hVb (b, e) (by simp) i hi) (fun hi => hne (b, e) (by simp) hi) out (by simp at ho; omega) (e - (b + 1)) (b + 1) m (by omega) (by omega),
      grp_all hl8 hV r e m (out ++ [((b : Int), (e : Int), Mx l b e)]) h3 (by omega) (by simp at ho ⊢; omega) (fun x hx => hVb x (List.mem_cons_of_mem _ hx)) (fun x hx => hne x (List.mem_cons_of_mem _ hx)) he]
    simp [blk]

/-! ### The law -/
theorem equal_loop (n : Nat × Nat) {v : List Frc} (hl : v.length ≤ 1000) : ∀ (m k : Nat), k ≤ v.length → v.length - k < m → DL34_1 n m v v (k : Int) = some true
  | 0, k, _, h => by omega
  | m + 1, k, hk, h => by
    rw [DL34_1_succ]
    unfold DF34_1
    by_cases hlt : k < v.length
    · rw [show decide ((k : Int) < (v.length : Int)) = true by simpa using hlt, cond_true, idx_nat hlt]
      simp only [Option.bind_some, eq_frc, cond_false]
      rw [show wr .i64 ((k : Int) + 1) = ((k + 1 : Nat) : Int) by rw [wr_ok (by omega) (by omega)]; omega]
      exact equal_loop n hl m (k + 1) hlt (by omega)
    · rw [show decide ((k : Int) < (v.length : Int)) = false by simpa using hlt, cond_false]

theorem equal_eq {n : Nat × Nat} (hn : 2000 ≤ n.1) {v : List Frc} (hl : v.length ≤ 1000) : D34 n v v = some true := by
  unfold D34
  rw [show (((v.length : Int)) != (v.length : Int)) = false by simp, cond_false]
  exact equal_loop n hl n.1 0 (by omega) (by omega)

theorem near_tail {l r3 : List Src} {o1 o2 : Frc × Int} {v1 : List Frc × Int} {C : List B4} (hC : C.length ≤ 100) (e1 : D35 N2 l = some o1) (e2 : D36 N2 r3 = some o1) (e3 : D37 N2 l = some v1) (e4 : D38 N2 r3 = some v1) (hv : v1.1.length ≤ 1000) : ∀ (m k : Nat), k ≤ C.length → C.length - k < m → DL4_1 N2 m l (k : Int) r3 C C = some true
  | 0, k, _, h => by omega
  | m + 1, k, hk, h => by
    rw [DL4_1_succ]
    unfold DF4_1
    by_cases hlt : k < C.length
    · rw [show decide ((k : Int) < (C.length : Int)) = true by simpa using hlt, cond_true, show inB (k : Int) C.length = true by simp [inB]; omega]
      simp only [cond_true, idx_nat hlt, Option.bind_some, bne_self_eq_false, show (false == false) = true from rfl, beq_self_eq_true, Bool.and_self, Bool.and_true, Bool.not_true, cond_false]
      rw [show wr .i64 ((k : Int) + 1) = ((k + 1 : Nat) : Int) by rw [wr_ok (by omega) (by omega)]; omega]
      exact near_tail (o2 := o2) hC e1 e2 e3 e4 hv m (k + 1) hlt (by omega)
    · rw [show decide ((k : Int) < (C.length : Int)) = false by simpa using hlt, cond_false, e1, e2, e3, e4]
      simp only [Option.bind_some, beq_self_eq_true, Bool.and_self, cond_true, equal_eq (n := N2) (by decide) hv, works_val2]

theorem near_val (l : List Src) : D4 N2 l = some true := by
  unfold D4
  by_cases h40 : (l.length : Int) > 40
  · rw [decide_eq_true h40, cond_true, works_val2]
    rfl
  · have hl : l.length ≤ 40 := by omega
    rw [decide_eq_false h40, cond_false, copy_eq (by decide) hl]
    simp only [Option.bind_some]
    have c1 := chk_eq (n := N2) (by decide) l
    have c2 := chkr_eq (n := N2) (by decide) l
    by_cases h : chk l = 0
    · have hg := chk_good h
      have hl8 := hg.le
      have ho := hg.ok
      obtain ⟨K, h1, h2, h3⟩ := near_eq (n := N2) (by decide) ho
      have h4 := nearr_eq (n := N2) (by decide) hg h1
      obtain ⟨g1, g2⟩ := vals_get l h1.ch
      have hVal : ∀ f ∈ vals l K.reverse, Val f := by
        intro f hf
        obtain ⟨i, hi, rfl⟩ := List.getElem_of_mem hf
        obtain ⟨x, hx, _, _, e⟩ := g2 i _ (List.getElem?_eq_getElem hi)
        rw [e]
        have := h1.ch.rng x hx
        exact Mx_Val ho this.1 this.2
      have hVb : ∀ x ∈ K, ∀ i (h : i < (vals l K.reverse).length), x.1 ≤ i → i < x.2 → (vals l K.reverse)[i] = Mx l x.1 x.2 := by
        intro x hx i hi a1 a2
        obtain ⟨y, hy, b1, b2, e⟩ := g2 i _ (List.getElem?_eq_getElem hi)
        rw [e, h1.ch.uniq2 x hx y hy i a1 a2 b1 b2]
      have hne : ∀ x ∈ K, ∀ (h : x.2 < (vals l K.reverse).length), (vals l K.reverse)[x.2] ≠ Mx l x.1 x.2 := by
        intro x hx hi he
        obtain ⟨y, hy, b1, b2, e⟩ := g2 x.2 _ (List.getElem?_eq_getElem hi)
        have rx := h1.ch.rng x hx
        have hy1 : x.2 = y.1 := by
          rcases Nat.lt_or_ge y.1 x.2 with hlt | hge
          · have := h1.ch.uniq2 x hx y hy (x.2 - 1) (by omega) (by omega) (by omega) (by omega)
            subst this
            omega
          · omega
        have := h1.adj x hx y hy hy1
        rw [← e, he] at this
        omega
      have hKl := h1.ch.len
      have hch := h1.ch.toB
      have d30 : D30 N2 l = some (vals l K.reverse, 0) := by
        unfold D30
        rw [c1, h]
        simp only [Option.bind_some, bne_self_eq_false, cond_false, h3]
      have d31 : D31 N2 l = some (vals l K.reverse, 0) := by
        unfold D31
        rw [c2, h]
        simp only [Option.bind_some, bne_self_eq_false, cond_false, h4]
      have d32 : D32 N2 l = some (K.reverse.map (blk l), 0) := by
        unfold D32
        rw [c1, h]
        simp only [Option.bind_some, bne_self_eq_false, cond_false, h2]
      have d33 : D33 N2 l = some (K.reverse.map (blk l), 0) := by
        unfold D33
        rw [c2, h]
        simp only [Option.bind_some, bne_self_eq_false, cond_false, h4]
        have := grp_all (n := N2) hl8 g1 K.reverse 0 N2.1 [] hch (by show _ < 100000000000000000000; omega) (by simp; omega) (fun x hx => hVb x (List.mem_reverse.1 hx)) (fun x hx => hne x (List.mem_reverse.1 hx)) (by omega)
        exact this
      obtain ⟨o, o1, o2⟩ := cost_both (n := N2) (by decide) hg g1 (L := K.reverse) (fun x hx => hVb x (List.mem_reverse.1 hx)) K.reverse [] 0 N2.1 N2.1 0 1 1 rfl hch (by omega) (by show _ < 100000000000000000000; simp; omega) (by show _ < 100000000000000000000; omega) (by omega) (Nat.dvd_refl _) (by omega) (by omega) (by simp) (by simp) (by simp; omega)
      have d35 : D35 N2 l = some o := by
        unfold D35
        rw [c1, h]
        simp only [Option.bind_some, bne_self_eq_false, cond_false, h2, List.length_map]
        exact o1
      have d36 : D36 N2 l = some o := by
        unfold D36
        rw [c2, h]
        simp only [Option.bind_some, bne_self_eq_false, cond_false, h4]
        exact o2
      obtain ⟨R, hR, e1, e2⟩ := rests_eq (n := N2) (by decide) hg g1 (fun f hf => ⟨by have := (hVal f hf).fr.dp; omega, (hVal f hf).fr.dl, (hVal f hf).fr.np, (hVal f hf).le⟩)
      have d37 : D37 N2 l = some (R, 0) := by
        unfold D37
        rw [c1, h]
        simp only [Option.bind_some, bne_self_eq_false, cond_false, h3, e1]
      have d38 : D38 N2 l = some (R, 0) := by
        unfold D38
        rw [c2, h]
        simp only [Option.bind_some, bne_self_eq_false, cond_false, h4, e2]
      rw [d30, d31, d32, d33]
      simp only [Option.bind_some]
      rw [equal_eq (n := N2) (by decide) (by omega)]
      simp only [Option.bind_some, Bool.not_true, orB, bne_self_eq_false, Bool.or_self, cond_false]
      exact near_tail (o2 := o) (by simp; omega) d35 d36 d37 d38 (by simp only; omega) N2.1 0 (by omega) (by show _ < 100000000000000000000; simp; omega)
    · have h' : (chk l != 0) = true := by simpa using h
      have d30 : D30 N2 l = some ([], chk l) := by unfold D30; rw [c1]; simp only [Option.bind_some, h', cond_true]
      have d31 : D31 N2 l = some ([], chk l) := by unfold D31; rw [c2]; simp only [Option.bind_some, h', cond_true]
      have d32 : D32 N2 l = some ([], chk l) := by unfold D32; rw [c1]; simp only [Option.bind_some, h', cond_true]
      have d33 : D33 N2 l = some ([], chk l) := by unfold D33; rw [c2]; simp only [Option.bind_some, h', cond_true]
      have d35 : D35 N2 l = some ((0, 0), chk l) := by unfold D35; rw [c1]; simp only [Option.bind_some, h', cond_true]
      have d36 : D36 N2 l = some ((0, 0), chk l) := by unfold D36; rw [c2]; simp only [Option.bind_some, h', cond_true]
      have d37 : D37 N2 l = some ([], chk l) := by unfold D37; rw [c1]; simp only [Option.bind_some, h', cond_true]
      have d38 : D38 N2 l = some ([], chk l) := by unfold D38; rw [c2]; simp only [Option.bind_some, h', cond_true]
      rw [d30, d31, d32, d33]
      simp only [Option.bind_some]
      rw [equal_eq (n := N2) (by decide) (v := []) (by simp)]
      simp only [Option.bind_some, Bool.not_true, orB, bne_self_eq_false, Bool.or_self, cond_false]
      exact near_tail (o2 := ((0, 0), chk l)) (C := []) (by simp) d35 d36 d37 d38 (by simp) N2.1 0 (by simp) (by show _ < 100000000000000000000; simp)

theorem near_ok (xs : pksDen (pks [.sl (.pair (.int .i64) (.int .i64))])) (h : WfL [.sl (.pair (.int .i64) (.int .i64))] xs) : ∃ n, S4 n xs.1 = some true :=
  ⟨N2, by rw [S4_D N2 rfl]; exact near_val xs.1⟩

end Go.Proofs.Ytombednapelokaa
