/- Reign: the law ReignShifted, joined. -/
import Derived.Test.YtombednapelokaaMz
set_option linter.unusedVariables false
set_option linter.unusedSimpArgs false
namespace Go.Proofs.Ytombednapelokaa
open Go.Vi

theorem frc_refl (x y : Int) : (!((x == x) && ((y == y) && true))) = false := by simp

theorem shifted_tail {l : List Src} (hg : Good l) (hg2 : Good (twice l)) {K : List (Nat × Nat)} (hK : Blk l K l.length) (hK2 : Blk (twice l) K (twice l).length) {c : Nat} (hc : c ≤ 50) {V W R S : List Frc} (hV : V.length = l.length) (hW : W = V.map fun f => (f.1 + (c : Int) * f.2, f.2)) (hval : ∀ f ∈ V, Val f)
    (hR : R.length = l.length) (hS : S.length = l.length) (hRr : ∀ i (hi : i < R.length), ∀ x ∈ K, x.1 ≤ i → i < x.2 → Rst l (Mx l x.1 x.2) x.1 (i + 1) R[i]) (hSr : ∀ i (hi : i < S.length), ∀ x ∈ K, x.1 ≤ i → i < x.2 → Rst (twice l) (Mx (twice l) x.1 x.2) x.1 (i + 1) S[i])
    {c0 d0 : Int} {c1 d1 : Nat} (p1 : 0 < c1) (p2 : 0 < d1) (p3 : c1 ≤ 6561) (p4 : d1 ≤ 6561) (p5 : 0 ≤ c0) (p6 : 0 ≤ d0) (p7 : c0.natAbs ≤ 1440000 * c1) (p8 : d0.natAbs ≤ 1440000 * d1) (p9 : d0 * c1 = 2 * c0 * d1) : ∀ (m k : Nat), k ≤ V.length → V.length - k < m →
    DL8_2 N3 m (c : Int) (V.length : Int) (k : Int) W c0 (c1 : Int) d0 (d1 : Int) R S V = some true
  | 0, k, _, h => by omega
  | m + 1, k, hk, h => by
    have h8 := hg.le
    rw [DL8_2_succ]
    unfold DF8_2
    by_cases hlt : k < V.length
    · obtain ⟨x, hx, x1, x2⟩ := hK.ch.cover k (by omega)
      have hr := hK.ch.rng x hx
      have hWl : k < W.length := by rw [hW]; simpa using hlt
      have hRl : k < R.length := by omega
      have hSl : k < S.length := by omega
      obtain ⟨r1, r2, r3, r4⟩ := rst_proper hg hK hx x1 x2 (hRr k hRl x hx x1 x2)
      obtain ⟨s1, s2, s3, s4⟩ := rst_proper hg2 hK2 hx x1 x2 (hSr k hSl x hx x1 x2)
      have hVk := hval _ (List.getElem_mem hlt)
      have v1 := hVk.fr.dp
      have v2 := hVk.fr.dl
      have v3 := hVk.fr.np
      have v4 := hVk.le
      have hWk : W[k] = (V[k].1 + (c : Int) * V[k].2, V[k].2) := by
        simp only [hW, List.getElem_map]
      have hRst := hRr k hRl x hx x1 x2
      have hSst := hSr k hSl x hx x1 x2
      have hcq : (c : Int) * V[k].2 ≤ 3600 := by
        have := Int.mul_le_mul (show (c : Int) ≤ 50 by omega) v2 (Int.le_of_lt v1) (by omega)
        omega
      have hcq0 : 0 ≤ (c : Int) * V[k].2 := Int.mul_nonneg (by omega) (by omega)
      -- twice as much
      have htw : S[k].1 * R[k].2 = 2 * R[k].1 * S[k].2 := by
        have a1 := hRst.eq
        have a2 := hSst.eq
        have F := Mx_Fr hg.ok hr.1 hr.2
        rw [Mx_twice hg.ok hr.1 hr.2] at a2
        have a3 : dv (twice l) (Mx l x.1 x.2) x.1 (k + 1) = 2 * dv l (Mx l x.1 x.2) x.1 (k + 1) := by
          unfold dv
          rw [(Yk_twice hg.ok (k + 1)).1, (Yk_twice hg.ok x.1).1, (Yk_twice hg.ok (k + 1)).2, (Yk_twice hg.ok x.1).2]
          grind
        rw [a3] at a2
        have hq := F.dp
        generalize dv l (Mx l x.1 x.2) x.1 (k + 1) = d at a1 a2
        generalize (Mx l x.1 x.2).2 = q at a1 a2 hq
        refine Int.eq_of_mul_eq_mul_right (show q ≠ 0 by omega) ?_
        have b1 : S[k].1 * R[k].2 * q = (S[k].1 * q) * R[k].2 := by grind
        have b2 : 2 * R[k].1 * S[k].2 * q = 2 * (R[k].1 * q) * S[k].2 := by grind
        rw [b1, b2, a1, a2]
        grind
      have w1 : 0 ≤ S[k].1 * R[k].2 := Int.mul_nonneg s2 (by have := hRst.dp; omega)
      have w2 : S[k].1 * R[k].2 ≤ 518400 * 72 := Int.mul_le_mul (show S[k].1 ≤ 518400 by omega) r4 (by have := hRst.dp; omega) (by omega)
      have hin1 : inB (k : Int) V.length = true := by simp [inB]; omega
      have hin2 : inB (k : Int) W.length = true := by simp [inB]; omega
      have hin3 : inB (k : Int) R.length = true := by simp [inB]; omega
      have hin4 : inB (k : Int) S.length = true := by simp [inB]; omega
      rw [show decide ((k : Int) < (V.length : Int)) = true by simpa using hlt]
      simp only [cond_true, hin1, hin2, idx_nat hlt, idx_nat hWl, Option.bind_some, hWk]
      rw [wr_ok (x := (c : Int) * V[k].2) (by omega) (by omega), wr_ok (x := V[k].1 + (c : Int) * V[k].2) (by omega) (by omega)]
      have d52 : ∀ (a b : Int), D52 N3 a b = some (a, b) := fun a b => rfl
      simp only [d52, Option.bind_some, frc_refl, show (false == false) = true from rfl, cond_true, hin3, hin4, idx_nat hRl, idx_nat hSl, r1, s1, Bool.not_true]
      rw [wr_ok (x := S[k].1 * R[k].2) (by omega) (by omega), wr_ok (x := 2 * R[k].1) (by omega) (by omega), wr_ok (x := 2 * R[k].1 * S[k].2) (by omega) (by omega), htw]
      simp only [bne_self_eq_false, cond_false]
      rw [show wr .i64 ((k : Int) + 1) = ((k + 1 : Nat) : Int) by rw [wr_ok (by omega) (by omega)]; omega]
      exact shifted_tail hg hg2 hK hK2 hc hV hW hval hR hS hRr hSr p1 p2 p3 p4 p5 p6 p7 p8 p9 m (k + 1) hlt (by omega)
    · rw [show decide ((k : Int) < (V.length : Int)) = false by simpa using hlt, cond_false]
      have q1 : c0 ≤ 1440000 * 6561 := by
        have : 1440000 * c1 ≤ 1440000 * 6561 := Nat.mul_le_mul_left _ p3
        omega
      have q2 : d0 ≤ 1440000 * 6561 := by
        have : 1440000 * d1 ≤ 1440000 * 6561 := Nat.mul_le_mul_left _ p4
        omega
      have q3 : 0 ≤ d0 * (c1 : Int) := Int.mul_nonneg p6 (by omega)
      have q4 : d0 * (c1 : Int) ≤ 1440000 * 6561 * 6561 := Int.mul_le_mul q2 (by omega) (by omega) (by omega)
      rw [wr_ok (x := d0 * (c1 : Int)) (by omega) (by omega), wr_ok (x := 2 * c0) (by omega) (by omega), wr_ok (x := 2 * c0 * (d1 : Int)) (by omega) (by omega), p9]
      rw [decide_eq_false (show ¬ (c1 : Int) < 1 by omega), decide_eq_false (show ¬ (d1 : Int) < 1 by omega), decide_eq_false (show ¬ (c1 : Int) > 16777216 by omega), decide_eq_false (show ¬ (d1 : Int) > 16777216 by omega), decide_eq_false (show ¬ c0 < 0 by omega), decide_eq_false (show ¬ d0 < 0 by omega),
        decide_eq_false (show ¬ c0 > 68719476736 by omega), decide_eq_false (show ¬ d0 > 68719476736 by omega)]
      simp only [orB, Option.bind_some, Bool.or_self, cond_false, beq_self_eq_true, cond_true, works_val3]

/-- What the law makes of the sources. -/
theorem shifted_all {l : List Src} (hg : Good l) (h50 : ∀ s ∈ l, s.1 ≤ 50) (h4 : ∀ s ∈ l, s.2 ≤ 4) {c : Nat} (hc : c ≤ 50) (m : Nat) :
    DL8_1 N3 (m + 1) (c : Int) (l.length : Int) (l.length : Int) l (shift c l) (twice l) = some true := by
  have ho := hg.ok
  have h1 := hg.pos
  have h8 := hg.le
  have hgs : Good (shift c l) := ⟨by simpa [shift] using h1, by simpa [shift] using h8, fun s hs => by
    obtain ⟨x, hx, rfl⟩ := List.mem_map.1 hs
    have := hg.all x hx
    have := h50 x hx
    simp only
    omega⟩
  have hgt : Good (twice l) := ⟨by simpa [twice] using h1, by simpa [twice] using h8, fun s hs => by
    obtain ⟨x, hx, rfl⟩ := List.mem_map.1 hs
    have := hg.all x hx
    have := h4 x hx
    simp only
    omega⟩
  have hls : (shift c l).length = l.length := by simp [shift]
  have hlt : (twice l).length = l.length := by simp [twice]
  obtain ⟨K, hK, _, _⟩ := near_eq (n := N3) (by decide) ho
  have hKs : Blk (shift c l) K (shift c l).length := by rw [hls]; exact hK.shift ho c
  have hKt : Blk (twice l) K (twice l).length := by rw [hlt]; exact hK.twice ho
  have hrng : ∀ x ∈ K.reverse, x.1 < x.2 ∧ x.2 ≤ l.length := fun x hx => hK.ch.rng x (List.mem_reverse.1 hx)
  obtain ⟨a1, a2, a3, a4, ⟨c0, c1, b1, b2, b3, b4, b5, b6, b7⟩, Rs, r1, r2, r3⟩ := all_of hg (fun a b h h' => den3 ho h4 h h') hK
  obtain ⟨d1', d2', d3', d4', ⟨d0, d1, e1, e2, e3, e4, e5, e6, e7⟩, Ss, s1, s2, s3⟩ := all_of hgt (fun a b h h' => by
    rw [Mx_twice ho h (by omega)]
    exact den3 ho h4 h (by omega)) hKt
  obtain ⟨K', k1, k2, k3, k4, k5⟩ := nearest_eq (n := N3) (by decide) hgs
  have := Blk.uniq hgs.ok k1 hKs
  subst this
  rw [vals_twice ho hrng] at d1' d2'
  rw [vals_shift ho hrng] at k2 k3
  have hfold := fold_twice ho K'.reverse (0, 1) hrng
  simp only [Int.mul_zero] at hfold
  rw [hfold] at e4 e7
  simp only at e4 e7
  have hcost : d0 * (c1 : Int) = 2 * c0 * (d1 : Int) := by
    generalize (K'.reverse.foldl (cstep l) (0, 1)).2 = E at *
    generalize (K'.reverse.foldl (cstep l) (0, 1)).1 = N at *
    refine Int.eq_of_mul_eq_mul_right (show (E : Int) ≠ 0 by omega) ?_
    have x1 : d0 * (c1 : Int) * E = (d0 * E) * c1 := by grind
    have x2 : 2 * c0 * (d1 : Int) * E = 2 * (c0 * E) * d1 := by grind
    rw [x1, x2, b7, e7]
    grind
  rw [DL8_1_succ]
  unfold DF8_1
  rw [show decide ((l.length : Int) < (l.length : Int)) = false by simp, cond_false, a1, k2, d1', b1, e1, r1, s1]
  simp only [Option.bind_some, bne_self_eq_false, orB, Bool.or_self]
  rw [many_eq (n := N3) (by decide) a3 (by omega) (by omega)]
  simp only [Option.bind_some, Bool.not_true, orB, Bool.or_self, List.length_map, a2, bne_self_eq_false, fracs_eq (n := N3) (by decide) (show (vals l K'.reverse).length ≤ 1000 by omega), r2, s2, hlt, cond_false]
  have := shifted_tail hg hgt hK hKt hc a2 rfl a3 r2 (by omega) r3 s3 b2 e2 b5 e5 b6 e6 b3 e3 hcost N3.1 0 (by omega) (by show _ < 100000000000000000000; omega)
  rw [a2] at this
  exact this

theorem f4_ok {s : Src} (h : 0 ≤ s.1 ∧ s.1 ≤ 50 ∧ 1 ≤ s.2 ∧ s.2 ≤ 9) : 0 ≤ (f4 s).1 ∧ (f4 s).1 ≤ 50 ∧ 1 ≤ (f4 s).2 ∧ (f4 s).2 ≤ 4 := by
  have := tmod_rng (a := s.2) (b := 4) (by omega) (by omega)
  unfold f4
  simp only
  omega

theorem shifted_loop {l : List Src} (hg : Good l) (h50 : ∀ s ∈ l, s.1 ≤ 50) {c : Nat} (hc : c ≤ 50) : ∀ (m k : Nat), k ≤ l.length → l.length - k < m →
    DL8_1 N3 m (c : Int) (l.length : Int) (k : Int) ((l.take k).map f4 ++ l.drop k) (shift c ((l.take k).map f4)) (twice ((l.take k).map f4)) = some true
  | 0, k, _, h => by omega
  | m + 1, k, hk, h => by
    have h8 := hg.le
    by_cases hlt : k < l.length
    · have hs := hg.all l[k] (List.getElem_mem hlt)
      have hs50 := h50 l[k] (List.getElem_mem hlt)
      have hf := f4_ok (s := l[k]) ⟨hs.1, hs50, hs.2.2.1, hs.2.2.2⟩
      have ht := tmod_rng (a := l[k].2) (b := 4) (by omega) (by omega)
      rw [DL8_1_succ]
      unfold DF8_1
      have hlen : ((l.take k).map f4 ++ l.drop k).length = l.length := by simp; omega
      have hk1 : k < ((l.take k).map f4 ++ l.drop k).length := by omega
      have hget : ((l.take k).map f4 ++ l.drop k)[k] = l[k] := by
        rw [List.getElem_append_right (by simp; omega)]
        simp
        congr 1
        omega
      have hset : ((l.take k).map f4 ++ l.drop k).set k (f4 l[k]) = (l.take (k + 1)).map f4 ++ l.drop (k + 1) := by
        rw [List.set_append_right _ _ (by simp; omega), List.take_succ_eq_append_getElem hlt, List.map_append, drop_cons hlt]
        have : k - ((l.take k).map f4).length = 0 := by simp; omega
        rw [this, List.set_cons_zero]
        simp only [List.map_cons, List.map_nil, List.append_assoc, List.cons_append, List.nil_append]
      have hk2 : k < ((l.take (k + 1)).map f4 ++ l.drop (k + 1)).length := by simp; omega
      have hget2 : ((l.take (k + 1)).map f4 ++ l.drop (k + 1))[k] = f4 l[k] := by
        rw [List.getElem_append_left (by simp; omega)]
        simp
      have hin1 : inB (k : Int) ((l.take k).map f4 ++ l.drop k).length = true := by simp [inB]; omega
      have hin2 : inB (k : Int) ((l.take (k + 1)).map f4 ++ l.drop (k + 1)).length = true := by simp [inB]; omega
      rw [show decide ((k : Int) < (l.length : Int)) = true by simpa using hlt, cond_true, hin1, cond_true, idx_nat hk1, hget]
      simp only [Option.bind_some, show ((4 : Nat) == 0) = false from rfl, cond_false, cond_true]
      rw [wr_ok (x := 1 + Int.tmod l[k].2 4) (by omega) (by omega), Int.toNat_natCast, show ((l[k].1, 1 + Int.tmod l[k].2 4) : Int × Int) = f4 l[k] from rfl, hset]
      simp only [hin2, cond_true, idx_nat hk2, hget2, Option.bind_some]
      rw [wr_ok (x := (f4 l[k]).1 + (c : Int)) (by omega) (by omega), wr_ok (x := 2 * (f4 l[k]).2) (by omega) (by omega), show decide ((shift c ((l.take k).map f4)).length + [((f4 l[k]).1 + (c : Int), (f4 l[k]).2)].length ≤ lim) = true by simp [lim, shift]; omega, cond_true,
        show decide ((twice ((l.take k).map f4)).length + [((f4 l[k]).1, 2 * (f4 l[k]).2)].length ≤ lim) = true by simp [lim, twice]; omega, cond_true, show wr .i64 ((k : Int) + 1) = ((k + 1 : Nat) : Int) by rw [wr_ok (by omega) (by omega)]; omega]
      have e1 : shift c ((l.take k).map f4) ++ [((f4 l[k]).1 + (c : Int), (f4 l[k]).2)] = shift c ((l.take (k + 1)).map f4) := by
        rw [List.take_succ_eq_append_getElem hlt]
        simp only [shift, List.map_append, List.map_cons, List.map_nil]
      have e2 : twice ((l.take k).map f4) ++ [((f4 l[k]).1, 2 * (f4 l[k]).2)] = twice ((l.take (k + 1)).map f4) := by
        rw [List.take_succ_eq_append_getElem hlt]
        simp only [twice, List.map_append, List.map_cons, List.map_nil]
      rw [e1, e2]
      exact shifted_loop hg h50 hc m (k + 1) hlt (by omega)
    · have : k = l.length := by omega
      subst this
      rw [List.take_length, List.drop_length, List.append_nil]
      have hall : ∀ s ∈ l.map f4, 0 ≤ s.1 ∧ s.1 ≤ 50 ∧ 1 ≤ s.2 ∧ s.2 ≤ 4 := fun s hs => by
        obtain ⟨x, hx, rfl⟩ := List.mem_map.1 hs
        have := hg.all x hx
        exact f4_ok ⟨this.1, h50 x hx, this.2.2.1, this.2.2.2⟩
      have hg4 : Good (l.map f4) := ⟨by simpa using hg.pos, by simpa using h8, fun s hs => by have := hall s hs; omega⟩
      have := shifted_all hg4 (fun s hs => (hall s hs).2.1) (fun s hs => (hall s hs).2.2.2) hc m
      rw [List.length_map] at this
      exact this

theorem shifted_val (a : ShA.den) (ha : Wf ShA a) {v : Int} (hv : 0 ≤ v ∧ v ≤ 255) : D8 N3 a v = some true := by
  obtain ⟨l, hg, _, h50, e1⟩ := made_eq (n := N3) (by decide) a ha (many := 8) (y := 50) (by omega) (by omega)
  have h8 := hg.le
  unfold D8
  rw [e1]
  simp only [Option.bind_some]
  rw [show ((51 : Nat) == 0) = false from rfl, cond_false, wr_ok (x := v) (by omega) (by omega)]
  have t := tmod_rng hv.1 (show (0 : Int) < 51 by omega)
  generalize Int.tmod v 51 = c at t ⊢
  obtain ⟨c, rfl⟩ := Int.eq_ofNat_of_zero_le t.1
  exact shifted_loop hg h50 (c := c) (by omega) N3.1 0 (by omega) (by show _ < 100000000000000000000; omega)

theorem shifted_ok (xs : pksDen (pks [ShA, .int .u8])) (h : WfL [ShA, .int .u8] xs) : ∃ n, S8 n xs.1 xs.2.1 = some true :=
  ⟨N3, by rw [S8_D N3 rfl]; exact shifted_val xs.1 h.1 (u8_rng h.2.1)⟩

end Go.Proofs.Ytombednapelokaa
