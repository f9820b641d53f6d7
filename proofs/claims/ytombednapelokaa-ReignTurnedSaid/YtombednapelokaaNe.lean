/- Reign: plain laws: ReignTurned. -/
import Derived.Test.YtombednapelokaaLG11
import Derived.Test.YtombednapelokaaNd
set_option linter.unusedVariables false
set_option linter.unusedSimpArgs false
namespace Go.Proofs.Ytombednapelokaa
open Go.Vi

theorem rv0 : D63io1 N5 [] = some ((), [], ()) := by kernel_rfl
theorem rv1 (a : Src) : D63io1 N5 [a] = some ((), [a], ()) := by kernel_rfl
theorem rv2 (a b : Src) : D63io1 N5 [a, b] = some ((), [b, a], ()) := by kernel_rfl
theorem rv3 (a b c : Src) : D63io1 N5 [a, b, c] = some ((), [c, b, a], ()) := by kernel_rfl
theorem rv4 (a b c d : Src) : D63io1 N5 [a, b, c, d] = some ((), [d, c, b, a], ()) := by kernel_rfl
theorem rv5 (a b c d e : Src) : D63io1 N5 [a, b, c, d, e] = some ((), [e, d, c, b, a], ()) := by kernel_rfl
theorem rv6 (a b c d e f : Src) : D63io1 N5 [a, b, c, d, e, f] = some ((), [f, e, d, c, b, a], ()) := by kernel_rfl
theorem rv7 (a b c d e f g : Src) : D63io1 N5 [a, b, c, d, e, f, g] = some ((), [g, f, e, d, c, b, a], ()) := by kernel_rfl
theorem rv8 (a b c d e f g h : Src) : D63io1 N5 [a, b, c, d, e, f, g, h] = some ((), [h, g, f, e, d, c, b, a], ()) := by kernel_rfl

theorem rv_eq {l : List Src} (h : l.length ≤ 8) : D63io1 N5 l = some ((), l.reverse, ()) := by
  match l, h with
  | [], _ => exact rv0
  | [a], _ => exact rv1 a
  | [a, b], _ => exact rv2 a b
  | [a, b, c], _ => exact rv3 a b c
  | [a, b, c, d], _ => exact rv4 a b c d
  | [a, b, c, d, e], _ => exact rv5 a b c d e
  | [a, b, c, d, e, f], _ => exact rv6 a b c d e f
  | [a, b, c, d, e, f, g], _ => exact rv7 a b c d e f g
  | [a, b, c, d, e, f, g, i], _ => exact rv8 a b c d e f g i
  | _ :: _ :: _ :: _ :: _ :: _ :: _ :: _ :: _ :: _, h => exact absurd h (by simp)

theorem set_at {α : Type} : ∀ (p : List α) (x y : α) (r : List α), (p ++ x :: r).set p.length y = p ++ y :: r
  | [], _, _, _ => rfl
  | a :: p, x, y, r => by simp [set_at p x y r]

theorem turn_loop {l : List Src} (hg : Good l) : ∀ (m k : Nat), k ≤ l.length → l.length - k < m → DL11_1 N5 m (l.length : Int) (k : Int) l ((l.reverse.take k).map tf ++ l.reverse.drop k) = DL11_1 N5 1 (l.length : Int) (l.length : Int) l (tl l)
  | 0, k, _, h => by omega
  | m + 1, k, hk, h => by
    have h8 := hg.le
    rw [DL11_1_succ]
    by_cases hlt : k < l.length
    · unfold DF11_1
      have hkr : k < l.reverse.length := by simpa using hlt
      have e0 : l.reverse.drop k = l.reverse[k] :: l.reverse.drop (k + 1) := List.drop_eq_getElem_cons hkr
      have hpl : ((l.reverse.take k).map tf).length = k := by simp; omega
      have hlen : ((l.reverse.take k).map tf ++ l.reverse.drop k).length = l.length := by simp; omega
      have hget : idx ((l.reverse.take k).map tf ++ l.reverse.drop k) (k : Int) = some l.reverse[k] := by
        rw [idx_nat (by rw [hlen]; exact hlt)]
        congr 1
        simp only [e0]
        rw [List.getElem_append_right (by omega)]
        simp [Nat.min_eq_left (Nat.le_of_lt hlt)]
      have hs := hg.all _ (List.mem_reverse.1 (List.getElem_mem hkr))
      rw [show decide ((k : Int) < (l.length : Int)) = true by simpa using hlt, cond_true, show inB (k : Int) ((l.reverse.take k).map tf ++ l.reverse.drop k).length = true by rw [hlen]; simp [inB, hlt], cond_true, hget]
      simp only [Option.bind_some, cond_true]
      rw [wr_ok (x := 100 - (l.reverse[k]).1) (by omega) (by omega), wr_ok (x := (k : Int) + 1) (by omega) (by omega)]
      have e1 : ((l.reverse.take k).map tf ++ l.reverse.drop k).set (Int.toNat (k : Int)) (100 - (l.reverse[k]).1, (l.reverse[k]).2) = (l.reverse.take (k + 1)).map tf ++ l.reverse.drop (k + 1) := by
        rw [e0, Int.toNat_natCast]
        have := set_at ((l.reverse.take k).map tf) l.reverse[k] (tf l.reverse[k]) (l.reverse.drop (k + 1))
        rw [hpl] at this
        have e2 : tf l.reverse[k] = (100 - (l.reverse[k]).1, (l.reverse[k]).2) := rfl
        rw [e2] at this
        rw [this, List.take_succ_eq_append_getElem hkr, List.map_append, List.append_assoc]
        rfl
      rw [e1]
      have := turn_loop hg m (k + 1) hlt (by omega)
      rw [show ((k + 1 : Nat) : Int) = (k : Int) + 1 by omega] at this
      exact this
    · have hkl : k = l.length := by omega
      subst hkl
      have e1 : (l.reverse.take l.length).map tf ++ l.reverse.drop l.length = tl l := by
        rw [show l.length = l.reverse.length by simp, List.take_length, List.drop_length]
        simp [tl]
      rw [e1, DL11_1_succ]
      unfold DF11_1
      rw [show decide ((l.length : Int) < (l.length : Int)) = false by simp]
      rfl

theorem turned_loop {l : List Src} (hg : Good l) {V W : List Frc} (hV : V.length = l.length) (hW : W.length = l.length) (hv : ∀ f ∈ V, Val f) (hVW : ∀ i (hi : i < V.length) (hj : l.length - 1 - i < W.length), W[l.length - 1 - i] = (100 * V[i].2 - V[i].1, V[i].2)) : ∀ (m k : Nat), k ≤ V.length → V.length - k < m → DL11_2 N5 m (V.length : Int) (k : Int) l (tl l) W V = some true
  | 0, k, _, h => by omega
  | m + 1, k, hk, h => by
    have h8 := hg.le
    rw [DL11_2_succ]
    unfold DF11_2
    by_cases hlt : k < V.length
    · have F := hv _ (List.getElem_mem hlt)
      have f1 := F.fr.dp
      have f2 := F.fr.dl
      have f3 := F.fr.np
      have f4 := F.le
      have hj : l.length - 1 - k < W.length := by omega
      rw [show decide ((k : Int) < (V.length : Int)) = true by simpa using hlt, cond_true, show inB (k : Int) V.length = true by simp [inB, hlt], cond_true, idx_nat hlt]
      simp only [Option.bind_some]
      rw [wr_ok (x := (l.length : Int) - 1) (by omega) (by omega), wr_ok (x := (l.length : Int) - 1 - (k : Int)) (by omega) (by omega), show (l.length : Int) - 1 - (k : Int) = ((l.length - 1 - k : Nat) : Int) by omega,
        show inB ((l.length - 1 - k : Nat) : Int) W.length = true by simp [inB]; omega, cond_true, idx_nat hj]
      simp only [Option.bind_some]
      unfold D52
      simp only [Option.bind_some]
      rw [wr_ok (x := 100 * (V[k]).2) (by omega) (by omega), wr_ok (x := 100 * (V[k]).2 - (V[k]).1) (by omega) (by omega), hVW k hlt hj]
      simp only [beq_self_eq_true, Bool.and_self, Bool.not_true, cond_false]
      rw [wr_ok (x := (k : Int) + 1) (by omega) (by omega)]
      have := turned_loop hg hV hW hv hVW m (k + 1) hlt (by omega)
      rw [show ((k + 1 : Nat) : Int) = (k : Int) + 1 by omega] at this
      exact this
    · rw [show decide ((k : Int) < (V.length : Int)) = false by simpa using hlt, cond_false]
      have e1 : D44 N5 l = some ((Rn l (2 ^ l.length)).2, 0) := wrong_eq hg
      have e2 : D44 N5 (tl l) = some ((Rn (tl l) (2 ^ (tl l).length)).2, 0) := wrong_eq hg.tl
      rw [e1, e2]
      simp only [Option.bind_some, beq_self_eq_true, cond_true, best_eq hg, works_val5]

theorem turned_val (a : ShA.den) (ha : Wf ShA a) : D11 N5 a = some true := by
  obtain ⟨l, hg, h7, _, e1⟩ := made_eq (n := N5) (by decide) a ha (many := 8) (y := 100) (by omega) (by omega)
  have h8 := hg.le
  have ho := hg.ok
  have hgt := hg.tl
  unfold D11
  rw [e1]
  simp only [Option.bind_some, clone_eq N5 hg, rv_eq hg.le]
  rw [show Nat.beq l.reverse.length l.length = true by simp, cond_true, List.length_reverse]
  have hl := turn_loop hg N5.1 0 (by omega) (by show _ < 100000000000000000000; omega)
  simp only [List.take_zero, List.map_nil, List.nil_append, List.drop_zero, Int.natCast_zero] at hl
  rw [hl, DL11_1_succ]
  unfold DF11_1
  rw [show decide ((l.length : Int) < (l.length : Int)) = false by simp, cond_false]
  obtain ⟨K, hK, _⟩ := nearest_eq (n := N5) (by decide) hg
  have hKt := hK.turn ho
  obtain ⟨v1, v2, v3, v4, ⟨P, R, c1, c2, c3, c4, c5, c6, c7, c8, c9⟩, _⟩ := all_of18 hg hK
  obtain ⟨w1, w2, w3, w4, ⟨P', R', d1, d2, d3, d4, d5, d6, d7, d8, d9⟩, _⟩ := all_of18 hgt hKt
  rw [cost_turn ho hK] at d4 d5 d8
  rw [tl_len] at w2
  have hPR : P = P' ∧ R = R' := by
    refine frac_uniq c2 d2 c9 d9 ?_
    have hc : 0 < ((K.reverse.foldl (cstep l) (0, 1)).2 : Int) := by omega
    refine Int.eq_of_mul_eq_mul_right (Int.ne_of_gt hc) ?_
    have a1 : P * (R' : Int) * ((K.reverse.foldl (cstep l) (0, 1)).2 : Int) = R' * (P * ((K.reverse.foldl (cstep l) (0, 1)).2 : Int)) := by grind
    have a2 : P' * (R : Int) * ((K.reverse.foldl (cstep l) (0, 1)).2 : Int) = R * (P' * ((K.reverse.foldl (cstep l) (0, 1)).2 : Int)) := by grind
    rw [a1, a2, c8, d8]
    grind
  obtain ⟨rfl, rfl⟩ := hPR
  rw [v1, w1, c1, d1]
  simp only [Option.bind_some, bne_self_eq_false, beq_self_eq_true, cond_true, Bool.and_self, Bool.not_true]
  rw [many_eq (n := N5) (by decide) v3 (by omega) (by rw [v2])]
  simp only [Option.bind_some, Bool.not_true, beq_self_eq_true, cond_true]
  rw [show (((vals (tl l) (K.map (tn l.length)).reverse.reverse).length : Int) != (l.length : Int)) = false by rw [w2]; simp]
  simp only [Option.bind_some, beq_self_eq_true, cond_true, cond_false]
  refine turned_loop hg v2 w2 v3 (fun i hi hj => ?_) N5.1 0 (by omega) (by show _ < 100000000000000000000; omega)
  obtain ⟨x, hx, x1, x2⟩ := hK.ch.cover i (by omega)
  have hr := hK.ch.rng x hx
  rw [v4 x hx i hi x1 x2, w4 (tn l.length x) (List.mem_reverse.2 (List.mem_map.2 ⟨x, hx, rfl⟩)) _ hj (by simp only [tn]; omega) (by simp only [tn]; omega)]
  exact Mx_turn ho hr.1 hr.2

theorem turned_ok (xs : pksDen (pks [ShA])) (h : WfL [ShA] xs) : ∃ n, S11 n xs.1 = some true :=
  ⟨N5, by rw [S11_D N5 rfl]; exact turned_val xs.1 h.1⟩

end Go.Proofs.Ytombednapelokaa
