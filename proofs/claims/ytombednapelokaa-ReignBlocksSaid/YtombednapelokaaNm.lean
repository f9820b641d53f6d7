/- Reign: plain laws: ReignBlocks: rows together; blocks alone. -/
import Derived.Test.YtombednapelokaaLG17
import Derived.Test.YtombednapelokaaNf
import Derived.Test.YtombednapelokaaNb
import Derived.Test.YtombednapelokaaViX
set_option linter.unusedVariables false
set_option linter.unusedSimpArgs false
namespace Go.Proofs.Ytombednapelokaa
open Go.Vi
theorem csize68 (n : Nat × Nat) (ls : List (List Frc)) (hl : ls.length ≤ 100) : ∀ (m k : Nat) (size : Nat), k ≤ ls.length → ls.length - k < m → size + (ls.drop k).flatten.length ≤ 1000 → DL68_1 n m ls (size : Int) ls (ls.length : Int) (k : Int) = DL68_3 n n.1 ls (ls.length : Int) 0 []
  | 0, k, _, _, h, _ => by omega
  | m + 1, k, size, hk, h, hs => by
    rw [DL68_1_succ]
    unfold DF68_1 DL68_2
    by_cases hlt : k < ls.length
    · have hd : ls.drop k = ls[k] :: ls.drop (k + 1) := List.drop_eq_getElem_cons hlt
      rw [hd, List.flatten_cons, List.length_append] at hs
      rw [show decide ((k : Int) < (ls.length : Int)) = true by simpa using hlt, cond_true, idx_nat hlt]
      simp only [Option.bind_some]
      rw [show (size : Int) + (ls[k].length : Int) = ((size + ls[k].length : Nat) : Int) by omega, wr_nat (by omega), show decide (((size + ls[k].length : Nat) : Int) < 0) = false by simp only [decide_eq_false_iff_not]; omega, cond_false, show wr .i64 ((k : Int) + 1) = ((k + 1 : Nat) : Int) by rw [wr_ok (by omega) (by omega)]; omega]
      exact csize68 n ls hl m (k + 1) (size + ls[k].length) hlt (by omega) (by omega)
    · rw [show decide ((k : Int) < (ls.length : Int)) = false by simpa using hlt, cond_false, show (decide (0 ≤ (size : Int)) && decide ((size : Int) ≤ 1073741824)) = true by simp; omega, cond_true]
theorem cjoin68 (n : Nat × Nat) (ls : List (List Frc)) (hl : ls.length ≤ 100) : ∀ (m k : Nat) (out : List Frc), k ≤ ls.length → ls.length - k < m → out.length + (ls.drop k).flatten.length ≤ 1000 → DL68_3 n m ls (ls.length : Int) (k : Int) out = some (out ++ (ls.drop k).flatten)
  | 0, k, _, _, h, _ => by omega
  | m + 1, k, out, hk, h, hs => by
    rw [DL68_3_succ]
    unfold DF68_3
    by_cases hlt : k < ls.length
    · have hd : ls.drop k = ls[k] :: ls.drop (k + 1) := List.drop_eq_getElem_cons hlt
      rw [hd, List.flatten_cons, List.length_append] at hs
      rw [hd, List.flatten_cons, ← List.append_assoc, show decide ((k : Int) < (ls.length : Int)) = true by simpa using hlt, cond_true, idx_nat hlt]
      simp only [Option.bind_some]
      rw [show decide (out.length + ls[k].length ≤ lim) = true from decide_eq_true (by have h5 : lim = 1073741824 := rfl; omega), cond_true, show wr .i64 ((k : Int) + 1) = ((k + 1 : Nat) : Int) by rw [wr_ok (by omega) (by omega)]; omega]
      exact cjoin68 n ls hl m (k + 1) (out ++ ls[k]) hlt (by omega) (by rw [List.length_append]; omega)
    · rw [show decide ((k : Int) < (ls.length : Int)) = false by simpa using hlt, cond_false, List.drop_of_length_le (by omega)]
      simp
theorem cat68 {a b c : List Frc} (h : a.length + b.length + c.length ≤ 1000) : D68 N5 [a, b, c] = some (a ++ b ++ c) := by
  unfold D68
  have hf : ([a, b, c] : List (List Frc)).flatten = a ++ b ++ c := by simp
  have h1 := csize68 N5 [a, b, c] (by simp) N5.1 0 0 (by simp) (by show _ < 100000000000000000000; simp) (by rw [List.drop_zero, hf]; simp; omega)
  have h2 := cjoin68 N5 [a, b, c] (by simp) N5.1 0 [] (by simp) (by show _ < 100000000000000000000; simp) (by rw [List.drop_zero, hf]; simp; omega)
  have h1' : DL68_1 N5 N5.1 [a, b, c] 0 [a, b, c] (([a, b, c] : List (List Frc)).length : Int) 0 = _ := h1
  rw [h1']
  have h2' : DL68_3 N5 N5.1 [a, b, c] (([a, b, c] : List (List Frc)).length : Int) 0 [] = _ := h2
  rw [h2', List.drop_zero, hf, List.nil_append]
theorem csize69 (n : Nat × Nat) (ls : List (List Frc)) (hl : ls.length ≤ 100) : ∀ (m k : Nat) (size : Nat), k ≤ ls.length → ls.length - k < m → size + (ls.drop k).flatten.length ≤ 1000 → DL69_1 n m ls (size : Int) ls (ls.length : Int) (k : Int) = DL69_3 n n.1 ls (ls.length : Int) 0 []
  | 0, k, _, _, h, _ => by omega
  | m + 1, k, size, hk, h, hs => by
    rw [DL69_1_succ]
    unfold DF69_1 DL69_2
    by_cases hlt : k < ls.length
    · have hd : ls.drop k = ls[k] :: ls.drop (k + 1) := List.drop_eq_getElem_cons hlt
      rw [hd, List.flatten_cons, List.length_append] at hs
      rw [show decide ((k : Int) < (ls.length : Int)) = true by simpa using hlt, cond_true, idx_nat hlt]
      simp only [Option.bind_some]
      rw [show (size : Int) + (ls[k].length : Int) = ((size + ls[k].length : Nat) : Int) by omega, wr_nat (by omega), show decide (((size + ls[k].length : Nat) : Int) < 0) = false by simp only [decide_eq_false_iff_not]; omega, cond_false, show wr .i64 ((k : Int) + 1) = ((k + 1 : Nat) : Int) by rw [wr_ok (by omega) (by omega)]; omega]
      exact csize69 n ls hl m (k + 1) (size + ls[k].length) hlt (by omega) (by omega)
    · rw [show decide ((k : Int) < (ls.length : Int)) = false by simpa using hlt, cond_false, show (decide (0 ≤ (size : Int)) && decide ((size : Int) ≤ 1073741824)) = true by simp; omega, cond_true]
theorem cjoin69 (n : Nat × Nat) (ls : List (List Frc)) (hl : ls.length ≤ 100) : ∀ (m k : Nat) (out : List Frc), k ≤ ls.length → ls.length - k < m → out.length + (ls.drop k).flatten.length ≤ 1000 → DL69_3 n m ls (ls.length : Int) (k : Int) out = some (out ++ (ls.drop k).flatten)
  | 0, k, _, _, h, _ => by omega
  | m + 1, k, out, hk, h, hs => by
    rw [DL69_3_succ]
    unfold DF69_3
    by_cases hlt : k < ls.length
    · have hd : ls.drop k = ls[k] :: ls.drop (k + 1) := List.drop_eq_getElem_cons hlt
      rw [hd, List.flatten_cons, List.length_append] at hs
      rw [hd, List.flatten_cons, ← List.append_assoc, show decide ((k : Int) < (ls.length : Int)) = true by simpa using hlt, cond_true, idx_nat hlt]
      simp only [Option.bind_some]
      rw [show decide (out.length + ls[k].length ≤ lim) = true from decide_eq_true (by have h5 : lim = 1073741824 := rfl; omega), cond_true, show wr .i64 ((k : Int) + 1) = ((k + 1 : Nat) : Int) by rw [wr_ok (by omega) (by omega)]; omega]
      exact cjoin69 n ls hl m (k + 1) (out ++ ls[k]) hlt (by omega) (by rw [List.length_append]; omega)
    · rw [show decide ((k : Int) < (ls.length : Int)) = false by simpa using hlt, cond_false, List.drop_of_length_le (by omega)]
      simp
theorem cat69 {a b c : List Frc} (h : a.length + b.length + c.length ≤ 1000) : D69 N5 [a, b, c] = some (a ++ b ++ c) := by
  unfold D69
  have hf : ([a, b, c] : List (List Frc)).flatten = a ++ b ++ c := by simp
  have h1 := csize69 N5 [a, b, c] (by simp) N5.1 0 0 (by simp) (by show _ < 100000000000000000000; simp) (by rw [List.drop_zero, hf]; simp; omega)
  have h2 := cjoin69 N5 [a, b, c] (by simp) N5.1 0 [] (by simp) (by show _ < 100000000000000000000; simp) (by rw [List.drop_zero, hf]; simp; omega)
  have h1' : DL69_1 N5 N5.1 [a, b, c] 0 [a, b, c] (([a, b, c] : List (List Frc)).length : Int) 0 = _ := h1
  rw [h1']
  have h2' : DL69_3 N5 N5.1 [a, b, c] (([a, b, c] : List (List Frc)).length : Int) 0 [] = _ := h2
  rw [h2', List.drop_zero, hf, List.nil_append]
theorem rep1 (x : Frc) : D67 N5 [x] 1 = some [x] := by kernel_rfl
theorem rep2 (x : Frc) : D67 N5 [x] 2 = some [x, x] := by kernel_rfl
theorem rep3 (x : Frc) : D67 N5 [x] 3 = some [x, x, x] := by kernel_rfl
theorem rep4 (x : Frc) : D67 N5 [x] 4 = some [x, x, x, x] := by kernel_rfl
theorem rep5 (x : Frc) : D67 N5 [x] 5 = some [x, x, x, x, x] := by kernel_rfl
theorem rep6 (x : Frc) : D67 N5 [x] 6 = some [x, x, x, x, x, x] := by kernel_rfl
theorem rep7 (x : Frc) : D67 N5 [x] 7 = some [x, x, x, x, x, x, x] := by kernel_rfl
theorem rep8 (x : Frc) : D67 N5 [x] 8 = some [x, x, x, x, x, x, x, x] := by kernel_rfl
theorem rep_eq (x : Frc) {c : Nat} (h1 : 1 ≤ c) (h8 : c ≤ 8) : D67 N5 [x] (c : Int) = some (List.replicate c x) := by
  have : c = 1 ∨ c = 2 ∨ c = 3 ∨ c = 4 ∨ c = 5 ∨ c = 6 ∨ c = 7 ∨ c = 8 := by omega
  rcases this with rfl | rfl | rfl | rfl | rfl | rfl | rfl | rfl
  · exact rep1 x
  · exact rep2 x
  · exact rep3 x
  · exact rep4 x
  · exact rep5 x
  · exact rep6 x
  · exact rep7 x
  · exact rep8 x
theorem one_src (p t : Int) : D60 N5 [p, t] = some [(p, t)] := by kernel_rfl
theorem K_rise {l : List Src} : ∀ {K : List (Nat × Nat)} {t : Nat}, ChT K t → IncT l K → ∀ x ∈ K, ∀ y ∈ K, x.2 ≤ y.1 → ltM (Mx l x.1 x.2) (Mx l y.1 y.2)
  | [], _, _, _, x, hx, _, _, _ => by cases hx
  | (b, e) :: r, t, ⟨h1, h2, h3⟩, ⟨i1, i2⟩, x, hx, y, hy, hxy => by
    rcases List.mem_cons.1 hx with rfl | hx
    · rcases List.mem_cons.1 hy with rfl | hy
      · simp only at hxy
        omega
      · have := h3.rng y hy
        simp only at hxy
        omega
    · rcases List.mem_cons.1 hy with rfl | hy
      · exact i1 x hx
      · exact K_rise h3 i2 x hx y hy hxy
/-- The mean of part of the sources. -/
theorem mean22 {l : List Src} (hg : Good l) {b e : Nat} (h : b < e) (he : e ≤ l.length) : D22 N5 l (b : Int) (e : Int) = some (Mx l b e, 0) := by
  have h8 := hg.le
  unfold D22
  rw [chk_eq (n := N5) (by decide), good_chk hg]
  simp only [Option.bind_some, bne_self_eq_false, cond_false, orB]
  have hA : (decide ((if (e : Int) < (b : Int) then (e : Int) else (b : Int)) < 0) || decide ((if (e : Int) > (b : Int) then (e : Int) else (b : Int)) > (l.length : Int))) = false := by
    rw [if_neg (by omega), if_pos (by omega)]
    simp
    omega
  obtain ⟨s1, s2⟩ := seg_eq (n := N5) (by decide) hg.ok h he
  rw [hA, cond_false, show decide ((e : Int) ≤ (b : Int)) = false by simp only [decide_eq_false_iff_not]; omega, cond_false, s1, cond_true, s2]
  rfl
/-! ### A block alone -/
theorem part_sums (l : List Src) {b e : Nat} (h : b ≤ e) {k : Nat} (hk : k ≤ e - b) : Yk ((l.take e).drop b) k = Yk l (b + k) - Yk l b ∧ Tk ((l.take e).drop b) k = Tk l (b + k) - Tk l b := by
  have e1 : ((l.take e).drop b).take k = (l.take (b + k)).drop b := by
    rw [List.drop_take, List.drop_take, List.take_take]
    congr 1
    omega
  obtain ⟨s1, s2⟩ := seg_sums l (show b ≤ b + k by omega)
  simp only [Yk, Tk] at s1 s2 ⊢
  rw [e1]
  exact ⟨s1, s2⟩
theorem part_good {l : List Src} (hg : Good l) {b e : Nat} (h : b < e) (he : e ≤ l.length) : Good ((l.take e).drop b) := by
  have h8 := hg.le
  exact ⟨by simp; omega, by simp; omega, fun s hs => hg.all s (List.mem_of_mem_take (List.mem_of_mem_drop hs))⟩
theorem part_blk {l : List Src} (hg : Good l) {b e : Nat} (h : b < e) (he : e ≤ l.length) (hloc : Loc l b e) : Blk ((l.take e).drop b) [(0, e - b)] ((l.take e).drop b).length := by
  have hlen : ((l.take e).drop b).length = e - b := by simp; omega
  rw [hlen]
  have hM : Mx ((l.take e).drop b) 0 (e - b) = Mx l b e := by
    unfold Mx
    rw [List.drop_zero, List.take_of_length_le (by omega)]
  refine ⟨⟨rfl, (by omega), rfl⟩, fun x hx => ?_, ⟨by simp, trivial⟩⟩
  rw [List.mem_singleton.1 hx]
  intro k h1 h2
  have h2 : k ≤ e - b := h2
  show 0 ≤ dv ((l.take e).drop b) (Mx ((l.take e).drop b) 0 (e - b)) 0 k
  rw [hM]
  obtain ⟨s1, s2⟩ := part_sums l (Nat.le_of_lt h) (k := k) h2
  obtain ⟨z1, z2⟩ := part_sums l (Nat.le_of_lt h) (k := 0) (by omega)
  have := hloc (b + k) (by omega) (by omega)
  unfold dv at this ⊢
  rw [s1, s2, z1, z2, Nat.add_zero, Int.sub_self, Int.sub_self, Int.sub_zero, Int.sub_zero]
  exact this
theorem part_near {l : List Src} (hg : Good l) {b e : Nat} (h : b < e) (he : e ≤ l.length) (hloc : Loc l b e) : D30 N5 ((l.take e).drop b) = some (List.replicate (e - b) (Mx l b e), 0) := by
  have hM : Mx ((l.take e).drop b) 0 (e - b) = Mx l b e := by
    unfold Mx
    rw [List.drop_zero, List.take_of_length_le (by simp; omega)]
  obtain ⟨v1, _⟩ := all_of18 (part_good hg h he) (part_blk hg h he hloc)
  rw [v1]
  simp [vals, hM]
/-! ### One source in the place of a block -/
def ph (b e k : Nat) : Nat := if k ≤ b then k else k - (e - b - 1)
def sh1 (b e : Nat) (y : Nat × Nat) : Nat × Nat := (ph b e y.1, ph b e y.2)
def less (l : List Src) (b e : Nat) (s : Src) : List Src := l.take b ++ [s] ++ l.drop e
section
variable {l : List Src} (hg : Good l) {K : List (Nat × Nat)} (hK : Blk l K l.length) {b e : Nat} (hx : (b, e) ∈ K) {T : Int} (hT : T = Tk l e - Tk l b) (hT1 : 1 ≤ T) (hT9 : T ≤ 9) (hq : (Mx l b e).2 = 1)
include hK hx
theorem outside {y : Nat × Nat} (hy : y ∈ K) : (y.1 ≤ b ∨ e ≤ y.1) ∧ (y.2 ≤ b ∨ e ≤ y.2) ∧ (y.2 ≤ b ∨ e ≤ y.1 ∨ y = (b, e)) := by
  have ry := hK.ch.rng y hy
  have rx := hK.ch.rng (b, e) hx
  simp only at rx
  by_cases h1 : y.2 ≤ b
  · exact ⟨.inl (by omega), .inl h1, .inl h1⟩
  · by_cases h2 : e ≤ y.1
    · exact ⟨.inr h2, .inr (by omega), .inr (.inl h2)⟩
    · have := hK.ch.uniq3 y hy (b, e) hx (max y.1 b) (by omega) (by omega) (by simp only; omega) (by simp only; omega)
      subst this
      exact ⟨.inl (Nat.le_refl _), .inr (Nat.le_refl _), .inr (.inr rfl)⟩
theorem ph_lt {a c : Nat} (h : a < c) (ha : a ≤ b ∨ e ≤ a) (hc : c ≤ b ∨ e ≤ c) : ph b e a < ph b e c := by
  have rx := hK.ch.rng (b, e) hx
  simp only at rx
  unfold ph
  split <;> split <;> omega
theorem sh_ch : ∀ (L : List (Nat × Nat)) (t : Nat), ChT L t → (∀ y ∈ L, y ∈ K) → ChT (L.map (sh1 b e)) (ph b e t)
  | [], t, h, _ => by
    have : t = 0 := h
    subst this
    show ph b e 0 = 0
    simp [ph]
  | (c, d) :: r, t, ⟨h1, h2, h3⟩, hm => by
    subst h1
    obtain ⟨o1, o2, _⟩ := outside hK hx (hm (c, d) (by simp))
    exact ⟨rfl, ph_lt hK hx h2 o1 o2, sh_ch r c h3 fun y hy => hm y (by simp [hy])⟩
include hg hT hT1 hT9 hq
omit hg hT hT1 hT9 hq in
theorem less_len : (less l b e ((Mx l b e).1, T)).length = ph b e l.length := by
  have rx := hK.ch.rng (b, e) hx
  simp only at rx
  unfold less ph
  simp only [List.length_append, List.length_take, List.length_drop, List.length_cons, List.length_nil]
  split <;> omega
theorem less_sums {k : Nat} (hk : k ≤ l.length) (ho : k ≤ b ∨ e ≤ k) : Yk (less l b e ((Mx l b e).1, T)) (ph b e k) = Yk l k ∧ Tk (less l b e ((Mx l b e).1, T)) (ph b e k) = Tk l k := by
  have rx := hK.ch.rng (b, e) hx
  simp only at rx
  have hok := hg.ok
  have F := Mx_Val hok rx.1 rx.2
  have hp := F.fr.np
  rcases ho with ho | ho
  · have e1 : (less l b e ((Mx l b e).1, T)).take (ph b e k) = l.take k := by
      unfold less ph
      rw [if_pos ho, List.append_assoc, List.take_append_of_le_length (by simp; omega), List.take_take, Nat.min_eq_left ho]
    unfold Yk Tk
    rw [e1]
    exact ⟨rfl, rfl⟩
  · have e1 : (less l b e ((Mx l b e).1, T)).take (ph b e k) = l.take b ++ [((Mx l b e).1, T)] ++ (l.take k).drop e := by
      unfold less ph
      have hl : (l.take b ++ [((Mx l b e).1, T)]).length = b + 1 := by simp; omega
      rw [if_neg (by omega), List.take_append, hl, List.take_of_length_le (by omega), List.drop_take]
      congr 2
      omega
    obtain ⟨s1, s2⟩ := seg_sums l (show e ≤ k from ho)
    have hm := dv_mean hok rx.1 rx.2
    unfold dv at hm
    rw [hq, Int.one_mul] at hm
    have hpT : (Mx l b e).1 * T = Yk l e - Yk l b := by rw [hT]; omega
    obtain ⟨p, hpp⟩ := Int.eq_ofNat_of_zero_le hp
    obtain ⟨t, htt⟩ := Int.eq_ofNat_of_zero_le (show 0 ≤ T by omega)
    have hY : ((ysum [((Mx l b e).1, T)] : Nat) : Int) = (Mx l b e).1 * T := by
      rw [hpp, htt]
      simp [ysum]
    have hTs : ((tsum [((Mx l b e).1, T)] : Nat) : Int) = T := by
      rw [htt]
      simp [tsum]
    have y1 : Yk (less l b e ((Mx l b e).1, T)) (ph b e k) = Yk l b + (Mx l b e).1 * T + (Yk l k - Yk l e) := by
      unfold Yk at s1 ⊢
      rw [e1, ysum_app, ysum_app, Int.natCast_add, Int.natCast_add, hY, s1]
    have t1 : Tk (less l b e ((Mx l b e).1, T)) (ph b e k) = Tk l b + T + (Tk l k - Tk l e) := by
      unfold Tk at s2 ⊢
      rw [e1, tsum_app, tsum_app, Int.natCast_add, Int.natCast_add, hTs, s2]
    rw [y1, t1]
    constructor <;> omega
theorem less_dv (v : Frc) {a c : Nat} (ha : a ≤ l.length) (hc : c ≤ l.length) (oa : a ≤ b ∨ e ≤ a) (oc : c ≤ b ∨ e ≤ c) : dv (less l b e ((Mx l b e).1, T)) v (ph b e a) (ph b e c) = dv l v a c := by
  obtain ⟨a1, a2⟩ := less_sums hg hK hx hT hT1 hT9 hq ha oa
  obtain ⟨c1, c2⟩ := less_sums hg hK hx hT hT1 hT9 hq hc oc
  unfold dv
  rw [a1, a2, c1, c2]
theorem less_mx {a c : Nat} (h : a < c) (hc : c ≤ l.length) (oa : a ≤ b ∨ e ≤ a) (oc : c ≤ b ∨ e ≤ c) : Mx (less l b e ((Mx l b e).1, T)) (ph b e a) (ph b e c) = Mx l a c := by
  obtain ⟨a1, a2⟩ := less_sums hg hK hx hT hT1 hT9 hq (show a ≤ l.length by omega) oa
  obtain ⟨c1, c2⟩ := less_sums hg hK hx hT hT1 hT9 hq hc oc
  obtain ⟨s1, s2⟩ := seg_sums l (Nat.le_of_lt h)
  obtain ⟨u1, u2⟩ := seg_sums (less l b e ((Mx l b e).1, T)) (Nat.le_of_lt (ph_lt hK hx h oa oc))
  rw [a1, c1] at u1
  rw [a2, c2] at u2
  have e1 : ysum (((less l b e ((Mx l b e).1, T)).take (ph b e c)).drop (ph b e a)) = ysum ((l.take c).drop a) := by omega
  have e2 : tsum (((less l b e ((Mx l b e).1, T)).take (ph b e c)).drop (ph b e a)) = tsum ((l.take c).drop a) := by omega
  show red (ysum (((less l b e ((Mx l b e).1, T)).take (ph b e c)).drop (ph b e a))) (tsum (((less l b e ((Mx l b e).1, T)).take (ph b e c)).drop (ph b e a))) = red (ysum ((l.take c).drop a)) (tsum ((l.take c).drop a))
  rw [e1, e2]
theorem less_good : Good (less l b e ((Mx l b e).1, T)) := by
  have rx := hK.ch.rng (b, e) hx
  simp only at rx
  have F := Mx_Val hg.ok rx.1 rx.2
  have h1 := F.fr.np
  have h2 := F.le
  rw [hq] at h2
  have h8 := hg.le
  have hlen := less_len (T := T) hK hx
  refine ⟨by rw [hlen]; unfold ph; split <;> omega, by rw [hlen]; unfold ph; split <;> omega, fun y hy => ?_⟩
  unfold less at hy
  rcases List.mem_append.1 hy with hy | hy
  · rcases List.mem_append.1 hy with hy | hy
    · exact hg.all y (List.mem_of_mem_take hy)
    · rw [List.mem_singleton.1 hy]
      simp only
      omega
  · exact hg.all y (List.mem_of_mem_drop hy)
theorem less_inc : ∀ (L : List (Nat × Nat)), (∀ y ∈ L, y ∈ K) → IncT l L → IncT (less l b e ((Mx l b e).1, T)) (L.map (sh1 b e))
  | [], _, _ => trivial
  | y :: r, hm, ⟨i1, i2⟩ => by
    have mx : ∀ z ∈ K, Mx (less l b e ((Mx l b e).1, T)) (sh1 b e z).1 (sh1 b e z).2 = Mx l z.1 z.2 := fun z hz => by
      have rz := hK.ch.rng z hz
      obtain ⟨o1, o2, _⟩ := outside hK hx hz
      exact less_mx hg hK hx hT hT1 hT9 hq rz.1 rz.2 o1 o2
    refine ⟨fun z hz => ?_, less_inc r (fun z hz => hm z (by simp [hz])) i2⟩
    obtain ⟨w, hw, rfl⟩ := List.mem_map.1 hz
    rw [mx w (hm w (by simp [hw])), mx y (hm y (by simp))]
    exact i1 w hw
theorem less_blk : Blk (less l b e ((Mx l b e).1, T)) (K.map (sh1 b e)) (less l b e ((Mx l b e).1, T)).length := by
  have rx := hK.ch.rng (b, e) hx
  simp only at rx
  rw [less_len (T := T) hK hx]
  refine ⟨sh_ch hK hx K l.length hK.ch fun y hy => hy, fun z hz => ?_, less_inc hg hK hx hT hT1 hT9 hq K (fun y hy => hy) hK.inc⟩
  obtain ⟨y, hy, rfl⟩ := List.mem_map.1 hz
  have ry := hK.ch.rng y hy
  obtain ⟨o1, o2, o3⟩ := outside hK hx hy
  intro k' h1 h2
  simp only [sh1] at h1 h2 ⊢
  rw [less_mx hg hK hx hT hT1 hT9 hq ry.1 ry.2 o1 o2]
  have key : ∀ k, k ≤ l.length → (k ≤ b ∨ e ≤ k) → y.1 ≤ k → k ≤ y.2 → 0 ≤ dv (less l b e ((Mx l b e).1, T)) (Mx l y.1 y.2) (ph b e y.1) (ph b e k) := fun k hk ok h3 h4 => by
    rw [less_dv hg hK hx hT hT1 hT9 hq _ (by omega) hk o1 ok]
    exact hK.loc y hy k h3 h4
  rcases o3 with h3 | h3 | h3
  · have e1 : ph b e y.1 = y.1 := by unfold ph; rw [if_pos (by omega)]
    have e2 : ph b e y.2 = y.2 := by unfold ph; rw [if_pos (by omega)]
    have := key k' (by omega) (.inl (by omega)) (by omega) (by omega)
    rw [show ph b e k' = k' by unfold ph; rw [if_pos (by omega)]] at this
    exact this
  · have e1 : ph b e y.1 = y.1 - (e - b - 1) := by unfold ph; rw [if_neg (by omega)]
    have e2 : ph b e y.2 = y.2 - (e - b - 1) := by unfold ph; rw [if_neg (by omega)]
    have := key (k' + (e - b - 1)) (by omega) (.inr (by omega)) (by omega) (by omega)
    rw [show ph b e (k' + (e - b - 1)) = k' by unfold ph; rw [if_neg (by omega)]; omega] at this
    exact this
  · subst h3
    simp only at h1 h2 ⊢
    have e1 : ph b e b = b := by unfold ph; rw [if_pos (by omega)]
    have e2 : ph b e e = b + 1 := by unfold ph; rw [if_neg (by omega)]; omega
    rw [e1] at h1
    rw [e2] at h2
    by_cases hkb : k' = b
    · rw [hkb, e1, dv_self]
      omega
    · have := key e rx.2 (.inr (Nat.le_refl _)) (by simp only; omega) (Nat.le_refl _)
      rw [e2] at this
      rw [show k' = b + 1 by omega]
      exact this
theorem less_near {V : List Frc} (hV : V.length = l.length) (hb : ∀ x ∈ K, ∀ i (h : i < V.length), x.1 ≤ i → i < x.2 → V[i] = Mx l x.1 x.2) : D30 N5 (less l b e ((Mx l b e).1, T)) = some (V.take b ++ [Mx l b e] ++ V.drop e, 0) := by
  have rx := hK.ch.rng (b, e) hx
  simp only at rx
  obtain ⟨v1, v2, _, v4, _⟩ := all_of18 (less_good hg hK hx hT hT1 hT9 hq) (less_blk hg hK hx hT hT1 hT9 hq)
  have hlen := less_len (T := T) hK hx
  have hph : ph b e l.length = l.length - (e - b - 1) := by
    unfold ph
    split <;> omega
  rw [v1]
  congr 2
  have hat : ∀ k (hk : k < l.length) (h' : ph b e k < (vals (less l b e ((Mx l b e).1, T)) (K.map (sh1 b e)).reverse).length) (hkV : k < V.length), (k < b ∨ k = b ∨ e ≤ k) → (vals (less l b e ((Mx l b e).1, T)) (K.map (sh1 b e)).reverse)[ph b e k] = V[k] := by
    intro k hk h' hkV ho
    obtain ⟨y, hy, y1, y2⟩ := hK.ch.cover k hk
    have ry := hK.ch.rng y hy
    obtain ⟨o1, o2, o3⟩ := outside hK hx hy
    rw [v4 (sh1 b e y) (List.mem_map.2 ⟨y, hy, rfl⟩) (ph b e k) h' (by simp only [sh1, ph]; (repeat' split) <;> omega) (by
      simp only [sh1, ph]
      rcases o3 with h3 | h3 | h3
      · (repeat' split) <;> omega
      · (repeat' split) <;> omega
      · subst h3
        simp only at y1 y2 ⊢
        (repeat' split) <;> omega), hb y hy k hkV y1 y2]
    exact less_mx hg hK hx hT hT1 hT9 hq ry.1 ry.2 o1 o2
  have hxV := hb (b, e) hx b (by omega) (Nat.le_refl _) (by simp only; omega)
  simp only at hxV
  have htl : (V.take b ++ [Mx l b e]).length = b + 1 := by simp; omega
  refine List.ext_getElem (by rw [v2, hlen, hph]; simp; omega) fun i h1 h2 => ?_
  rw [v2, hlen, hph] at h1
  rcases Nat.lt_trichotomy i b with hi | hi | hi
  · have h3 := hat i (by omega) (by rw [v2, hlen, hph]; unfold ph; rw [if_pos (by omega)]; exact h1) (by omega) (.inl hi)
    have e1 : ph b e i = i := by unfold ph; rw [if_pos (by omega)]
    simp only [e1] at h3
    rw [h3, List.getElem_append_left (by omega), List.getElem_append_left (by simp; omega), List.getElem_take]
  · subst hi
    have h3 := hat i (by omega) (by rw [v2, hlen, hph]; unfold ph; rw [if_pos (by omega)]; exact h1) (by omega) (.inr (.inl rfl))
    have e1 : ph i e i = i := by unfold ph; rw [if_pos (by omega)]
    simp only [e1] at h3
    rw [h3, hxV, List.getElem_append_left (by omega), List.getElem_append_right (by simp; omega)]
    simp [Nat.min_eq_left (show i ≤ V.length by omega)]
  · have h3 := hat (i + (e - b - 1)) (by omega) (by rw [v2, hlen, hph]; unfold ph; rw [if_neg (by omega)]; omega) (by omega) (.inr (.inr (by omega)))
    have e1 : ph b e (i + (e - b - 1)) = i := by unfold ph; rw [if_neg (by omega)]; omega
    simp only [e1] at h3
    rw [h3, List.getElem_append_right (by omega), List.getElem_drop]
    congr 1
    omega
end
/-! ### The law -/
theorem blocks_tail {l : List Src} (hg : Good l) {K : List (Nat × Nat)} (hK : Blk l K l.length) {V : List Frc} (hV : V.length = l.length) (hb : ∀ x ∈ K, ∀ i (h : i < V.length), x.1 ≤ i → i < x.2 → V[i] = Mx l x.1 x.2) {one : Int} (h1 : 0 ≤ one ∧ one ≤ 255) (m : Nat) :
    DL17_1 N5 (m + 1) one l V (l.length : Int) ((K.reverse.map (blk l)).length : Int) ((K.reverse.map (blk l)).length : Int) (K.reverse.map (blk l)) = some true := by
  have h8 := hg.le
  have ho := hg.ok
  have hpos := hg.pos
  have hKl := hK.ch.len
  rw [DL17_1_succ]
  unfold DF17_1
  rw [show decide (((K.reverse.map (blk l)).length : Int) < ((K.reverse.map (blk l)).length : Int)) = false by simp, cond_false, bne_self_eq_false, cond_false]
  have hlen : (K.reverse.map (blk l)).length = K.length := by simp
  rw [hlen]
  have hK0 : 0 < K.length := by
    rcases K with _ | ⟨x, r⟩
    · have : l.length = 0 := hK.ch
      omega
    · simp
  have t1 := tmod_rng h1.1 (show 0 < (K.length : Int) by omega)
  rw [wr_ok (x := one) (by omega) (by omega), show ((K.length : Int) == 0) = false by rw [beq_eq_false_iff_ne]; omega, cond_false]
  obtain ⟨j, hj⟩ := Int.eq_ofNat_of_zero_le t1.1
  rw [hj] at t1 ⊢
  have hjl : j < (K.reverse.map (blk l)).length := by rw [hlen]; omega
  have hjk : j < K.reverse.length := by simp; omega
  rw [show inB (j : Int) K.length = true by simp [inB]; omega, cond_true, idx_nat hjl]
  have hxk : K.reverse[j] ∈ K := List.mem_reverse.1 (List.getElem_mem hjk)
  have hget : (K.reverse.map (blk l))[j] = blk l K.reverse[j] := by rw [List.getElem_map]
  rw [hget]
  obtain ⟨⟨b, e⟩, hbe⟩ : ∃ x, x = K.reverse[j] := ⟨_, rfl⟩
  rw [← hbe] at hxk ⊢
  have rx := hK.ch.rng (b, e) hxk
  simp only at rx
  simp only [Option.bind_some, blk]
  have F := Mx_Val ho rx.1 rx.2
  have hs := Ok.sums ((ho.take e).drop b).2
  have hslen : ((l.take e).drop b).length = e - b := by simp; omega
  obtain ⟨u1, u2⟩ := seg_sums l (Nat.le_of_lt rx.1)
  have h66 : D66 N5 ((l.take (Int.toNat (e : Int))).drop (Int.toNat (b : Int))) = some (((ysum ((l.take e).drop b) : Nat) : Int), ((tsum ((l.take e).drop b) : Nat) : Int)) := by
    have h := jsum_loop N5 ((l.take e).drop b) ((ho.take e).drop b) N5.1 0 0 0 (by omega) (by rw [hslen]; show _ < 100000000000000000000; omega) (by simp) (by simp)
    simp only [Int.natCast_zero] at h
    rw [Int.toNat_natCast, Int.toNat_natCast]
    unfold D66
    exact h
  rw [show bounds (some (b : Int)) (some (e : Int)) none l.length = true by simp [bounds]; omega, cond_true, h66]
  simp only [Option.bind_some, orB]
  by_cases hc : (Mx l b e).2 = 1 ∧ tsum ((l.take e).drop b) ≤ 9
  · obtain ⟨hq, hT9⟩ := hc
    have hT1 : 1 ≤ ((tsum ((l.take e).drop b) : Nat) : Int) := by omega
    rw [hq, show ((1 : Int) != 1) = false from rfl, show decide (((tsum ((l.take e).drop b) : Nat) : Int) > 9) = false by simp only [decide_eq_false_iff_not]; omega]
    simp only [Bool.or_self, cond_false]
    rw [show bounds none (some (b : Int)) none l.length = true by simp [bounds]; omega, cond_true, one_src]
    simp only [Option.bind_some]
    rw [show bounds (some (e : Int)) none none l.length = true by simp [bounds]; omega, cond_true, Int.toNat_natCast, Int.toNat_natCast, cat68 (by simp; omega)]
    simp only [Option.bind_some]
    have hn := less_near hg hK hxk u2 hT1 (by omega) hq hV hb
    unfold less at hn
    rw [hn]
    simp only [Option.bind_some, show (((0 : Int) == 0) == true) = true from rfl, cond_true, andB]
    rw [show bounds none (some (b : Int)) none V.length = true by simp [bounds]; omega, cond_true, show bounds (some (e : Int)) none none V.length = true by simp [bounds]; omega, cond_true,
      show ((Mx l b e).1, (1 : Int)) = Mx l b e from Prod.ext rfl hq.symm, cat69 (by simp; omega)]
    simp only [Option.bind_some]
    rw [fracs_eq (n := N5) (by decide) (by simp; omega), works_val5]
    rfl
  · have : ((Mx l b e).2 != 1 || decide (((tsum ((l.take e).drop b) : Nat) : Int) > 9)) = true := by
      rw [Bool.or_eq_true]
      by_cases c : (Mx l b e).2 = 1
      · refine .inr ?_
        have : ¬ tsum ((l.take e).drop b) ≤ 9 := fun h => hc ⟨c, h⟩
        simp only [decide_eq_true_eq]
        omega
      · exact .inl (by simpa using c)
    rw [this, cond_true, works_val5]
    rfl
theorem blocks_loop {l : List Src} (hg : Good l) {K : List (Nat × Nat)} (hK : Blk l K l.length) {V : List Frc} (hV : V.length = l.length) (hb : ∀ x ∈ K, ∀ i (h : i < V.length), x.1 ≤ i → i < x.2 → V[i] = Mx l x.1 x.2) {one : Int} (h1 : 0 ≤ one ∧ one ≤ 255) :
    ∀ (r A : List (Nat × Nat)) (at' m : Nat), K.reverse = A ++ r → Cb at' r l.length → (∀ y ∈ A, y.2 ≤ at') → r.length < m → DL17_1 N5 m one l V (at' : Int) ((K.reverse.map (blk l)).length : Int) (A.length : Int) (K.reverse.map (blk l)) = some true
  | _, _, _, 0, _, _, _, h => by omega
  | [], A, at', m + 1, hA, hc, _, _ => by
    have : at' = l.length := hc
    subst this
    rw [List.append_nil] at hA
    have := blocks_tail hg hK hV hb h1 m
    have e1 : (K.reverse.map (blk l)).length = A.length := by rw [List.length_map, hA]
    rw [e1] at this ⊢
    exact this
  | (b, e) :: r, A, at', m + 1, hA, ⟨c1, c2, c3⟩, hlt, hm => by
    subst c1
    have h8 := hg.le
    have ho := hg.ok
    have hKl := hK.ch.len
    have hx : (b, e) ∈ K := List.mem_reverse.1 (by rw [hA]; simp)
    have rx := hK.ch.rng (b, e) hx
    simp only at rx
    have F := Mx_Val ho rx.1 rx.2
    have hlen : (K.reverse.map (blk l)).length = K.length := by simp
    have hKA : K.length = A.length + r.length + 1 := by
      have := congrArg List.length hA
      simp at this
      omega
    have hAl : A.length < (K.reverse.map (blk l)).length := by omega
    have hget : (K.reverse.map (blk l))[A.length] = blk l (b, e) := by
      simp only [hA, List.map_append, List.map_cons]
      rw [List.getElem_append_right (by simp)]
      simp
    rw [DL17_1_succ]
    unfold DF17_1
    rw [show decide ((A.length : Int) < ((K.reverse.map (blk l)).length : Int)) = true by simp only [decide_eq_true_eq]; omega, cond_true, show inB (A.length : Int) (K.reverse.map (blk l)).length = true by simp only [inB, Bool.and_eq_true, decide_eq_true_eq]; omega, cond_true, idx_nat hAl, hget]
    simp only [Option.bind_some, blk]
    have hbelow : ((bif (decide ((A.length : Int) > 0) == true) then (bif inB (wr .i64 ((A.length : Int) - 1)) (K.reverse.map (blk l)).length then (idx (K.reverse.map (blk l)) (wr .i64 ((A.length : Int) - 1))).bind fun x12' =>
                  (D62 N5 x12'.2.2 ((Mx l b e).1, (Mx l b e).2)).bind fun r13' =>
                  some (decide (r13' ≥ 0))
                else none)
              else some false) : Option Bool) = some false := by
      rcases List.eq_nil_or_concat A with hn | ⟨A', w, hw⟩
      · subst hn
        rfl
      · rw [List.concat_eq_append] at hw
        subst hw
        have hwk : w ∈ K := List.mem_reverse.1 (by rw [hA]; simp)
        have rw' := hK.ch.rng w hwk
        have G := Mx_Val ho rw'.1 rw'.2
        have hw2 := hlt w (by simp)
        have hri := K_rise hK.ch hK.inc w hwk (b, e) hx (by simpa using hw2)
        have hl2 : (A' ++ [w]).length = A'.length + 1 := by simp
        rw [hl2] at hKA
        have hA' : A'.length < (K.reverse.map (blk l)).length := by omega
        have hget2 : (K.reverse.map (blk l))[A'.length] = blk l w := by
          simp only [hA, List.append_assoc, List.map_append, List.map_cons]
          rw [List.getElem_append_right (by simp)]
          simp
        rw [hl2, show decide (((A'.length + 1 : Nat) : Int) > 0) = true by simp only [decide_eq_true_eq]; omega, wr_ok (x := ((A'.length + 1 : Nat) : Int) - 1) (by omega) (by omega), show ((A'.length + 1 : Nat) : Int) - 1 = (A'.length : Int) by omega,
          show inB (A'.length : Int) (K.reverse.map (blk l)).length = true by simp only [inB, Bool.and_eq_true, decide_eq_true_eq]; omega, idx_nat hA', hget2]
        have hz : ∃ z : Int, D62 N5 (Mx l w.1 w.2) (Mx l b e) = some z ∧ z < 0 := by
          have bd : ∀ {f g : Frc}, Val f → Val g → 0 ≤ f.1 * g.2 ∧ f.1 * g.2 ≤ 7200 * 72 := fun {f g} hf hg => by
            have a1 := hf.fr.np
            have a2 := hf.fr.dp
            have a3 := hf.fr.dl
            have a4 := hf.le
            have b2 := hg.fr.dp
            have b3 := hg.fr.dl
            exact ⟨Int.mul_nonneg a1 (by omega), Int.le_trans (Int.mul_le_mul_of_nonneg_right (show f.1 ≤ 7200 by omega) (by omega)) (by omega)⟩
          have u1 := bd G F
          have u2 := bd F G
          unfold ltM at hri
          simp only at hri
          refine ⟨(Mx l w.1 w.2).1 * (Mx l b e).2 - (Mx l b e).1 * (Mx l w.1 w.2).2, ?_, by omega⟩
          unfold D62
          rw [wr_ok (x := (Mx l w.1 w.2).1 * (Mx l b e).2) (by omega) (by omega), wr_ok (x := (Mx l b e).1 * (Mx l w.1 w.2).2) (by omega) (by omega), wr_ok (x := _ - _) (by omega) (by omega)]
        obtain ⟨z, z1, z2⟩ := hz
        simp only [show (true == true) = true from rfl, cond_true, Option.bind_some, blk]
        rw [show (((Mx l w.1 w.2).1, (Mx l w.1 w.2).2) : Int × Int) = Mx l w.1 w.2 from rfl, show (((Mx l b e).1, (Mx l b e).2) : Int × Int) = Mx l b e from rfl, z1]
        simp only [Option.bind_some]
        rw [show decide (z ≥ 0) = false by simp only [decide_eq_false_iff_not]; omega]
    obtain ⟨j1, j2⟩ := jseg (n := N5) (by decide) ho rx.1 rx.2
    have hVs : (V.take (Int.toNat (e : Int))).drop (Int.toNat (b : Int)) = List.replicate (e - b) (Mx l b e) := by
      rw [Int.toNat_natCast, Int.toNat_natCast]
      refine List.ext_getElem (by simp; omega) fun i i1 i2 => ?_
      simp only [List.length_replicate] at i2
      rw [List.getElem_replicate, List.getElem_drop, List.getElem_take]
      exact hb (b, e) hx (b + i) (by omega) (by simp only; omega) (by simp only; omega)
    have hown := part_near hg rx.1 rx.2 (hK.loc _ hx)
    rw [bne_self_eq_false, show decide ((e : Int) ≤ (b : Int)) = false by simp only [decide_eq_false_iff_not]; omega, show decide ((e : Int) > (l.length : Int)) = false by simp only [decide_eq_false_iff_not]; omega]
    simp only [show (false == false) = true from rfl, cond_true, Option.bind_some]
    rw [hbelow, j1, j2]
    simp only [show (false == false) = true from rfl, cond_true, Option.bind_some, beq_self_eq_true, Bool.and_self, Bool.not_true, cond_false]
    rw [mean22 hg rx.1 rx.2, show bounds (some (b : Int)) (some (e : Int)) none V.length = true by simp [bounds]; omega, hVs]
    rw [Int.toNat_natCast, Int.toNat_natCast, hown]
    simp only [Option.bind_some, bne_self_eq_false, show (false == false) = true from rfl, cond_true, beq_self_eq_true, Bool.and_self, Bool.not_true]
    rw [wr_ok (x := (e : Int) - (b : Int)) (by omega) (by omega), show (e : Int) - (b : Int) = ((e - b : Nat) : Int) by omega, rep_eq (Mx l b e) (by omega) (by omega)]
    simp only [Option.bind_some, fracs_eq (n := N5) (v := List.replicate (e - b) (Mx l b e)) (by decide) (by simp; omega), Bool.not_true, show (false == false) = true from rfl, cond_true, cond_false]
    rw [wr_ok (x := (A.length : Int) + 1) (by omega) (by omega)]
    have := blocks_loop hg hK hV hb h1 r (A ++ [(b, e)]) e m (by rw [hA]; simp) c3 (fun y hy => by
      rcases List.mem_append.1 hy with hy | hy
      · have := hlt y hy
        omega
      · rw [List.mem_singleton.1 hy]
        exact Nat.le_refl _) (by simpa using hm)
    rw [show ((A ++ [(b, e)]).length : Int) = (A.length : Int) + 1 by simp] at this
    exact this
theorem blocks_val (a : ShA.den) (ha : Wf ShA a) {one : Int} (h1 : 0 ≤ one ∧ one ≤ 255) : D17 N5 a one = some true := by
  obtain ⟨l, hg, _, _, e1⟩ := made_eq (n := N5) (by decide) a ha (many := 8) (y := 30) (by omega) (by omega)
  have h8 := hg.le
  have ho := hg.ok
  have hpos := hg.pos
  obtain ⟨K, hK, e2⟩ := blocks_eq (n := N5) (by decide) ho
  obtain ⟨v1, v2, v3, v4, _⟩ := all_of18 hg hK
  have hKl := hK.ch.len
  have h32 : D32 N5 l = some (K.reverse.map (blk l), 0) := by
    unfold D32
    rw [chk_eq (n := N5) (by decide), good_chk hg]
    simp only [Option.bind_some, bne_self_eq_false, cond_false, e2]
  have hK0 : 0 < K.length := by
    rcases K with _ | ⟨x, r⟩
    · have : l.length = 0 := hK.ch
      omega
    · simp
  have hlen : (K.reverse.map (blk l)).length = K.length := by simp
  unfold D17
  rw [e1]
  simp only [Option.bind_some, v1, h32, bne_self_eq_false, show (false == false) = true from rfl, cond_true]
  rw [many_eq (n := N5) (by decide) v3 (by omega) (by rw [v2])]
  simp only [Option.bind_some, Bool.not_true, show (false == false) = true from rfl, cond_true]
  rw [hlen, show ((K.length : Int) == 0) = false by rw [beq_eq_false_iff_ne]; omega]
  simp only [Option.bind_some, show (false == false) = true from rfl, cond_true]
  rw [show decide ((K.length : Int) > (l.length : Int)) = false by simp only [decide_eq_false_iff_not]; omega, cond_false]
  have := blocks_loop hg hK v2 v4 h1 K.reverse [] 0 N5.1 rfl hK.ch.toCb (by simp) (by show _ < 100000000000000000000; simp; omega)
  rw [hlen] at this
  exact this
theorem blocks_ok (xs : pksDen (pks [ShA, .int .u8])) (h : WfL [ShA, .int .u8] xs) : ∃ n, S17 n xs.1 xs.2.1 = some true :=
  ⟨N5, by rw [S17_D N5 rfl]; exact blocks_val xs.1 h.1 (u8_rng h.2.1)⟩
end Go.Proofs.Ytombednapelokaa
