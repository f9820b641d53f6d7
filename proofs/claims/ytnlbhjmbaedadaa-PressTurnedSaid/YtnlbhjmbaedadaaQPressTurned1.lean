/- Texts of this claim, joined: G43 to Pw. -/
import Derived.KernelRfl
import Derived.Test.YtnlbhjmbaedadaaProg
import Derived.WalkKit
import Derived.Test.YtnlbhjmbaedadaaP6
set_option linter.unusedVariables false
set_option linter.unusedSimpArgs false
set_option maxRecDepth 100000
namespace Go.Proofs.Ytnlbhjmbaedadaa
open Go.Vi
/- (headword/headwordlaw07.Forme).made -/
abbrev R43 := List (Int × Int)
noncomputable def c43 : Code := bodyOf Try.f43
noncomputable def an43 : Ann := (.s .l (.s .l (.s .l (.s (.s .l (.j [5] (.j [5, 6, 21, 22, 23] (.s .l (.s (.j [5, 6, 21, 22, 23] .l .l) (.s (.j [5, 6, 21, 22, 23] .l .l) .l))) .l) .l)) .l))))
def pk43 : List PK := [.c (.pair (.int .u8) (.pair (.int .u8) (.pair (.pair (.int .u8) (.int .u8)) (.pair (.pair (.int .u8) (.int .u8)) (.pair (.pair (.int .u8) (.int .u8)) (.pair (.pair (.int .u8) (.int .u8)) (.pair (.pair (.int .u8) (.int .u8)) (.pair (.pair (.int .u8) (.int .u8)) (.pair (.int .u8) (.int .u8)))))))))), .c (.int .i64)]
def rk43 : List RK := [.sl (.pair (.int .i64) (.int .i64)) 4]
noncomputable def rt43 (st : St) : Option R43 := rtG rk43 st
noncomputable def E43 (n : Nat × Nat) : Env := { T := tab, phi := noPhi, eff := fun _ => false, fuel := n.1, hold := n.2 }
noncomputable def kq43_1 (n : Nat × Nat) : St → Option R43 := run (E43 n) (cB (cB (cB (cB c43)))) (Ann.snd (Ann.snd (Ann.snd (Ann.snd an43)))) rt43 (fun _ _ => none) rt43
noncomputable def xb43_3 (n : Nat × Nat) : Nat → St → Option R43 := fun j s => bif Nat.beq j 0 then normC [5] s (kq43_1 n) else (fun _ _ => none) j s
noncomputable def F43_4 (n : Nat × Nat) : (St → Option R43) → St → Option R43 := fun K s => run (E43 n) (cA (cA (cB (cA (cB (cB (cB c43))))))) (Ann.fst (Ann.fst (Ann.snd (Ann.fst (Ann.snd (Ann.snd (Ann.snd an43))))))) (fun s => normC [5, 6, 21, 22, 23] s K) (xb43_3 n) rt43 s
noncomputable def L43_1 (n : Nat × Nat) (m : Nat) (top6 : Int) (v21 : List (Int × Int)) (v22 : Int) (v23 : Int) (out5 : List (Int × Int)) : Option R43 := loopN (F43_4 n) m { tm := [uu, uu, uu, uu, uu, .own 5 none false, .c (.int .i64 top6), uu, uu, uu, uu, uu, uu, uu, uu, uu, uu, uu, uu, uu, uu, .c (.sl (.pair (.int .u8) (.int .u8)) v21 false), .c (.int .i64 v22), .c (.int .i64 v23), uu, uu, uu, uu, uu, uu, uu, uu, uu, uu, uu, uu, uu, uu, uu, uu, uu, uu, uu, uu, uu], hp := (upd emp 5 (.arr (.pair (.int .i64) (.int .i64)) out5 true)) }
theorem L43_1_eq (n : Nat × Nat) (m1 : Nat) (top6 : Int) (v21 : List (Int × Int)) (v22 : Int) (v23 : Int) (out5 : List (Int × Int)) : L43_1 n (m1 + 1) top6 v21 v22 v23 out5 =
 (bif decide (v23 < v22) then (idx v21 v23).bind fun x1' =>
 (bif inB 0 2 then (idx [x1'.1, x1'.2] 0).bind fun x2' =>
 (bif (wr .i64 (top6 + 1)) == 0 then none
 else (bif inB 1 2 then (idx [x1'.1, x1'.2] 1).bind fun x3' =>
 (bif (wr .i64 (top6 + 1)) == 0 then none
 else (bif decide (out5.length + [(Int.tmod (wr .i64 x2') (wr .i64 (top6 + 1)), Int.tmod (wr .i64 x3') (wr .i64 (top6 + 1)))].length ≤ lim) then L43_1 n m1 top6 v21 v22 (wr .i64 (v23 + 1)) (out5 ++ [(Int.tmod (wr .i64 x2') (wr .i64 (top6 + 1)), Int.tmod (wr .i64 x3') (wr .i64 (top6 + 1)))])
 else none))
 else none))
 else none)
 else some out5) := by kernel_rfl
noncomputable def S43 (n : Nat × Nat) (f0 : Int × Int × (Int × Int) × (Int × Int) × (Int × Int) × (Int × Int) × (Int × Int) × (Int × Int) × Int × Int) (most1 : Int) : Option R43 := run (E43 n) c43 an43 rt43 (fun _ _ => none) rt43 { tm := [.agg [.int .u8 f0.1, .int .u8 f0.2.1, .int .u8 f0.2.2.1.1, .int .u8 f0.2.2.1.2, .int .u8 f0.2.2.2.1.1, .int .u8 f0.2.2.2.1.2, .int .u8 f0.2.2.2.2.1.1, .int .u8 f0.2.2.2.2.1.2, .int .u8 f0.2.2.2.2.2.1.1, .int .u8 f0.2.2.2.2.2.1.2, .int .u8 f0.2.2.2.2.2.2.1.1, .int .u8 f0.2.2.2.2.2.2.1.2, .int .u8 f0.2.2.2.2.2.2.2.1.1, .int .u8 f0.2.2.2.2.2.2.2.1.2, .int .u8 f0.2.2.2.2.2.2.2.2.1, .int .u8 f0.2.2.2.2.2.2.2.2.2], .c (.int .i64 most1), uu, uu, uu, uu, uu, uu, uu, uu, uu, uu, uu, uu, uu, uu, uu, uu, uu, uu, uu, uu, uu, uu, uu, uu, uu, uu, uu, uu, uu, uu, uu, uu, uu, uu, uu, uu, uu, uu, uu, uu, uu, uu, uu], hp := emp }
theorem S43_eq (n : Nat × Nat) (f0 : Int × Int × (Int × Int) × (Int × Int) × (Int × Int) × (Int × Int) × (Int × Int) × (Int × Int) × Int × Int) (most1 : Int) : S43 n f0 most1 =
 (bif 50 == 0 then none
 else (bif most1 == 0 then none
 else (bif bounds none (some (wr .i64 (1 + (Int.tmod (wr .i64 f0.1) most1)))) none 7 then L43_1 n n.1 (wr .i64 ((Int.tmod (wr .i64 f0.2.1) 50) + 1)) ([f0.2.2.1, f0.2.2.2.1, f0.2.2.2.2.1, f0.2.2.2.2.2.1, f0.2.2.2.2.2.2.1, f0.2.2.2.2.2.2.2.1, f0.2.2.2.2.2.2.2.2].take (Int.toNat (wr .i64 (1 + (Int.tmod (wr .i64 f0.1) most1))))) (([f0.2.2.1, f0.2.2.2.1, f0.2.2.2.2.1, f0.2.2.2.2.2.1, f0.2.2.2.2.2.2.1, f0.2.2.2.2.2.2.2.1, f0.2.2.2.2.2.2.2.2].take (Int.toNat (wr .i64 (1 + (Int.tmod (wr .i64 f0.1) most1))))).length : Int) 0 []
 else none))) := by kernel_rfl
theorem S43_run (n : Nat × Nat) (xs : pksDen pk43) : S43 n xs.1 xs.2.1 = runG (E43 n) noScope c43 an43 (rtG rk43) (fun _ _ => none) (rtG rk43) (st0 pk43 xs Try.f43.ntmps) := by kernel_rfl
noncomputable def P43 (n : Nat × Nat) := phiOf pk43 rk43 (fun xs => S43 n xs.1 xs.2.1)
theorem call43 : CallOK Try.prog 43 := callOK_of Try.func43 (by kernel_rfl) (by kernel_rfl)
theorem env43 (n : Nat × Nat) : EnvOK Try.prog (E43 n) := envOK0 noPhi_ok rfl rfl
theorem par43 (n : Nat × Nat) : EnvPar (E43 n) := envPar0 noPhi_par rfl
theorem FC43 (n : Nat × Nat) : FCs Try.prog 43 (P43 n) := phiOf_FCs fun xs r h vs hv => FC.of_runG tabOK eqsOK (env43 n) (par43 n) mixed (fun _ p _ => noScope_ok p.1 p.2) Try.func43 (c := c43) (an := an43) (pks := pk43) (rks := rk43) (by kernel_rfl) (by kernel_rfl) hv ((S43_run n xs).symm.trans h)
abbrev R48 := List Int
noncomputable def c48 : Code := bodyOf Try.f48
noncomputable def an48 : Ann := (.s .l (.s .l (.s (.s .l (.j [5] (.j [3, 5, 11, 12] (.s .l (.s (.j [3, 5, 11, 12] .l .l) (.s (.j [3, 5, 11, 12] .l .l) .l))) .l) .l)) .l)))
def pk48 : List PK := [.c (.int .i64), .c (.pair (.int .u8) (.pair (.int .u8) (.pair (.int .u8) (.pair (.int .u8) (.pair (.int .u8) (.pair (.int .u8) (.int .u8)))))))]
def rk48 : List RK := [.own (.int .i64) 4]
noncomputable def rt48 (st : St) : Option R48 := rtG rk48 st
noncomputable def E48 (n : Nat × Nat) : Env := { T := tab, phi := noPhi, eff := fun _ => false, fuel := n.1, hold := n.2 }
noncomputable def kq48_1 (n : Nat × Nat) : St → Option R48 := run (E48 n) (cB (cB (cB c48))) (Ann.snd (Ann.snd (Ann.snd an48))) rt48 (fun _ _ => none) rt48
noncomputable def xb48_3 (n : Nat × Nat) : Nat → St → Option R48 := fun j s => bif Nat.beq j 0 then normC [5] s (kq48_1 n) else (fun _ _ => none) j s
noncomputable def F48_4 (n : Nat × Nat) : (St → Option R48) → St → Option R48 := fun K s => run (E48 n) (cA (cA (cB (cA (cB (cB c48)))))) (Ann.fst (Ann.fst (Ann.snd (Ann.fst (Ann.snd (Ann.snd an48)))))) (fun s => normC [3, 5, 11, 12] s K) (xb48_3 n) rt48 s
noncomputable def L48_1 (n : Nat × Nat) (m : Nat) (v11 : Int) (v12 : Int) (v3_0 : Int) (v3_1 : Int) (v3_2 : Int) (v3_3 : Int) (v3_4 : Int) (v3_5 : Int) (v3_6 : Int) (to5 : List Int) : Option R48 := loopN (F48_4 n) m { tm := [uu, uu, uu, .ptr 3 0, uu, .own 5 none false, uu, uu, uu, uu, uu, .c (.int .i64 v11), .c (.int .i64 v12), uu, uu, uu, uu, uu, uu, uu, uu, uu, uu, uu, uu, uu, uu, uu, uu, uu, uu, uu, uu, uu, uu, uu, uu, uu, uu, uu, uu, uu], hp := (upd (upd emp 5 (.arr (.int .i64) to5 false)) 3 (.box [.int .u8 v3_0, .int .u8 v3_1, .int .u8 v3_2, .int .u8 v3_3, .int .u8 v3_4, .int .u8 v3_5, .int .u8 v3_6])) }
theorem L48_1_eq (n : Nat × Nat) (m1 : Nat) (v11 : Int) (v12 : Int) (v3_0 : Int) (v3_1 : Int) (v3_2 : Int) (v3_3 : Int) (v3_4 : Int) (v3_5 : Int) (v3_6 : Int) (to5 : List Int) : L48_1 n (m1 + 1) v11 v12 v3_0 v3_1 v3_2 v3_3 v3_4 v3_5 v3_6 to5 =
 (bif decide (v12 < v11) then (bif inB v12 to5.length then (idx to5 v12).bind fun x1' =>
 (bif inB v12 7 then (idx [v3_0, v3_1, v3_2, v3_3, v3_4, v3_5, v3_6] v12).bind fun x2' =>
 (bif (wr .i64 (v12 + 1)) == 0 then none
 else (bif inB (Int.tmod (wr .i64 x2') (wr .i64 (v12 + 1))) (to5.set (Int.toNat v12) v12).length then (idx (to5.set (Int.toNat v12) v12) (Int.tmod (wr .i64 x2') (wr .i64 (v12 + 1)))).bind fun x3' =>
 (bif inB v12 (to5.set (Int.toNat v12) v12).length then (idx (to5.set (Int.toNat v12) v12) v12).bind fun x4' =>
 (bif inB v12 (to5.set (Int.toNat v12) v12).length then (idx (to5.set (Int.toNat v12) v12) v12).bind fun x5' =>
 (bif inB (Int.tmod (wr .i64 x2') (wr .i64 (v12 + 1))) ((to5.set (Int.toNat v12) v12).set (Int.toNat v12) x3').length then (idx ((to5.set (Int.toNat v12) v12).set (Int.toNat v12) x3') (Int.tmod (wr .i64 x2') (wr .i64 (v12 + 1)))).bind fun x6' =>
                    L48_1 n m1 v11 (wr .i64 (v12 + 1)) v3_0 v3_1 v3_2 v3_3 v3_4 v3_5 v3_6 (((to5.set (Int.toNat v12) v12).set (Int.toNat v12) x3').set (Int.toNat (Int.tmod (wr .i64 x2') (wr .i64 (v12 + 1)))) x4')
 else none)
 else none)
 else none)
 else none))
 else none)
 else none)
 else some to5) := by kernel_rfl
noncomputable def S48 (n : Nat × Nat) (v0 : Int) (v1 : Int × Int × Int × Int × Int × Int × Int) : Option R48 := run (E48 n) c48 an48 rt48 (fun _ _ => none) rt48 { tm := [.c (.int .i64 v0), .agg [.int .u8 v1.1, .int .u8 v1.2.1, .int .u8 v1.2.2.1, .int .u8 v1.2.2.2.1, .int .u8 v1.2.2.2.2.1, .int .u8 v1.2.2.2.2.2.1, .int .u8 v1.2.2.2.2.2.2], uu, uu, uu, uu, uu, uu, uu, uu, uu, uu, uu, uu, uu, uu, uu, uu, uu, uu, uu, uu, uu, uu, uu, uu, uu, uu, uu, uu, uu, uu, uu, uu, uu, uu, uu, uu, uu, uu, uu, uu], hp := emp }
theorem S48_eq (n : Nat × Nat) (v0 : Int) (v1 : Int × Int × Int × Int × Int × Int × Int) : S48 n v0 v1 =
 (bif decide (0 ≤ v0) && decide (v0 ≤ v0) && decide (v0 ≤ lim) then L48_1 n n.1 ((List.replicate (Int.toNat v0) (0 : Int)).length : Int) 0 v1.1 v1.2.1 v1.2.2.1 v1.2.2.2.1 v1.2.2.2.2.1 v1.2.2.2.2.2.1 v1.2.2.2.2.2.2 (List.replicate (Int.toNat v0) (0 : Int))
 else none) := by kernel_rfl
theorem S48_run (n : Nat × Nat) (xs : pksDen pk48) : S48 n xs.1 xs.2.1 = runG (E48 n) noScope c48 an48 (rtG rk48) (fun _ _ => none) (rtG rk48) (st0 pk48 xs Try.f48.ntmps) := by kernel_rfl
noncomputable def P48 (n : Nat × Nat) := phiOf pk48 rk48 (fun xs => S48 n xs.1 xs.2.1)
theorem call48 : CallOK Try.prog 48 := callOK_of Try.func48 (by kernel_rfl) (by kernel_rfl)
theorem env48 (n : Nat × Nat) : EnvOK Try.prog (E48 n) := envOK0 noPhi_ok rfl rfl
theorem par48 (n : Nat × Nat) : EnvPar (E48 n) := envPar0 noPhi_par rfl
theorem FC48 (n : Nat × Nat) : FCs Try.prog 48 (P48 n) := phiOf_FCs fun xs r h vs hv => FC.of_runG tabOK eqsOK (env48 n) (par48 n) mixed (fun _ p _ => noScope_ok p.1 p.2) Try.func48 (c := c48) (an := an48) (pks := pk48) (rks := rk48) (by kernel_rfl) (by kernel_rfl) hv ((S48_run n xs).symm.trans h)
end Go.Proofs.Ytnlbhjmbaedadaa
set_option linter.unusedVariables false
set_option linter.unusedSimpArgs false
set_option maxRecDepth 100000
namespace Go.Proofs.Ytnlbhjmbaedadaa
open Go.RowKit Go.Shelf
section
attribute [local go_sem] Oper.semAt_some
set_option maxHeartbeats 2000000 in
/-- The closure of slices.Backward: J k holds when the elements from k on have come. -/
theorem backI_in (F : Fence) (n : Nat) (hC : F.fn 82) (hro : F.round = none) (hn : 1 ≤ n) (l Bs n₀ b off cap : Nat) (zs : List Int) (hreach : zs.length * 8 ≤ 140737488351232) (hb : b < n₀) (J : Nat → World → Prop)
    (hY : ∀ k (hk : k < zs.length) W, J (k + 1) W → YieldAt F (n - 1) Try.prog l #[.int .i64 (k : Int), .int .i64 zs[k]] W fun e W' => e = .returned (.bool true) ∧ J k W' ∧ KpB n₀ Bs W W')
    (W : World) (hBs : W.cell? ⟨Bs, 0, none⟩ = some (.slice (some ⟨b, off, none⟩) zs.length cap)) (hc : ∀ j (h : j < zs.length), W.cell? ⟨b, off + j, none⟩ = some (.int .i64 zs[j])) (h0 : J zs.length W) :
    CallsIn F n Try.prog 82 #[.func (.yield l) #[] #[], .pointer (some ⟨Bs, 0, none⟩)] W fun e W' => (∃ v, e = .returned v) ∧ J 0 W' := by
  refine callsIn_of_wp Try.func82 rfl hC ?_ hro
  simp only [Try.ntmps82, List.size_toArray, List.length_cons, List.length_nil, Nat.reduceAdd, Nat.reduceSub, Array.replicate_succ, Array.replicate_zero, List.push_toArray, List.append_toArray, List.nil_append, List.cons_append]
  gi_wp2
  gi_loopw [3] (fun i wr => (∃ k : Nat, k < zs.length ∧ i = .int .i64 k ∧ J (k + 1) wr ∧ KpB n₀ Bs W wr) ∨ (i = .int .i64 (-1) ∧ J 0 wr ∧ KpB n₀ Bs W wr))
    (fun i _ => (intOf i + 1).toNat)
  case atStart =>
    rcases Nat.eq_zero_or_pos zs.length with h | h
    · exact .inr ⟨by simp [h], by rw [h] at h0; exact h0, KpB.refl _ _ _⟩
    · exact .inl ⟨zs.length - 1, by omega, by congr 1; omega, by rw [show zs.length - 1 + 1 = zs.length by omega]; exact h0, KpB.refl _ _ _⟩
  case round =>
    rcases hrel with ⟨k, hk, rfl, hJs, hnx⟩ | ⟨rfl, hJs, hnx⟩
    · have hcx := (hnx.1.cell (p := ⟨b, off + k, none⟩) hb).trans (hc k hk)
      have hBs' : wr.cell? ⟨Bs, 0, none⟩ = some (.slice (some ⟨b, off, none⟩) zs.length cap) := by rw [← hBs]; simp only [World.cell?, hnx.2]
      obtain ⟨fn, tmps, assign, body, hy, hR⟩ := hY k hk wr hJs
      gi_wp2
      refine hR.mono ?_
      rintro e W3 ⟨rfl, hJ3, hk3⟩
      gi_wp2
      go_roundw
      case rel =>
        cases k with
        | zero => exact .inr ⟨by simp, hJ3, hnx.trans hk3⟩
        | succ k => exact .inl ⟨k, by omega, by congr 1; omega, hJ3, hnx.trans hk3⟩
      case measure => simp [intOf]
    · gi_wp2
      go_end0
      exact ⟨⟨_, rfl⟩, hJs⟩
end
section
attribute [local go_sem] Oper.semAt_some
set_option maxHeartbeats 1000000 in
/-- slices.Backward(s): the slice value is boxed; the function value captures the box. -/
theorem backI0_in (F : Fence) (n : Nat) (hB : F.fn 50) (hro : F.round = none) (a : Option Addr) (len cap : Nat) (w : World) :
    CallsIn F n Try.prog 50 #[.slice a len cap] w fun e w' => e = .returned (.func (.func 82) #[] #[.pointer (some ⟨w.heap.size, 0, none⟩)]) ∧ w' = w.alloc (.cells #[.slice a len cap] 23) := by
  refine callsIn_of_wp Try.func50 rfl hB ?_ hro
  simp only [Try.ntmps50, List.size_toArray, List.length_cons, List.length_nil, Nat.reduceAdd, Nat.reduceSub, Array.replicate_succ, Array.replicate_zero, List.push_toArray, List.append_toArray, List.nil_append, List.cons_append]
  gi_wp2
  go_ret
  exact ⟨rfl, rfl⟩
end
/-- A loop over slices.Backward, its rounds in their order. -/
theorem rangeBackI {F : Fence} {n : Nat} (hro : F.round = none) (hn : 2 ≤ n) (h82 : F.fn 82) {g : Operand} {ps : Array Tmp} {assign body : Code} {Q : Exit → Act → World → Prop} {a : Act} {w : World}
    {Bs n₀ b off cap : Nat} {zs : List Int} (hreach : zs.length * 8 ≤ 140737488351232) (hg : a.eval g = .func (.func 82) #[] #[.pointer (some ⟨Bs, 0, none⟩)]) (hps : ps.size = 2) (hb : b < n₀) (hn₀ : n₀ ≤ w.heap.size) (hBl : Bs < w.heap.size)
    (hBs : w.cell? ⟨Bs, 0, none⟩ = some (.slice (some ⟨b, off, none⟩) zs.length cap)) (hc : ∀ j (h : j < zs.length), w.cell? ⟨b, off + j, none⟩ = some (.int .i64 zs[j]))
    (I : Nat → World → Prop) (hI : OwnFrom w.heap.size I) (h0 : I zs.length w) (a₁ : Fin zs.length → Act)
    (hassign : ∀ (l : Nat) (x : Fin zs.length) (W : World) (K : Act → World → Prop), K (a₁ x) W →
      assign.wpIn (F.inRound l) (n - 1 - 1) Try.prog (Exit.then K (fun _ _ _ => False)) { tmps := (ps.zip #[.int .i64 (x.val : Int), .int .i64 (zs[x.val]'x.isLt)]).foldl (fun t (p, v) => t.setIfInBounds p v) a.tmps, defers := [] } W)
    (hbody : ∀ (l k : Nat) (hk : k < zs.length) (W : World), I (k + 1) W → body.wpIn (F.inRound l) (n - 1 - 1) Try.prog (nrmW fun W' => KeepsFrom w.heap.size W W' ∧ KpB n₀ Bs W W' ∧ I k W') (a₁ ⟨k, hk⟩) W)
    (hdone : ∀ (D : Nat) (W : World), w.heap.size ≤ D → I 0 W → W.heap[D]? = some (.deferred (some [])) → Q .normal { a with defers := { target := .collected D, args := #[] } :: a.defers } W) :
    (Code.rangeFunc g ps assign body).wpIn F n Try.prog Q a w := by
  refine wpIn_rangeFunc fun fn hfn => ?_
  rw [hro]
  generalize hL : w.heap.size + 1 = L
  let r0 : Loop := { state := .ready, pending := none, fn, tmps := a.tmps, params := ps, assign, body, defers := w.heap.size }
  generalize hW1 : (w.alloc (.deferred (some []))).alloc (.loop r0) = W1
  have s1 : W1.heap.size = w.heap.size + 2 := by rw [← hW1]; simp
  have hl1 : W1.heap[L]? = some (.loop r0) := by
    have := World.alloc_heap_new (w.alloc (.deferred (some []))) (.loop r0)
    rw [World.size_alloc, hL, hW1] at this
    exact this
  have hd1 : W1.heap[w.heap.size]? = some (.deferred (some [])) := by
    rw [← hW1]
    exact (Below.heap_alloc _ _ _ (by simp)).trans (World.alloc_heap_new w _)
  have hB1 : Below w.heap.size w W1 := by rw [← hW1]; exact ((Below.refl _ w).alloc (Nat.le_refl _) _).alloc (by simp) _
  refine ⟨L, [{ target := .collected w.heap.size, args := #[] }], W1, { target := .fn (.func 82) #[.pointer (some ⟨Bs, 0, none⟩)], args := #[.func (.yield L) #[] #[]] }, W1, 82, #[.func (.yield L) #[] #[], .pointer (some ⟨Bs, 0, none⟩)], W1, ?_, ?_, ?_, ?_, fun _ => by omega, ?_⟩
  · rw [run_enterLoop_outer, hW1, hL]
  · simp only [resolve, hg]
    simp [go_sem]
  · intro f' hf'
    simp [Target.leads] at hf'
    subst hf'
    exact h82
  · simp [invoke, go_sem, enters_of Try.func82 (by kernel_rfl) rfl]
  · have hK : ∀ (X : World) (j : Nat) (o o' : Loop), w.heap.size ≤ j → X.heap[j]? = some (.loop o) → KpB n₀ Bs X (X.putObj j (.loop o')) := fun X j o o' hj ho => ⟨belowK_b (w := w) hn₀ X j _ _ hj ho rfl rfl, World.putObj_heap_other (by omega)⟩
    refine (backI_in F (n - 1) h82 hro (by omega) L Bs n₀ b off cap zs hreach hb (fun k W => I k W ∧ W.heap[L]? = some (.loop r0) ∧ W.heap[w.heap.size]? = some (.deferred (some []))) ?_ W1
      ((hB1.cell (p := ⟨Bs, 0, none⟩) hBl).trans hBs) (fun j hj => (hB1.cell (p := ⟨b, off + j, none⟩) (by show b < _; omega)).trans (hc j hj)) ⟨by rw [← hW1]; exact hI.alloc _ (hI.alloc _ h0), hl1, hd1⟩).mono ?_
    · rintro k hk W ⟨hi, hl, hd⟩
      have hlt := (Array.getElem?_eq_some_iff.1 hl).1
      refine ⟨_, _, _, _, run_yield (r := r0) hl (by rw [show r0.params = ps from rfl, hps]; rfl), roundIn_of_wpIn hfn (hassign L ⟨k, hk⟩ W _ ⟨_, run_beginRound hl rfl, ?_⟩)⟩
      have hi2 := hI.putObj (.loop { r0 with state := .busy }) hi (by omega) hl rfl
      have hl2 : (W.putObj L (.loop { r0 with state := .busy })).heap[L]? = some (.loop { r0 with state := .busy }) := World.putObj_heap_same hlt
      have hd2 : (W.putObj L (.loop { r0 with state := .busy })).heap[w.heap.size]? = some (.deferred (some [])) := (World.putObj_heap_other (by omega)).trans hd
      refine wpIn_mono (hbody L k hk _ hi2) ?_
      intro e a3 W3 hp
      cases e with
      | normal =>
        obtain ⟨k1, k2, k3⟩ := hp
        have hl3 := k1.same _ _ (by omega) hl2 rfl
        have hd3 := k1.same _ _ (Nat.le_refl _) hd2 rfl
        exact ⟨_, _, run_endRound none hl3, rfl, ⟨hI.putObj _ k3 (by omega) hl3 rfl, World.putObj_heap_same (Array.getElem?_eq_some_iff.1 hl3).1, (World.putObj_heap_other (by omega)).trans hd3⟩,
          ((hK W L _ _ (by omega) hl).trans k2).trans (hK W3 L _ _ (by omega) hl3)⟩
      | _ => exact hp.elim
    · rintro e W2 ⟨⟨v, rfl⟩, hi, hl, hd⟩
      exact ⟨none, _, run_endLoop hl (by simp [r0]), hdone _ _ (Nat.le_refl _) (hI.putObj _ hi (by omega) hl rfl) ((World.putObj_heap_other (by omega)).trans hd)⟩
end Go.Proofs.Ytnlbhjmbaedadaa
set_option linter.unusedVariables false
set_option linter.unusedSimpArgs false
set_option maxRecDepth 100000
namespace Go.Proofs.Ytnlbhjmbaedadaa
open Go.RowKit Go.Shelf Go.Vi
noncomputable def h8 : Code := cB (cB (cB (cB (cB (cB (bodyOf Try.f8))))))
noncomputable def h8r : Code := cB (cB h8)
/-- What has come of the opposite order, when the numbers from place k on have been taken. -/
def bk0 (zs : List Int) (L : Int) (k : Nat) : List Int := ((zs.drop k).reverse).map fun i => wrap64 (wrap64 (L - 1) - i)
def bc (zs : List Int) (L : Int) (k : Nat) : List Value := (bk0 zs L k).map fun i => .int .i64 i
theorem bc_all (zs : List Int) (L : Int) : bc zs L zs.length = [] := by simp [bc, bk0]
theorem bc_step (zs : List Int) (L : Int) (k : Nat) (hk : k < zs.length) : bc zs L k = bc zs L (k + 1) ++ [.int .i64 (wrap64 (wrap64 (L - 1) - zs[k]))] := by
  unfold bc bk0
  rw [List.drop_eq_getElem_cons hk, List.reverse_cons, List.map_append, List.map_append]
  rfl
section
attribute [local go_sem] Oper.semAt_some
set_option maxHeartbeats 8000000 in
theorem back8 {n : Nat} (hn : 4 ≤ n) {Q : Exit → Act → World → Prop} {x0 x1 x2 x3 x4 x6 x7 x8 x9 x11 x12 x13 x14 x15 x16 x17 x18 x19 x20 x21 x22 x23 x24 x25 x26 x27 x28 x29 x30 x31 x32 x33 x34 x35 x36 x37 x38 x39 x40 x41 x42 x43 x44 x45 x46 x47 x48 x49 x50 x51 x52 x53 x54 x55 x56 x57 x58 x59 x60 x61 x62 x63 x64 x65 x66 x67 x68 x69 x70 x71 x72 x73 x74 x75 x76 x77 x78 x79 x80 x81 x82 x83 x84 x85 x86 x87 x88 x89 x90 x91 x92 x93 x94 x95 x96 x97 x98 x99 x100 x101 x102 x103 x104 x105 x106 x107 x108 x109 x110 x111 x112 x113 x114 x115 x116 x117 x118 x119 x120 x121 x122 x123 x124 x125 x126 x127 x128 x129 x130 x131 x132 x133 x134 x135 x136 x137 x138 x139 : Value} {zs : List Int} {b off cap Lb lL lcap : Nat} {la : Option Addr} {L : Int} {w : World} (hLL : (lL : Int) = L) (hb : b < w.heap.size) (hLb : Lb < w.heap.size) (hlen : zs.length ≤ 1000000)
    (hl : w.cell? ⟨Lb, 0, none⟩ = some (.slice la lL lcap)) (hcs : ∀ j (h : j < zs.length), w.cell? ⟨b, off + j, none⟩ = some (.int .i64 zs[j]))
    (hK : ∀ D W, (∃ v, Boxed W w.heap.size 23 v ∧ W.ownsRow w.heap.size 3 1 v zs.length (bc zs L 0)) → Below w.heap.size w W → w.heap.size ≤ D → W.heap[D]? = some (.deferred (some [])) →
      h8r.wpIn Fence.wide n Try.prog Q { tmps := #[x0, x1, x2, x3, x4, .pointer (some ⟨Lb, 0, none⟩), x6, x7, x8, x9, .slice (some ⟨b, off, none⟩) zs.length cap, .pointer (some ⟨w.heap.size, 0, none⟩), x12, x13, x14, x15, x16, x17, x18, x19, x20, x21, x22, x23, x24, x25, x26, x27, x28, x29, x30, x31, x32, x33, x34, x35, x36, x37, x38, x39, x40, x41, x42, x43, x44, x45, x46, x47, x48, x49, x50, x51, x52, x53, x54, x55, x56, x57, x58, x59, x60, x61, x62, x63, x64, .slice (some ⟨b, off, none⟩) zs.length cap, .func (.func 82) #[] #[.pointer (some ⟨w.heap.size + 1, 0, none⟩)], x67, x68, x69, x70, x71, x72, x73, x74, x75, x76, x77, x78, x79, x80, x81, x82, x83, x84, x85, x86, x87, x88, x89, x90, x91, x92, x93, x94, x95, x96, x97, x98, x99, x100, x101, x102, x103, x104, x105, x106, x107, x108, x109, x110, x111, x112, x113, x114, x115, x116, x117, x118, x119, x120, x121, x122, x123, x124, x125, x126, x127, x128, x129, x130, x131, x132, x133, x134, x135, x136, x137, x138, x139], defers := [{ target := .collected D, args := #[] }] } W) :
    h8.wpIn Fence.wide n Try.prog Q { tmps := #[x0, x1, x2, x3, x4, .pointer (some ⟨Lb, 0, none⟩), x6, x7, x8, x9, .slice (some ⟨b, off, none⟩) zs.length cap, x11, x12, x13, x14, x15, x16, x17, x18, x19, x20, x21, x22, x23, x24, x25, x26, x27, x28, x29, x30, x31, x32, x33, x34, x35, x36, x37, x38, x39, x40, x41, x42, x43, x44, x45, x46, x47, x48, x49, x50, x51, x52, x53, x54, x55, x56, x57, x58, x59, x60, x61, x62, x63, x64, x65, x66, x67, x68, x69, x70, x71, x72, x73, x74, x75, x76, x77, x78, x79, x80, x81, x82, x83, x84, x85, x86, x87, x88, x89, x90, x91, x92, x93, x94, x95, x96, x97, x98, x99, x100, x101, x102, x103, x104, x105, x106, x107, x108, x109, x110, x111, x112, x113, x114, x115, x116, x117, x118, x119, x120, x121, x122, x123, x124, x125, x126, x127, x128, x129, x130, x131, x132, x133, x134, x135, x136, x137, x138, x139], defers := [] } w := by
  obtain ⟨i0, hi, hz0, hz1, hz2⟩ := info_parts (show (Try.prog.info? 3).map (fun i => (i.zero, i.size, i.bytes)) = some (some (.int .i64 0), 1, 8) by kernel_rfl)
  have h50 : Fence.wide.fn 50 := trivial
  have h1n : 1 ≤ n := by omega
  have h2n : 1 ≤ n - 1 - 1 := by omega
  have hro : Fence.wide.round = none := rfl
  have hu22 : Try.prog.underlying 23 = some (.slice 3) := by kernel_rfl
  have hK2 : ∀ (a : Act) (W : World), (a = { tmps := #[x0, x1, x2, x3, x4, .pointer (some ⟨Lb, 0, none⟩), x6, x7, x8, x9, .slice (some ⟨b, off, none⟩) zs.length cap, .pointer (some ⟨w.heap.size, 0, none⟩), x12, x13, x14, x15, x16, x17, x18, x19, x20, x21, x22, x23, x24, x25, x26, x27, x28, x29, x30, x31, x32, x33, x34, x35, x36, x37, x38, x39, x40, x41, x42, x43, x44, x45, x46, x47, x48, x49, x50, x51, x52, x53, x54, x55, x56, x57, x58, x59, x60, x61, x62, x63, x64, .slice (some ⟨b, off, none⟩) zs.length cap, .func (.func 82) #[] #[.pointer (some ⟨w.heap.size + 1, 0, none⟩)], x67, x68, x69, x70, x71, x72, x73, x74, x75, x76, x77, x78, x79, x80, x81, x82, x83, x84, x85, x86, x87, x88, x89, x90, x91, x92, x93, x94, x95, x96, x97, x98, x99, x100, x101, x102, x103, x104, x105, x106, x107, x108, x109, x110, x111, x112, x113, x114, x115, x116, x117, x118, x119, x120, x121, x122, x123, x124, x125, x126, x127, x128, x129, x130, x131, x132, x133, x134, x135, x136, x137, x138, x139], defers := a.defers } ∧ ∃ D, a.defers = [{ target := .collected D, args := #[] }] ∧ (∃ v, Boxed W w.heap.size 23 v ∧ W.ownsRow w.heap.size 3 1 v zs.length (bc zs L 0)) ∧ Below w.heap.size w W ∧ w.heap.size ≤ D ∧ W.heap[D]? = some (.deferred (some []))) → h8r.wpIn Fence.wide n Try.prog Q a W := by
    rintro a W ⟨e, D, hd, h1, h2, h3, h4⟩
    rw [e, hd]
    exact hK D W h1 h2 h3 h4
  have e8 : h8 = .seq (cA h8) (.seq (cA (cB h8)) h8r) := by kernel_rfl
  rw [e8]
  generalize hR : h8r = R at hK2 ⊢
  clear hK hR e8
  unfold h8
  simp only [cA, cB, bodyOf, Try.f8]
  gi_wp2_with (gi_at_call 50; refine (backI0_in Fence.wide (n - 1) h50 hro _ _ _ _).mono ?_; rintro e w' ⟨rfl, rfl⟩)
  have bO := Boxed.new w 23 (.slice none 0 0)
  have bN := Boxed.new (w.alloc (.cells #[.slice none 0 0] 23)) 23 (.slice (some ⟨b, off, none⟩) zs.length cap)
  rw [World.size_alloc] at bN
  have hB0 : Below w.heap.size w ((w.alloc (.cells #[.slice none 0 0] 23)).alloc (.cells #[.slice (some ⟨b, off, none⟩) zs.length cap] 23)) := ((Below.refl _ w).alloc (by omega) _).alloc (by simp) _
  have hcs0 : ∀ j (h : j < zs.length), ∀ W, Below w.heap.size w W → W.cell? ⟨b, off + j, none⟩ = some (.int .i64 zs[j]) := fun j hj W hW =>
    (hW.cell (p := ⟨b, off + j, none⟩) hb).trans (hcs j hj)
  refine rangeBackI (F := Fence.wide) (n := n) rfl (by omega) trivial (zs := zs) (b := b) (off := off) (cap := cap) (Bs := w.heap.size + 1) (n₀ := w.heap.size) (by omega) rfl rfl hb (by simp; omega) (by simp) bN.cell (fun j hj => hcs0 j hj _ hB0)
    (fun k W => ((∃ v, Boxed W w.heap.size 23 v ∧ W.ownsRow w.heap.size 3 1 v (zs.length - k) (bc zs L k)) ∧ Below w.heap.size w W) ∧ Boxed W (w.heap.size + 1) 23 (.slice (some ⟨b, off, none⟩) zs.length cap)) ?own ?start
    (fun x => { tmps := #[x0, x1, x2, x3, x4, .pointer (some ⟨Lb, 0, none⟩), x6, x7, x8, x9, .slice (some ⟨b, off, none⟩) zs.length cap, .pointer (some ⟨w.heap.size, 0, none⟩), x12, .int .i64 zs[x.val], x14, x15, x16, x17, x18, x19, x20, x21, x22, x23, x24, x25, x26, x27, x28, x29, x30, x31, x32, x33, x34, x35, x36, x37, x38, x39, x40, x41, x42, x43, x44, x45, x46, x47, x48, x49, x50, x51, x52, x53, x54, x55, x56, x57, x58, x59, x60, x61, x62, x63, x64, .slice (some ⟨b, off, none⟩) zs.length cap, .func (.func 82) #[] #[.pointer (some ⟨w.heap.size + 1, 0, none⟩)], .int .i64 (x.val : Int), .int .i64 zs[x.val], x69, x70, x71, x72, x73, x74, x75, x76, x77, x78, x79, x80, x81, x82, x83, x84, x85, x86, x87, x88, x89, x90, x91, x92, x93, x94, x95, x96, x97, x98, x99, x100, x101, x102, x103, x104, x105, x106, x107, x108, x109, x110, x111, x112, x113, x114, x115, x116, x117, x118, x119, x120, x121, x122, x123, x124, x125, x126, x127, x128, x129, x130, x131, x132, x133, x134, x135, x136, x137, x138, x139], defers := [] })
    ?assign ?body ?done
  case own => exact OwnFrom.box <| OwnFrom.and (Own.from (by simpa using holdsRow_own (β := Nat) w.heap.size w.heap.size 23 3 1 (fun k => zs.length - k) (fun k => bc zs L k) (fun _ _ => True)) _) (ownFrom_below (Nat.le_refl _) (by simp; omega))
  case start => exact ⟨⟨⟨_, bO.alloc _, by rw [bc_all, Nat.sub_self]; exact World.ownsRow_nil _ _ _ _⟩, hB0⟩, bN⟩
  case assign =>
    intro l x W K hK
    gi_wp2
    exact hK
  case body =>
    rintro l k hk W ⟨⟨⟨v, hv, hrow⟩, hB⟩, hN⟩
    have hc := hv.cell
    have hBs := hB.size
    have hlW : W.cell? ⟨Lb, 0, none⟩ = some (.slice la lL lcap) := (hB.cell (p := ⟨Lb, 0, none⟩) hLb).trans hl
    have hcc : ∀ (W1 : World) (x : Int) (j : Nat) (u : Value), [Value.int .i64 x][j]? = some u → (W1.alloc (.cells #[.int .i64 x] 3)).cell? ((⟨W1.heap.size, 0, none⟩ : Addr).add j) = some u := by
      intro W1 x j u hu
      have hnew := World.alloc_heap_new W1 (.cells #[.int .i64 x] 3)
      rw [Go.Vi.add_eq]
      show (match (W1.alloc (.cells #[.int .i64 x] 3)).heap[W1.heap.size]? with | some (.cells c _ _) => c[0 + j]? | _ => none) = _
      rw [hnew]
      match j, hu with
      | 0, hu => cases hu; rfl
    gi_wp2_with (gi_at_builtin; refine wpListIn_append_own _ rfl _ _ 23 rfl w.heap.size 3 i0 (.int .i64 0) 1 8 hu22 hi hz0 hz1 hz2 rfl (by decide) _ _ _ rfl (hrow.alloc _) ⟨W.heap.size, 0, none⟩ 1 1 [.int .i64 (wrap64 (wrap64 (L - 1) - zs[k]))] rfl rfl (hcc _ _) (by simp [Value.oneCell']) (by unfold maxLen; omega) (by omega) (by simp; omega) ?_; intro v' w2 hown' hgrow _; obtain ⟨g', cap', rfl⟩ := ownsRow_succ hown'; obtain ⟨hv1, hv2, hr2, hk2, hb2⟩ := hv.appended (by decide) hrow hB.size (by omega) hown' hgrow; have hc1 := hv1.cell; have hf1 := hv1.frozen)
    have hne := hN.not_row (by decide) hrow
    have hN2 := (hN.alloc _).kept hgrow hne
    have hN3 : Boxed (w2.setCell ⟨w.heap.size, 0, none⟩ (.slice (some ⟨g', 0, none⟩) (zs.length - (k + 1) + 1) cap')) (w.heap.size + 1) 23 (.slice (some ⟨b, off, none⟩) zs.length cap) :=
      (heap_setCell_other w2 ⟨w.heap.size, 0, none⟩ (w.heap.size + 1) _ (by simp only []; omega)).trans hN2
    refine ⟨hk2.from _, ⟨hb2, hN3.trans hN.symm⟩, ⟨⟨_, hv2, ?_⟩, hB.trans hb2⟩, hN3⟩
    rw [bc_step zs L k hk, show zs.length - k = zs.length - (k + 1) + 1 by omega]
    exact hr2
  case done =>
    rintro D W hD ⟨⟨⟨v, hv, hrow⟩, hB⟩, hN⟩ hK
    simp only [World.size_alloc] at hD
    gi_wp2
    exact hK2 _ _ ⟨rfl, D, rfl, ⟨v, hv, hrow⟩, hB, by omega, hK⟩
end
end Go.Proofs.Ytnlbhjmbaedadaa
/-
  Vi: marked code that a text of ours walks: it makes one thing, and may leave some temporaries in disorder.
-/
set_option linter.unusedVariables false
set_option linter.unusedSimpArgs false
namespace Go.Vi

/-- Temporaries of which nothing is known any more. -/
def unk (T : List Nat) (tm : List V) : List V := T.foldl (fun l t => l.set t .undef) tm

theorem unk_len : ∀ (T : List Nat) (tm : List V), (unk T tm).length = tm.length
  | [], _ => rfl
  | t :: T, tm => by
    show (unk T (tm.set t .undef)).length = _
    rw [unk_len T, List.length_set]

theorem unk_get : ∀ (T : List Nat) (tm : List V) {t : Nat} {v : V}, (unk T tm)[t]? = some v → v = .undef ∨ (t ∉ T ∧ tm[t]? = some v)
  | [], tm, t, v, h => .inr ⟨by simp, h⟩
  | j :: T, tm, t, v, h => by
    have h : (unk T (tm.set j .undef))[t]? = some v := h
    rcases unk_get T _ h with h | ⟨h1, h2⟩
    · exact .inl h
    · rw [List.getElem?_set] at h2
      split at h2
      · split at h2
        · cases h2; exact .inl rfl
        · cases h2
      · rename_i hj
        exact .inr ⟨by simp only [List.mem_cons, not_or]; exact ⟨fun e => hj e.symm, h1⟩, h2⟩

/-- The state behind marked code: the thing with key k, in temporary d. -/
def hookSt (T : List Nat) (d k : Nat) (v : V) (ob : O) (st : St) : Option St :=
  bif Nat.blt k pinLo && noRef k ((unk T st.tm).set d .undef) then some { tm := (unk T st.tm).set d v, hp := Vi.upd st.hp k ob } else none

theorem Inv.withDs {x : Cx} {γ : Gam} {H : Heap} {w : World} (h : Inv x γ H w) (ds : List Deferred) : Inv { x with ds := ds } γ H w :=
  ⟨h.size, h.os, h.tape, h.output, h.blk, h.own, h.rng, h.inj, h.pin⟩

/-- The call's surroundings, from here on: what is not the call's own may turn no more. -/
def Cx.anew (x : Cx) (γ : Gam) (w : World) (ds : List Deferred) : Cx where
  B := w.heap.size
  M := fun b => ∃ k c, γ k = some (.at b c)
  A0 := fun b => Av x γ w b ∨ ∃ k c, γ k = some (.at b c)
  w0 := w
  ma := fun _ h => .inr h
  pin := x.pin
  pinlo := x.pinlo
  ds := ds

theorem Av.anew {x : Cx} {γ : Gam} {w : World} {ds : List Deferred} (b : Nat) (h : Av x γ w b) : Av (x.anew γ w ds) γ w b ∧ w.heap[b]? = w.heap[b]? :=
  ⟨⟨h.1, fun _ => .inl h, h.2.2⟩, rfl⟩

theorem RS.anew {x : Cx} {γ : Gam} {st : St} {a : Act} {w : World} (h : RS x γ st a w) : RS (x.anew γ w x.ds) γ st a w where
  inv := ⟨Nat.le_refl _, rfl, rfl, rfl, fun _ _ _ => rfl, fun k i hk => by
    obtain ⟨ob, h1, h2⟩ := h.inv.own k i hk
    exact ⟨ob, h1, objR.mono Av.anew ob i (fun _ _ _ => rfl) h2⟩, fun k b c hk => ⟨.inr ⟨k, c, hk⟩, (h.inv.rng k b c hk).2⟩, h.inv.inj, h.inv.pin⟩
  len := h.len
  tm := fun t v hv => VR.mono Av.anew v _ (h.tm t v hv)
  nod := h.nod

/-- A block of deferred calls is nothing of the call's own. -/
theorem Inv.not_own {x : Cx} {γ : Gam} {H : Heap} {w : World} (h : Inv x γ H w) {D : Nat} {l : Option (List Deferred)} (hD : w.heap[D]? = some (.deferred l)) : ¬ ∃ k c, γ k = some (.at D c) := by
  rintro ⟨k, c, hk⟩
  obtain ⟨ob, h1, h2⟩ := h.own k _ hk
  cases ob <;> simp only [objR] at h2
  all_goals first
    | (obtain ⟨_, _, e, _⟩ := h2; rw [hD] at e; cases e)
    | (obtain ⟨_, _, _, _, e, _⟩ := h2; rw [hD] at e; cases e)
    | (obtain ⟨_, _, e⟩ := h2; rw [hD] at e; cases e)

theorem RS.hook {x : Cx} {γ : Gam} {st st' : St} {a a' : Act} {w w' : World} {T : List Nat} {d k B c : Nat} {v : V} {ob : O} (h : RS x γ st a w) (he : hookSt T d k v ob st = some st') (g : Grows w w') (hs : a'.tmps.size = a.tmps.size)
    (ht : ∀ t, t ∉ T → a'.tmps.getD t undef = a.tmps.getD t undef) (hdT : d ∈ T) (hB : w.heap.size ≤ B ∧ B < w'.heap.size) (hob : objR w' (Av x (gset γ k (.at B c)) w') ob (.at B c))
    (hv : d < a'.tmps.size → VR (gset γ k (.at B c)) w' (Av x (gset γ k (.at B c)) w') (Vi.upd st.hp k ob) v (a'.tmps.getD d undef)) : ∃ γ', RS { x with ds := a'.defers } γ' st' a' w' := by
  unfold hookSt at he
  obtain ⟨hc, he⟩ := cond_some he rfl
  rw [Bool.and_eq_true] at hc
  cases he
  have hn : ∀ b c', Info.at B c = .at b c' → w.heap.size ≤ b ∧ b < w'.heap.size := fun b c' e => by cases e; exact hB
  refine ⟨gset γ k (.at B c), (h.inv.set g (Nat.le_of_ble_eq_true hc.1) hn hob).withDs _, ?_, ?_, rfl⟩
  · rw [hs, ← h.len]
    simp [unk_len]
  · intro t y hy
    simp only [List.getElem?_set] at hy
    split at hy
    · rename_i hdt
      split at hy
      · rename_i hlt
        cases hy
        subst hdt
        exact hv (by rw [hs, ← h.len, ← unk_len T]; exact hlt)
      · cases hy
    · rename_i hdt
      rcases unk_get T _ hy with hu | ⟨h1, h2⟩
      · subst hu; trivial
      · rw [ht t h1]
        refine VR.set g (fun b c' hb => (hn b c' hb).1) y _ (noRef_get (t := t) hc.2 ?_) (h.tm t y h2)
        rw [List.getElem?_set, if_neg hdt]
        exact hy

section
variable {P : Program} {E : Env} {x : Cx} {ρ : Type} {r : ρ}
def Ann.isH : Ann → Bool | .h _ => true | _ => false

/-- A sequence whose second part is the rest of all: what it is, its own proof says. -/
theorem seq_tail (hT : TabOK P E.T) (hE : EqsOK P E.T) (hphi : EnvOK P E) (hpar : EnvPar E) (hm : P.follows .mixedOrders = true) {sc : Scp} {c : Code} {an : Ann} {k : St → Option ρ} {rt : St → Option ρ} {Q : Exit → Act → World → Prop} {st : St} {γ : Gam} {a : Act} {w : World}
    (hc : c = .seq (cA c) (cB c)) (hn : an.isH = false) (ho : occ (cA c) an.fst = []) (h : runG E sc c an k (fun _ _ => none) rt st = some r) (hr : RS x γ st a w) (hrt : ∀ st γ a w, rt st = some r → RS x γ st a w → Q .ret a w)
    (hb : ∀ st γ a w, runG E sc (cB c) an.snd k (fun _ _ => none) rt st = some r → RS x γ st a w → (cB c).wp P Q a w) : c.wp P Q a w := by
  have e : runG E sc (.seq (cA c) (cB c)) an k (fun _ _ => none) rt st = runG E sc (cA c) an.fst (holdK an E.hold fun s => runG E sc (cB c) an.snd k (fun _ _ => none) rt s) (fun _ _ => none) rt st := by
    cases an <;> first | rfl | cases hn
  rw [hc, e] at h
  rw [hc]
  refine wp_seq (runG_sound hT hE hphi hpar hm (cA c) _ (fun p hp => by rw [ho] at hp; cases hp) _ _ _ _ st γ a w h hr ⟨fun st' γ' a' w' hk hr' => hb st' γ' a' w' (holdK_some hk) hr', fun j st' γ' a' w' hk hr' => (by cases hk), fun st' γ' a' w' hk hr' => hrt st' γ' a' w' hk hr'⟩)
end
end Go.Vi
set_option linter.unusedVariables false
set_option linter.unusedSimpArgs false
set_option maxRecDepth 100000
namespace Go.Proofs.Ytnlbhjmbaedadaa
open Go.Vi
/-- What the marked code does to a state. -/
def hk8 {ρ : Type} (st : St) (K : St → Option ρ) : Option ρ :=
  bif Nat.beq st.tm.length 140 then
    match (st.tm[10]? : Option V), (st.tm[5]? : Option V) with
    | some v, some (.ptr j 0) =>
      match elemsAs (.int .i64) st.hp v, st.hp j with
      | some xs, some (.box [.sl e ys t]) => bif decide (0 < xs.length) && decide (xs.length ≤ 1000000) then (hookSt [11, 65, 66] 11 11 (.ptr 11 0) (.box [.sl (.int .i64) (bk0 xs (ys.length : Int) 0) false]) st).bind K else none
      | _, _ => none
    | _, _ => none
  else none
noncomputable def sc8 (E : Env) (an : Ann) : Scp := fun _ _ _ k ex rt st => hk8 st fun st' => runG E noScope h8r an k ex rt st'
theorem eat {α : Type} {l : List α} {n : Nat} (h : l.length = n + 1) : ∃ x t, l = x :: t ∧ t.length = n := by
  cases l with
  | nil => cases h
  | cons x t => exact ⟨x, t, rfl, by simpa using h⟩
/-- The marked code, with a frame of which only its size is known. -/
theorem walk8 {Q : Exit → Act → World → Prop} {a : Act} {zs : List Int} {b off cap Lb lL lcap : Nat} {la : Option Addr} {w : World} (hn : a.tmps.size = 140) (hd : a.defers = []) (h5 : a.tmps.getD 5 undef = .pointer (some ⟨Lb, 0, none⟩)) (h10 : a.tmps.getD 10 undef = .slice (some ⟨b, off, none⟩) zs.length cap)
    (hb : b < w.heap.size) (hLb : Lb < w.heap.size) (hlen : zs.length ≤ 1000000)
    (hl : w.cell? ⟨Lb, 0, none⟩ = some (.slice la lL lcap)) (hcs : ∀ j (h : j < zs.length), w.cell? ⟨b, off + j, none⟩ = some (.int .i64 zs[j]))
    (hK : ∀ D W a', (∃ v, Boxed W w.heap.size 23 v ∧ W.ownsRow w.heap.size 3 1 v zs.length (bc zs (lL : Int) 0)) → RowKit.Below w.heap.size w W → w.heap.size ≤ D → W.heap[D]? = some (.deferred (some [])) →
      a'.defers = [{ target := .collected D, args := #[] }] → a'.tmps.size = a.tmps.size → (∀ t, t ∉ [11, 65, 66] → a'.tmps.getD t undef = a.tmps.getD t undef) → a'.tmps.getD 11 undef = .pointer (some ⟨w.heap.size, 0, none⟩) →
      h8r.wp Try.prog Q a' W) : h8.wp Try.prog Q a w := by
  obtain ⟨tm, df⟩ := a
  obtain ⟨l⟩ := tm
  simp only at hd hn h5 h10 hK
  subst hd
  simp only [List.size_toArray] at hn
  obtain ⟨x0, l, rfl, hm0⟩ := eat hn
  obtain ⟨x1, l, rfl, hm1⟩ := eat hm0
  obtain ⟨x2, l, rfl, hm2⟩ := eat hm1
  obtain ⟨x3, l, rfl, hm3⟩ := eat hm2
  obtain ⟨x4, l, rfl, hm4⟩ := eat hm3
  obtain ⟨x5, l, rfl, hm5⟩ := eat hm4
  obtain ⟨x6, l, rfl, hm6⟩ := eat hm5
  obtain ⟨x7, l, rfl, hm7⟩ := eat hm6
  obtain ⟨x8, l, rfl, hm8⟩ := eat hm7
  obtain ⟨x9, l, rfl, hm9⟩ := eat hm8
  obtain ⟨x10, l, rfl, hm10⟩ := eat hm9
  obtain ⟨x11, l, rfl, hm11⟩ := eat hm10
  obtain ⟨x12, l, rfl, hm12⟩ := eat hm11
  obtain ⟨x13, l, rfl, hm13⟩ := eat hm12
  obtain ⟨x14, l, rfl, hm14⟩ := eat hm13
  obtain ⟨x15, l, rfl, hm15⟩ := eat hm14
  obtain ⟨x16, l, rfl, hm16⟩ := eat hm15
  obtain ⟨x17, l, rfl, hm17⟩ := eat hm16
  obtain ⟨x18, l, rfl, hm18⟩ := eat hm17
  obtain ⟨x19, l, rfl, hm19⟩ := eat hm18
  obtain ⟨x20, l, rfl, hm20⟩ := eat hm19
  obtain ⟨x21, l, rfl, hm21⟩ := eat hm20
  obtain ⟨x22, l, rfl, hm22⟩ := eat hm21
  obtain ⟨x23, l, rfl, hm23⟩ := eat hm22
  obtain ⟨x24, l, rfl, hm24⟩ := eat hm23
  obtain ⟨x25, l, rfl, hm25⟩ := eat hm24
  obtain ⟨x26, l, rfl, hm26⟩ := eat hm25
  obtain ⟨x27, l, rfl, hm27⟩ := eat hm26
  obtain ⟨x28, l, rfl, hm28⟩ := eat hm27
  obtain ⟨x29, l, rfl, hm29⟩ := eat hm28
  obtain ⟨x30, l, rfl, hm30⟩ := eat hm29
  obtain ⟨x31, l, rfl, hm31⟩ := eat hm30
  obtain ⟨x32, l, rfl, hm32⟩ := eat hm31
  obtain ⟨x33, l, rfl, hm33⟩ := eat hm32
  obtain ⟨x34, l, rfl, hm34⟩ := eat hm33
  obtain ⟨x35, l, rfl, hm35⟩ := eat hm34
  obtain ⟨x36, l, rfl, hm36⟩ := eat hm35
  obtain ⟨x37, l, rfl, hm37⟩ := eat hm36
  obtain ⟨x38, l, rfl, hm38⟩ := eat hm37
  obtain ⟨x39, l, rfl, hm39⟩ := eat hm38
  obtain ⟨x40, l, rfl, hm40⟩ := eat hm39
  obtain ⟨x41, l, rfl, hm41⟩ := eat hm40
  obtain ⟨x42, l, rfl, hm42⟩ := eat hm41
  obtain ⟨x43, l, rfl, hm43⟩ := eat hm42
  obtain ⟨x44, l, rfl, hm44⟩ := eat hm43
  obtain ⟨x45, l, rfl, hm45⟩ := eat hm44
  obtain ⟨x46, l, rfl, hm46⟩ := eat hm45
  obtain ⟨x47, l, rfl, hm47⟩ := eat hm46
  obtain ⟨x48, l, rfl, hm48⟩ := eat hm47
  obtain ⟨x49, l, rfl, hm49⟩ := eat hm48
  obtain ⟨x50, l, rfl, hm50⟩ := eat hm49
  obtain ⟨x51, l, rfl, hm51⟩ := eat hm50
  obtain ⟨x52, l, rfl, hm52⟩ := eat hm51
  obtain ⟨x53, l, rfl, hm53⟩ := eat hm52
  obtain ⟨x54, l, rfl, hm54⟩ := eat hm53
  obtain ⟨x55, l, rfl, hm55⟩ := eat hm54
  obtain ⟨x56, l, rfl, hm56⟩ := eat hm55
  obtain ⟨x57, l, rfl, hm57⟩ := eat hm56
  obtain ⟨x58, l, rfl, hm58⟩ := eat hm57
  obtain ⟨x59, l, rfl, hm59⟩ := eat hm58
  obtain ⟨x60, l, rfl, hm60⟩ := eat hm59
  obtain ⟨x61, l, rfl, hm61⟩ := eat hm60
  obtain ⟨x62, l, rfl, hm62⟩ := eat hm61
  obtain ⟨x63, l, rfl, hm63⟩ := eat hm62
  obtain ⟨x64, l, rfl, hm64⟩ := eat hm63
  obtain ⟨x65, l, rfl, hm65⟩ := eat hm64
  obtain ⟨x66, l, rfl, hm66⟩ := eat hm65
  obtain ⟨x67, l, rfl, hm67⟩ := eat hm66
  obtain ⟨x68, l, rfl, hm68⟩ := eat hm67
  obtain ⟨x69, l, rfl, hm69⟩ := eat hm68
  obtain ⟨x70, l, rfl, hm70⟩ := eat hm69
  obtain ⟨x71, l, rfl, hm71⟩ := eat hm70
  obtain ⟨x72, l, rfl, hm72⟩ := eat hm71
  obtain ⟨x73, l, rfl, hm73⟩ := eat hm72
  obtain ⟨x74, l, rfl, hm74⟩ := eat hm73
  obtain ⟨x75, l, rfl, hm75⟩ := eat hm74
  obtain ⟨x76, l, rfl, hm76⟩ := eat hm75
  obtain ⟨x77, l, rfl, hm77⟩ := eat hm76
  obtain ⟨x78, l, rfl, hm78⟩ := eat hm77
  obtain ⟨x79, l, rfl, hm79⟩ := eat hm78
  obtain ⟨x80, l, rfl, hm80⟩ := eat hm79
  obtain ⟨x81, l, rfl, hm81⟩ := eat hm80
  obtain ⟨x82, l, rfl, hm82⟩ := eat hm81
  obtain ⟨x83, l, rfl, hm83⟩ := eat hm82
  obtain ⟨x84, l, rfl, hm84⟩ := eat hm83
  obtain ⟨x85, l, rfl, hm85⟩ := eat hm84
  obtain ⟨x86, l, rfl, hm86⟩ := eat hm85
  obtain ⟨x87, l, rfl, hm87⟩ := eat hm86
  obtain ⟨x88, l, rfl, hm88⟩ := eat hm87
  obtain ⟨x89, l, rfl, hm89⟩ := eat hm88
  obtain ⟨x90, l, rfl, hm90⟩ := eat hm89
  obtain ⟨x91, l, rfl, hm91⟩ := eat hm90
  obtain ⟨x92, l, rfl, hm92⟩ := eat hm91
  obtain ⟨x93, l, rfl, hm93⟩ := eat hm92
  obtain ⟨x94, l, rfl, hm94⟩ := eat hm93
  obtain ⟨x95, l, rfl, hm95⟩ := eat hm94
  obtain ⟨x96, l, rfl, hm96⟩ := eat hm95
  obtain ⟨x97, l, rfl, hm97⟩ := eat hm96
  obtain ⟨x98, l, rfl, hm98⟩ := eat hm97
  obtain ⟨x99, l, rfl, hm99⟩ := eat hm98
  obtain ⟨x100, l, rfl, hm100⟩ := eat hm99
  obtain ⟨x101, l, rfl, hm101⟩ := eat hm100
  obtain ⟨x102, l, rfl, hm102⟩ := eat hm101
  obtain ⟨x103, l, rfl, hm103⟩ := eat hm102
  obtain ⟨x104, l, rfl, hm104⟩ := eat hm103
  obtain ⟨x105, l, rfl, hm105⟩ := eat hm104
  obtain ⟨x106, l, rfl, hm106⟩ := eat hm105
  obtain ⟨x107, l, rfl, hm107⟩ := eat hm106
  obtain ⟨x108, l, rfl, hm108⟩ := eat hm107
  obtain ⟨x109, l, rfl, hm109⟩ := eat hm108
  obtain ⟨x110, l, rfl, hm110⟩ := eat hm109
  obtain ⟨x111, l, rfl, hm111⟩ := eat hm110
  obtain ⟨x112, l, rfl, hm112⟩ := eat hm111
  obtain ⟨x113, l, rfl, hm113⟩ := eat hm112
  obtain ⟨x114, l, rfl, hm114⟩ := eat hm113
  obtain ⟨x115, l, rfl, hm115⟩ := eat hm114
  obtain ⟨x116, l, rfl, hm116⟩ := eat hm115
  obtain ⟨x117, l, rfl, hm117⟩ := eat hm116
  obtain ⟨x118, l, rfl, hm118⟩ := eat hm117
  obtain ⟨x119, l, rfl, hm119⟩ := eat hm118
  obtain ⟨x120, l, rfl, hm120⟩ := eat hm119
  obtain ⟨x121, l, rfl, hm121⟩ := eat hm120
  obtain ⟨x122, l, rfl, hm122⟩ := eat hm121
  obtain ⟨x123, l, rfl, hm123⟩ := eat hm122
  obtain ⟨x124, l, rfl, hm124⟩ := eat hm123
  obtain ⟨x125, l, rfl, hm125⟩ := eat hm124
  obtain ⟨x126, l, rfl, hm126⟩ := eat hm125
  obtain ⟨x127, l, rfl, hm127⟩ := eat hm126
  obtain ⟨x128, l, rfl, hm128⟩ := eat hm127
  obtain ⟨x129, l, rfl, hm129⟩ := eat hm128
  obtain ⟨x130, l, rfl, hm130⟩ := eat hm129
  obtain ⟨x131, l, rfl, hm131⟩ := eat hm130
  obtain ⟨x132, l, rfl, hm132⟩ := eat hm131
  obtain ⟨x133, l, rfl, hm133⟩ := eat hm132
  obtain ⟨x134, l, rfl, hm134⟩ := eat hm133
  obtain ⟨x135, l, rfl, hm135⟩ := eat hm134
  obtain ⟨x136, l, rfl, hm136⟩ := eat hm135
  obtain ⟨x137, l, rfl, hm137⟩ := eat hm136
  obtain ⟨x138, l, rfl, hm138⟩ := eat hm137
  obtain ⟨x139, l, rfl, hm139⟩ := eat hm138
  have hn0 : l = [] := List.eq_nil_of_length_eq_zero hm139
  subst hn0
  have h5 : x5 = .pointer (some ⟨Lb, 0, none⟩) := h5
  have h10 : x10 = .slice (some ⟨b, off, none⟩) zs.length cap := h10
  subst h5
  subst h10
  refine (wpIn_wide (n := 4)).1 (back8 (by omega) rfl hb hLb hlen hl hcs ?_)
  intro D W h1 h2 h3 h4
  refine wpIn_wide.2 (hK D W _ h1 h2 h3 h4 rfl rfl ?_ rfl)
  intro t ht
  simp only [List.mem_cons, List.not_mem_nil, or_false, not_or] at ht
  obtain ⟨h11, h65, h66⟩ := ht
  have hget : ∀ (l m : List Value), l = m → l.toArray.getD t undef = m.toArray.getD t undef := fun _ _ e => by rw [e]
  have e : ([x0, x1, x2, x3, x4, .pointer (some ⟨Lb, 0, none⟩), x6, x7, x8, x9, .slice (some ⟨b, off, none⟩) zs.length cap, .pointer (some ⟨w.heap.size, 0, none⟩), x12, x13, x14, x15, x16, x17, x18, x19, x20, x21, x22, x23, x24, x25, x26, x27, x28, x29, x30, x31, x32, x33, x34, x35, x36, x37, x38, x39, x40, x41, x42, x43, x44, x45, x46, x47, x48, x49, x50, x51, x52, x53, x54, x55, x56, x57, x58, x59, x60, x61, x62, x63, x64, .slice (some ⟨b, off, none⟩) zs.length cap, .func (.func 82) #[] #[.pointer (some ⟨w.heap.size + 1, 0, none⟩)], x67, x68, x69, x70, x71, x72, x73, x74, x75, x76, x77, x78, x79, x80, x81, x82, x83, x84, x85, x86, x87, x88, x89, x90, x91, x92, x93, x94, x95, x96, x97, x98, x99, x100, x101, x102, x103, x104, x105, x106, x107, x108, x109, x110, x111, x112, x113, x114, x115, x116, x117, x118, x119, x120, x121, x122, x123, x124, x125, x126, x127, x128, x129, x130, x131, x132, x133, x134, x135, x136, x137, x138, x139] : List Value) = ((([x0, x1, x2, x3, x4, .pointer (some ⟨Lb, 0, none⟩), x6, x7, x8, x9, .slice (some ⟨b, off, none⟩) zs.length cap, x11, x12, x13, x14, x15, x16, x17, x18, x19, x20, x21, x22, x23, x24, x25, x26, x27, x28, x29, x30, x31, x32, x33, x34, x35, x36, x37, x38, x39, x40, x41, x42, x43, x44, x45, x46, x47, x48, x49, x50, x51, x52, x53, x54, x55, x56, x57, x58, x59, x60, x61, x62, x63, x64, x65, x66, x67, x68, x69, x70, x71, x72, x73, x74, x75, x76, x77, x78, x79, x80, x81, x82, x83, x84, x85, x86, x87, x88, x89, x90, x91, x92, x93, x94, x95, x96, x97, x98, x99, x100, x101, x102, x103, x104, x105, x106, x107, x108, x109, x110, x111, x112, x113, x114, x115, x116, x117, x118, x119, x120, x121, x122, x123, x124, x125, x126, x127, x128, x129, x130, x131, x132, x133, x134, x135, x136, x137, x138, x139] : List Value).set 11 (.pointer (some ⟨w.heap.size, 0, none⟩))).set 65 (.slice (some ⟨b, off, none⟩) zs.length cap)).set 66 (.func (.func 82) #[] #[.pointer (some ⟨w.heap.size + 1, 0, none⟩)]) := rfl
  rw [hget _ _ e]
  simp only [Array.getD_eq_getD_getElem?, List.getElem?_toArray]
  rw [List.getElem?_set_ne (fun e => h66 e.symm), List.getElem?_set_ne (fun e => h65 e.symm), List.getElem?_set_ne (fun e => h11 e.symm)]
abbrev R8 := Bool
noncomputable def c8 : Code := bodyOf Try.f8
noncomputable def an8 : Ann := (.s .l (.s .l (.s .l (.s (.s .l (.j [3, 5, 6, 107, 108, 111, 112, 115, 116, 119, 120, 123, 124, 125, 128, 129, 130, 133, 134, 135, 138] .l .l)) (.s (.s .l (.j [3, 5, 6, 107, 108, 111, 112, 115, 116, 119, 120, 123, 124, 125, 128, 129, 130, 133, 134, 135, 138] (.j [3, 5, 6, 39, 40, 41, 107, 108, 111, 112, 115, 116, 119, 120, 123, 124, 125, 128, 129, 130, 133, 134, 135, 138] (.s .l (.s (.j [3, 5, 6, 39, 40, 41, 107, 108, 111, 112, 115, 116, 119, 120, 123, 124, 125, 128, 129, 130, 133, 134, 135, 138] .l .l) (.s (.j [3, 5, 6, 39, 40, 41, 107, 108, 111, 112, 115, 116, 119, 120, 123, 124, 125, 128, 129, 130, 133, 134, 135, 138] (.s .l (.s .l (.j [3, 5, 6, 39, 40, 41, 107, 108, 111, 112, 115, 116, 119, 120, 123, 124, 125, 128, 129, 130, 133, 134, 135, 138] .l .l))) .l) .l))) .l) .l)) (.s .l (.h 0)))))))
noncomputable def anH8 : Ann := .l
noncomputable def runH8 (E : Env) {ρ : Type} (c : Code) (an : Ann) (k : St → Option ρ) (ex : Nat → St → Option ρ) (rt : St → Option ρ) (st : St) : Option ρ := runG E (sc8 E anH8) c an k ex rt st
def pk8 : List PK := [.c (.pair (.int .u8) (.pair (.int .u8) (.pair (.pair (.int .u8) (.int .u8)) (.pair (.pair (.int .u8) (.int .u8)) (.pair (.pair (.int .u8) (.int .u8)) (.pair (.pair (.int .u8) (.int .u8)) (.pair (.pair (.int .u8) (.int .u8)) (.pair (.pair (.int .u8) (.int .u8)) (.pair (.int .u8) (.int .u8)))))))))), .c (.pair (.int .u8) (.pair (.int .u8) (.pair (.int .u8) (.pair (.int .u8) (.pair (.int .u8) (.pair (.int .u8) (.int .u8)))))))]
def rk8 : List RK := [.c .bool 4]
noncomputable def rt8 (st : St) : Option R8 := rtG rk8 st
noncomputable def E8 (n : Nat × Nat) : Env := { T := tab, phi := (consPhi 14 (fun _ => true) (P14 n) (consPhi 19 (fun _ => true) (P19 n) (consPhi 31 (fun _ => true) (P31 n) (consPhi 39 (fun _ => true) (P39 n) (consPhi 43 (fun _ => true) (P43 n) (consPhi 48 (fun _ => true) (P48 n) (consPhi 51 (fun _ => true) (P51 n) noPhi))))))), eff := fun g => Nat.beq g 43, fuel := n.1, hold := n.2 }
noncomputable def kq8_3 (n : Nat × Nat) : St → Option R8 := runH8 (E8 n) (cB (cB (cB (cB (cB c8))))) (Ann.snd (Ann.snd (Ann.snd (Ann.snd (Ann.snd an8))))) rt8 (fun _ _ => none) rt8
noncomputable def xb8_5 (n : Nat × Nat) : Nat → St → Option R8 := fun j s => bif Nat.beq j 0 then normC [3, 5, 6, 107, 108, 111, 112, 115, 116, 119, 120, 123, 124, 125, 128, 129, 130, 133, 134, 135, 138] s (kq8_3 n) else (fun _ _ => none) j s
noncomputable def F8_6 (n : Nat × Nat) : (St → Option R8) → St → Option R8 := fun K s => runH8 (E8 n) (cA (cA (cB (cA (cB (cB (cB (cB c8)))))))) (Ann.fst (Ann.fst (Ann.snd (Ann.fst (Ann.snd (Ann.snd (Ann.snd (Ann.snd an8)))))))) (fun s => normC [3, 5, 6, 39, 40, 41, 107, 108, 111, 112, 115, 116, 119, 120, 123, 124, 125, 128, 129, 130, 133, 134, 135, 138] s K) (xb8_5 n) rt8 s
noncomputable def L8_1 (n : Nat × Nat) (m : Nat) (v39 : List (Int × Int)) (v40 : Int) (v41 : Int) (v3_0 : Int) (v3_1 : Int) (v3_2 : Int) (v3_3 : Int) (v3_4 : Int) (v3_5 : Int) (v3_6 : Int) (l5 : List (Int × Int)) (t6 : List (Int × Int)) : Option R8 := loopN (F8_6 n) m { tm := [uu, uu, uu, .ptr 3 0, uu, .ptr 5 0, .own 6 none false, uu, uu, uu, uu, uu, uu, uu, uu, uu, uu, uu, uu, uu, uu, uu, uu, uu, uu, uu, uu, uu, uu, uu, uu, uu, uu, uu, uu, uu, uu, uu, uu, .c (.sl (.pair (.int .i64) (.int .i64)) v39 false), .c (.int .i64 v40), .c (.int .i64 v41), uu, uu, uu, uu, uu, uu, uu, uu, uu, uu, uu, uu, uu, uu, uu, uu, uu, uu, uu, uu, uu, uu, uu, uu, uu, uu, uu, uu, uu, uu, uu, uu, uu, uu, uu, uu, uu, uu, uu, uu, uu, uu, uu, uu, uu, uu, uu, uu, uu, uu, uu, uu, uu, uu, uu, uu, uu, uu, uu, uu, uu, uu, uu, uu, uu, uu, uu, uu, uu, uu, uu, uu, uu, uu, uu, uu, uu, uu, uu, uu, uu, uu, uu, uu, uu, uu, uu, uu, uu, uu, uu, uu, uu, uu, uu, uu, uu, uu], hp := (upd (upd (upd emp 6 (.arr (.pair (.int .i64) (.int .i64)) t6 false)) 5 (.box [.sl (.pair (.int .i64) (.int .i64)) l5 false])) 3 (.box [.int .u8 v3_0, .int .u8 v3_1, .int .u8 v3_2, .int .u8 v3_3, .int .u8 v3_4, .int .u8 v3_5, .int .u8 v3_6])) }
theorem L8_1_eq (n : Nat × Nat) (m1 : Nat) (v39 : List (Int × Int)) (v40 : Int) (v41 : Int) (v3_0 : Int) (v3_1 : Int) (v3_2 : Int) (v3_3 : Int) (v3_4 : Int) (v3_5 : Int) (v3_6 : Int) (l5 : List (Int × Int)) (t6 : List (Int × Int)) : L8_1 n (m1 + 1) v39 v40 v41 v3_0 v3_1 v3_2 v3_3 v3_4 v3_5 v3_6 l5 t6 =
 (bif decide (v41 < v40) then (idx v39 v41).bind fun x4' =>
 (bif inB (wr .i64 ((wr .i64 ((l5.length : Int) - 1)) - v41)) t6.length then (idx t6 (wr .i64 ((wr .i64 ((l5.length : Int) - 1)) - v41))).bind fun x5' =>
 (bif (!((x5'.1 == x4'.2) && ((x5'.2 == x4'.1) && true))) then some false
 else L8_1 n m1 v39 v40 (wr .i64 (v41 + 1)) v3_0 v3_1 v3_2 v3_3 v3_4 v3_5 v3_6 l5 t6)
 else none)
 else (S48 n (l5.length : Int) (v3_0, v3_1, v3_2, v3_3, v3_4, v3_5, v3_6)).bind fun r6' =>
 (bif (decide (0 < r6'.length) && decide (r6'.length ≤ 1000000)) then (S39 n t6).bind fun r7' =>
 (S19 n l5 r6').bind fun r8' =>
 (S19 n t6 (bk0 r6' (l5.length : Int) 0)).bind fun r9' =>
 (S31 n l5).bind fun r10' =>
 (S31 n t6).bind fun r11' =>
 ((bif ((r7'.2 == 0) == true) then some (r8'.2 == 0)
 else some false)).bind fun b12' =>
 ((bif (b12' == true) then some (r9'.2 == 0)
 else some false)).bind fun b13' =>
 ((bif (b13' == true) then some (r10'.2 == 0)
 else some false)).bind fun b14' =>
 ((bif (b14' == true) then some (r11'.2 == 0)
 else some false)).bind fun b15' =>
 ((bif (b15' == true) then (S51 n r7'.1 l5).bind fun r16' =>
 some r16'
 else some false)).bind fun b17' =>
 ((bif (b17' == true) then some (r8'.1 == r9'.1)
 else some false)).bind fun b18' =>
 ((bif (b18' == true) then some (r10'.1 == r11'.1)
 else some false)).bind fun b19' =>
 ((bif (b19' == true) then (S14 n).bind fun r20' =>
 some r20'
 else some false)).bind fun b21' =>
 some b21'
 else none)) := by kernel_rfl
noncomputable def S8 (n : Nat × Nat) (f0 : Int × Int × (Int × Int) × (Int × Int) × (Int × Int) × (Int × Int) × (Int × Int) × (Int × Int) × Int × Int) (v1 : Int × Int × Int × Int × Int × Int × Int) : Option R8 := runH8 (E8 n) c8 an8 rt8 (fun _ _ => none) rt8 { tm := [.agg [.int .u8 f0.1, .int .u8 f0.2.1, .int .u8 f0.2.2.1.1, .int .u8 f0.2.2.1.2, .int .u8 f0.2.2.2.1.1, .int .u8 f0.2.2.2.1.2, .int .u8 f0.2.2.2.2.1.1, .int .u8 f0.2.2.2.2.1.2, .int .u8 f0.2.2.2.2.2.1.1, .int .u8 f0.2.2.2.2.2.1.2, .int .u8 f0.2.2.2.2.2.2.1.1, .int .u8 f0.2.2.2.2.2.2.1.2, .int .u8 f0.2.2.2.2.2.2.2.1.1, .int .u8 f0.2.2.2.2.2.2.2.1.2, .int .u8 f0.2.2.2.2.2.2.2.2.1, .int .u8 f0.2.2.2.2.2.2.2.2.2], .agg [.int .u8 v1.1, .int .u8 v1.2.1, .int .u8 v1.2.2.1, .int .u8 v1.2.2.2.1, .int .u8 v1.2.2.2.2.1, .int .u8 v1.2.2.2.2.2.1, .int .u8 v1.2.2.2.2.2.2], uu, uu, uu, uu, uu, uu, uu, uu, uu, uu, uu, uu, uu, uu, uu, uu, uu, uu, uu, uu, uu, uu, uu, uu, uu, uu, uu, uu, uu, uu, uu, uu, uu, uu, uu, uu, uu, uu, uu, uu, uu, uu, uu, uu, uu, uu, uu, uu, uu, uu, uu, uu, uu, uu, uu, uu, uu, uu, uu, uu, uu, uu, uu, uu, uu, uu, uu, uu, uu, uu, uu, uu, uu, uu, uu, uu, uu, uu, uu, uu, uu, uu, uu, uu, uu, uu, uu, uu, uu, uu, uu, uu, uu, uu, uu, uu, uu, uu, uu, uu, uu, uu, uu, uu, uu, uu, uu, uu, uu, uu, uu, uu, uu, uu, uu, uu, uu, uu, uu, uu, uu, uu, uu, uu, uu, uu, uu, uu, uu, uu, uu, uu, uu, uu, uu, uu, uu, uu], hp := emp }
theorem S8_eq (n : Nat × Nat) (f0 : Int × Int × (Int × Int) × (Int × Int) × (Int × Int) × (Int × Int) × (Int × Int) × (Int × Int) × Int × Int) (v1 : Int × Int × Int × Int × Int × Int × Int) : S8 n f0 v1 =
 (S43 n f0 6).bind fun r1' =>
 (S39 n r1').bind fun r2' =>
 ((bif ((r2'.2 != 0) == false) then some ((r2'.1.length : Int) != (r1'.length : Int))
 else some true)).bind fun b3' =>
 (bif b3' then some false
 else L8_1 n n.1 r1' (r1'.length : Int) 0 v1.1 v1.2.1 v1.2.2.1 v1.2.2.2.1 v1.2.2.2.2.1 v1.2.2.2.2.2.1 v1.2.2.2.2.2.2 r1' r2'.1) := by kernel_rfl
theorem S8_run (n : Nat × Nat) (xs : pksDen pk8) : S8 n xs.1 xs.2.1 = runG (E8 n) (sc8 (E8 n) anH8) c8 an8 (rtG rk8) (fun _ _ => none) (rtG rk8) (st0 pk8 xs Try.f8.ntmps) := by kernel_rfl
noncomputable def P8 (n : Nat × Nat) := phiOf pk8 rk8 (fun xs => S8 n xs.1 xs.2.1)
theorem env8 (n : Nat × Nat) : EnvOK Try.prog (E8 n) := envOK0 (consPhi_ok (FC14 n) call14 (consPhi_ok (FC19 n) call19 (consPhi_ok (FC31 n) call31 (consPhi_ok (FC39 n) call39 (consPhi_ok (FC43 n) call43 (consPhi_ok (FC48 n) call48 (consPhi_ok (FC51 n) call51 noPhi_ok))))))) rfl rfl
theorem par8 (n : Nat × Nat) : EnvPar (E8 n) := envPar0 (consPhi_par phiOf_Par1 (consPhi_par phiOf_Par1 (consPhi_par phiOf_Par1 (consPhi_par phiOf_Par1 (consPhi_par phiOf_Par1 (consPhi_par phiOf_Par1 (consPhi_par phiOf_Par1 noPhi_par))))))) rfl
/-D 43 -/
noncomputable def DF43_1 (n : Nat × Nat) (f1 : Int → (List (Int × Int)) → Int → Int → (List (Int × Int)) → Option R43) (top6 : Int) (v21 : List (Int × Int)) (v22 : Int) (v23 : Int) (out5 : List (Int × Int)) : Option R43 :=
 (bif decide (v23 < v22) then (idx v21 v23).bind fun x1' =>
 (bif inB 0 2 then (idx [x1'.1, x1'.2] 0).bind fun x2' =>
 (bif (wr .i64 (top6 + 1)) == 0 then none
 else (bif inB 1 2 then (idx [x1'.1, x1'.2] 1).bind fun x3' =>
 (bif (wr .i64 (top6 + 1)) == 0 then none
 else (bif decide (out5.length + [(Int.tmod (wr .i64 x2') (wr .i64 (top6 + 1)), Int.tmod (wr .i64 x3') (wr .i64 (top6 + 1)))].length ≤ lim) then f1 top6 v21 v22 (wr .i64 (v23 + 1)) (out5 ++ [(Int.tmod (wr .i64 x2') (wr .i64 (top6 + 1)), Int.tmod (wr .i64 x3') (wr .i64 (top6 + 1)))])
 else none))
 else none))
 else none)
 else some out5)
noncomputable def DL43_1 (n : Nat × Nat) (m : Nat) : Int → (List (Int × Int)) → Int → Int → (List (Int × Int)) → Option R43 := Nat.rec (motive := fun _ => Int → (List (Int × Int)) → Int → Int → (List (Int × Int)) → Option R43) (fun _ _ _ _ _ => none) (fun _ ih => DF43_1 n ih) m
theorem DL43_1_succ (n : Nat × Nat) (m : Nat) : DL43_1 n (m + 1) = DF43_1 n (DL43_1 n m) := rfl
theorem DL43_1_eq (n : Nat × Nat) (hn : n.2 = 1) : ∀ m, L43_1 n m = DL43_1 n m
  | 0 => by funext top6 v21 v22 v23 out5; kernel_rfl
  | m + 1 => by
    have ih := DL43_1_eq n hn m
    funext top6 v21 v22 v23 out5; refine (L43_1_eq n m top6 v21 v22 v23 out5).trans ?_
    rw [DL43_1_succ]
    unfold DF43_1
    (try simp only [ih]) <;> first | with_reducible rfl | rfl
noncomputable def D43 (n : Nat × Nat) (f0 : Int × Int × (Int × Int) × (Int × Int) × (Int × Int) × (Int × Int) × (Int × Int) × (Int × Int) × Int × Int) (most1 : Int) : Option R43 :=
 (bif 50 == 0 then none
 else (bif most1 == 0 then none
 else (bif bounds none (some (wr .i64 (1 + (Int.tmod (wr .i64 f0.1) most1)))) none 7 then DL43_1 n n.1 (wr .i64 ((Int.tmod (wr .i64 f0.2.1) 50) + 1)) ([f0.2.2.1, f0.2.2.2.1, f0.2.2.2.2.1, f0.2.2.2.2.2.1, f0.2.2.2.2.2.2.1, f0.2.2.2.2.2.2.2.1, f0.2.2.2.2.2.2.2.2].take (Int.toNat (wr .i64 (1 + (Int.tmod (wr .i64 f0.1) most1))))) (([f0.2.2.1, f0.2.2.2.1, f0.2.2.2.2.1, f0.2.2.2.2.2.1, f0.2.2.2.2.2.2.1, f0.2.2.2.2.2.2.2.1, f0.2.2.2.2.2.2.2.2].take (Int.toNat (wr .i64 (1 + (Int.tmod (wr .i64 f0.1) most1))))).length : Int) 0 []
 else none)))
theorem S43_D (n : Nat × Nat) (hn : n.2 = 1) : S43 n = D43 n := by
  funext f0 most1; refine (S43_eq n f0 most1).trans ?_
  unfold D43
  (try simp only [DL43_1_eq n hn]) <;> first | with_reducible rfl | rfl
/-D 48 -/
noncomputable def DF48_1 (n : Nat × Nat) (f1 : Int → Int → Int → Int → Int → Int → Int → Int → Int → List Int → Option R48) (v11 : Int) (v12 : Int) (v3_0 : Int) (v3_1 : Int) (v3_2 : Int) (v3_3 : Int) (v3_4 : Int) (v3_5 : Int) (v3_6 : Int) (to5 : List Int) : Option R48 :=
 (bif decide (v12 < v11) then (bif inB v12 to5.length then (idx to5 v12).bind fun x1' =>
 (bif inB v12 7 then (idx [v3_0, v3_1, v3_2, v3_3, v3_4, v3_5, v3_6] v12).bind fun x2' =>
 (bif (wr .i64 (v12 + 1)) == 0 then none
 else (bif inB (Int.tmod (wr .i64 x2') (wr .i64 (v12 + 1))) (to5.set (Int.toNat v12) v12).length then (idx (to5.set (Int.toNat v12) v12) (Int.tmod (wr .i64 x2') (wr .i64 (v12 + 1)))).bind fun x3' =>
 (bif inB v12 (to5.set (Int.toNat v12) v12).length then (idx (to5.set (Int.toNat v12) v12) v12).bind fun x4' =>
 (bif inB v12 (to5.set (Int.toNat v12) v12).length then (idx (to5.set (Int.toNat v12) v12) v12).bind fun x5' =>
 (bif inB (Int.tmod (wr .i64 x2') (wr .i64 (v12 + 1))) ((to5.set (Int.toNat v12) v12).set (Int.toNat v12) x3').length then (idx ((to5.set (Int.toNat v12) v12).set (Int.toNat v12) x3') (Int.tmod (wr .i64 x2') (wr .i64 (v12 + 1)))).bind fun x6' =>
                    f1 v11 (wr .i64 (v12 + 1)) v3_0 v3_1 v3_2 v3_3 v3_4 v3_5 v3_6 (((to5.set (Int.toNat v12) v12).set (Int.toNat v12) x3').set (Int.toNat (Int.tmod (wr .i64 x2') (wr .i64 (v12 + 1)))) x4')
 else none)
 else none)
 else none)
 else none))
 else none)
 else none)
 else some to5)
noncomputable def DL48_1 (n : Nat × Nat) (m : Nat) : Int → Int → Int → Int → Int → Int → Int → Int → Int → List Int → Option R48 := Nat.rec (motive := fun _ => Int → Int → Int → Int → Int → Int → Int → Int → Int → List Int → Option R48) (fun _ _ _ _ _ _ _ _ _ _ => none) (fun _ ih => DF48_1 n ih) m
theorem DL48_1_succ (n : Nat × Nat) (m : Nat) : DL48_1 n (m + 1) = DF48_1 n (DL48_1 n m) := rfl
theorem DL48_1_eq (n : Nat × Nat) (hn : n.2 = 1) : ∀ m, L48_1 n m = DL48_1 n m
  | 0 => by funext v11 v12 v3_0 v3_1 v3_2 v3_3 v3_4 v3_5 v3_6 to5; kernel_rfl
  | m + 1 => by
    have ih := DL48_1_eq n hn m
    funext v11 v12 v3_0 v3_1 v3_2 v3_3 v3_4 v3_5 v3_6 to5; refine (L48_1_eq n m v11 v12 v3_0 v3_1 v3_2 v3_3 v3_4 v3_5 v3_6 to5).trans ?_
    rw [DL48_1_succ]
    unfold DF48_1
    (try simp only [ih]) <;> first | with_reducible rfl | rfl
noncomputable def D48 (n : Nat × Nat) (v0 : Int) (v1 : Int × Int × Int × Int × Int × Int × Int) : Option R48 :=
 (bif decide (0 ≤ v0) && decide (v0 ≤ v0) && decide (v0 ≤ lim) then DL48_1 n n.1 ((List.replicate (Int.toNat v0) (0 : Int)).length : Int) 0 v1.1 v1.2.1 v1.2.2.1 v1.2.2.2.1 v1.2.2.2.2.1 v1.2.2.2.2.2.1 v1.2.2.2.2.2.2 (List.replicate (Int.toNat v0) (0 : Int))
 else none)
theorem S48_D (n : Nat × Nat) (hn : n.2 = 1) : S48 n = D48 n := by
  funext v0 v1; refine (S48_eq n v0 v1).trans ?_
  unfold D48
  (try simp only [DL48_1_eq n hn]) <;> first | with_reducible rfl | rfl
/-D 8 -/
noncomputable def DF8_1 (n : Nat × Nat) (f1 : (List (Int × Int)) → Int → Int → Int → Int → Int → Int → Int → Int → Int → (List (Int × Int)) → (List (Int × Int)) → Option R8) (v39 : List (Int × Int)) (v40 : Int) (v41 : Int) (v3_0 : Int) (v3_1 : Int) (v3_2 : Int) (v3_3 : Int) (v3_4 : Int) (v3_5 : Int) (v3_6 : Int) (l5 : List (Int × Int)) (t6 : List (Int × Int)) : Option R8 :=
 (bif decide (v41 < v40) then (idx v39 v41).bind fun x4' =>
 (bif inB (wr .i64 ((wr .i64 ((l5.length : Int) - 1)) - v41)) t6.length then (idx t6 (wr .i64 ((wr .i64 ((l5.length : Int) - 1)) - v41))).bind fun x5' =>
 (bif (!((x5'.1 == x4'.2) && ((x5'.2 == x4'.1) && true))) then some false
 else f1 v39 v40 (wr .i64 (v41 + 1)) v3_0 v3_1 v3_2 v3_3 v3_4 v3_5 v3_6 l5 t6)
 else none)
 else (D48 n (l5.length : Int) (v3_0, v3_1, v3_2, v3_3, v3_4, v3_5, v3_6)).bind fun r6' =>
 (bif (decide (0 < r6'.length) && decide (r6'.length ≤ 1000000)) then (D39 n t6).bind fun r7' =>
 (D19 n l5 r6').bind fun r8' =>
 (D19 n t6 (bk0 r6' (l5.length : Int) 0)).bind fun r9' =>
 (D31 n l5).bind fun r10' =>
 (D31 n t6).bind fun r11' =>
 ((bif ((r7'.2 == 0) == true) then some (r8'.2 == 0)
 else some false)).bind fun b12' =>
 ((bif (b12' == true) then some (r9'.2 == 0)
 else some false)).bind fun b13' =>
 ((bif (b13' == true) then some (r10'.2 == 0)
 else some false)).bind fun b14' =>
 ((bif (b14' == true) then some (r11'.2 == 0)
 else some false)).bind fun b15' =>
 ((bif (b15' == true) then (D51 n r7'.1 l5).bind fun r16' =>
 some r16'
 else some false)).bind fun b17' =>
 ((bif (b17' == true) then some (r8'.1 == r9'.1)
 else some false)).bind fun b18' =>
 ((bif (b18' == true) then some (r10'.1 == r11'.1)
 else some false)).bind fun b19' =>
 ((bif (b19' == true) then (D14 n).bind fun r20' =>
 some r20'
 else some false)).bind fun b21' =>
 some b21'
 else none))
noncomputable def DL8_1 (n : Nat × Nat) (m : Nat) : (List (Int × Int)) → Int → Int → Int → Int → Int → Int → Int → Int → Int → (List (Int × Int)) → (List (Int × Int)) → Option R8 := Nat.rec (motive := fun _ => (List (Int × Int)) → Int → Int → Int → Int → Int → Int → Int → Int → Int → (List (Int × Int)) → (List (Int × Int)) → Option R8) (fun _ _ _ _ _ _ _ _ _ _ _ _ => none) (fun _ ih => DF8_1 n ih) m
theorem DL8_1_succ (n : Nat × Nat) (m : Nat) : DL8_1 n (m + 1) = DF8_1 n (DL8_1 n m) := rfl
theorem DL8_1_eq (n : Nat × Nat) (hn : n.2 = 1) : ∀ m, L8_1 n m = DL8_1 n m
  | 0 => by funext v39 v40 v41 v3_0 v3_1 v3_2 v3_3 v3_4 v3_5 v3_6 l5 t6; kernel_rfl
  | m + 1 => by
    have ih := DL8_1_eq n hn m
    funext v39 v40 v41 v3_0 v3_1 v3_2 v3_3 v3_4 v3_5 v3_6 l5 t6; refine (L8_1_eq n m v39 v40 v41 v3_0 v3_1 v3_2 v3_3 v3_4 v3_5 v3_6 l5 t6).trans ?_
    rw [DL8_1_succ]
    unfold DF8_1
    (try simp only [ih, S14_D n hn, S19_D n hn, S31_D n hn, S39_D n hn, S43_D n hn, S48_D n hn, S51_D n hn]) <;> first | with_reducible rfl | rfl
noncomputable def D8 (n : Nat × Nat) (f0 : Int × Int × (Int × Int) × (Int × Int) × (Int × Int) × (Int × Int) × (Int × Int) × (Int × Int) × Int × Int) (v1 : Int × Int × Int × Int × Int × Int × Int) : Option R8 :=
 (D43 n f0 6).bind fun r1' =>
 (D39 n r1').bind fun r2' =>
 ((bif ((r2'.2 != 0) == false) then some ((r2'.1.length : Int) != (r1'.length : Int))
 else some true)).bind fun b3' =>
 (bif b3' then some false
 else DL8_1 n n.1 r1' (r1'.length : Int) 0 v1.1 v1.2.1 v1.2.2.1 v1.2.2.2.1 v1.2.2.2.2.1 v1.2.2.2.2.2.1 v1.2.2.2.2.2.2 r1' r2'.1)
theorem S8_D (n : Nat × Nat) (hn : n.2 = 1) : S8 n = D8 n := by
  funext f0 v1; refine (S8_eq n f0 v1).trans ?_
  unfold D8
  (try simp only [DL8_1_eq n hn, S14_D n hn, S19_D n hn, S31_D n hn, S39_D n hn, S43_D n hn, S48_D n hn, S51_D n hn]) <;> first | with_reducible rfl | rfl
/-D 15 -/
/-D 68 -/
/-D 26 -/
/-D 83 -/
end Go.Proofs.Ytnlbhjmbaedadaa
set_option linter.unusedVariables false
set_option linter.unusedSimpArgs false
namespace Go.Proofs.Ytnlbhjmbaedadaa
open Go.Vi
theorem hN1 : 1000 ≤ N.1 := by decide
theorem wr_ok {x : Int} (h1 : -9223372036854775808 ≤ x) (h2 : x ≤ 9223372036854775807) : wr .i64 x = x := by
  have : wr .i64 x = (x + 9223372036854775808) % 18446744073709551616 - 9223372036854775808 := by
    simp only [wr, IntKind.wrap, IntKind.signed, IntKind.bits]
    simp
    split <;> omega
  rw [this]
  omega
theorem wr_succ {k : Nat} (h : k < 1000000) : wr .i64 ((k : Int) + 1) = ((k + 1 : Nat) : Int) := by
  rw [wr_ok (by omega) (by omega)]; omega
theorem idx_nat {α : Type} {l : List α} {k : Nat} (h : k < l.length) : idx l (k : Int) = some l[k] := by
  unfold idx
  rw [if_pos (by omega), Int.toNat_natCast, List.getElem?_eq_getElem h]
theorem idx_int {α : Type} {l : List α} {k : Nat} {i : Int} (hi : i = k) (h : k < l.length) : idx l i = some l[k] := by
  subst hi
  exact idx_nat h
theorem drop_cons {α : Type} {l : List α} {k : Nat} (h : k < l.length) : l.drop k = l[k] :: l.drop (k + 1) := List.drop_eq_getElem_cons h
theorem inB_nat {k n : Nat} (h : k < n) : inB (k : Int) n = true := by
  unfold inB
  simp [h]
theorem lim_dec {α : Type} {a : Nat} {x : α} (h : a < 1000000) : decide (a + [x].length ≤ lim) = true := decide_eq_true (by simp [lim]; omega)
theorem dlt_t {a b : Nat} (h : a < b) : decide ((a : Int) < (b : Int)) = true := decide_eq_true (by omega)
theorem dlt_f {a b : Nat} (h : ¬ a < b) : decide ((a : Int) < (b : Int)) = false := decide_eq_false (by omega)
theorem take_snoc {α : Type} {l : List α} {k : Nat} (h : k < l.length) : l.take (k + 1) = l.take k ++ [l[k]] := (List.take_append_getElem h).symm
theorem max_if (a b : Int) : (if b > a then b else a) = max a b := by
  by_cases h : b > a
  · rw [if_pos h, Int.max_eq_right (by omega)]
  · rw [if_neg h, Int.max_eq_left (by omega)]
/-- A sheet whose hours are as they may be. -/
def Ok (s : Int × Int) : Prop := 0 ≤ s.1 ∧ s.1 ≤ 50 ∧ 0 ≤ s.2 ∧ s.2 ≤ 50
instance (s : Int × Int) : Decidable (Ok s) := by unfold Ok; exact inferInstance
def chkl : List (Int × Int) → Int
  | [] => 0
  | s :: l => if Ok s then chkl l else 1
def chk (l : List (Int × Int)) : Int := if l.length = 0 then 4 else if 7 < l.length then 3 else chkl l
structure Good (l : List (Int × Int)) : Prop where
  pos : 0 < l.length
  len : l.length ≤ 7
  ok : ∀ s ∈ l, Ok s
theorem chkl_zero : ∀ {l : List (Int × Int)}, chkl l = 0 ↔ ∀ s ∈ l, Ok s
  | [] => by simp [chkl]
  | s :: l => by
    unfold chkl
    by_cases h : Ok s
    · rw [if_pos h, chkl_zero]; simp [h]
    · rw [if_neg h]; simp [h]
theorem chk_good {l : List (Int × Int)} : chk l = 0 ↔ Good l := by
  unfold chk
  by_cases h0 : l.length = 0
  · rw [if_pos h0]; exact ⟨fun h => by simp at h, fun h => by have := h.pos; omega⟩
  rw [if_neg h0]
  by_cases h8 : 7 < l.length
  · rw [if_pos h8]; exact ⟨fun h => by simp at h, fun h => by have := h.len; omega⟩
  rw [if_neg h8, chkl_zero]
  exact ⟨fun h => ⟨by omega, by omega, h⟩, fun h => h.ok⟩
theorem chk_loop (n : Nat × Nat) (l : List (Int × Int)) (hs : l.length < 1000) : ∀ (m k : Nat), k ≤ l.length → l.length - k < m → DL25_1 n m l (l.length : Int) (k : Int) = some (chkl (l.drop k))
  | 0, k, _, h => by omega
  | m + 1, k, hk, h => by
    rw [DL25_1_succ]
    unfold DF25_1
    by_cases hlt : k < l.length
    · have ih := chk_loop n l hs m (k + 1) (by omega) (by omega)
      rw [dlt_t hlt, cond_true, idx_nat hlt, wr_succ (by omega), ih, drop_cons hlt]
      generalize l[k] = s
      simp only [Option.bind_some, chkl]
      by_cases hok : Ok s
      · have ho := hok
        unfold Ok at ho
        rw [if_pos hok, decide_eq_false (show ¬ (if s.2 < s.1 then s.2 else s.1) < 0 by split <;> omega), decide_eq_false (show ¬ (if s.2 > s.1 then s.2 else s.1) > 50 by split <;> omega)]
        rfl
      · have ho := hok
        unfold Ok at ho
        rw [if_neg hok]
        by_cases h0 : (if s.2 < s.1 then s.2 else s.1) < 0
        · rw [decide_eq_true h0]; rfl
        · rw [decide_eq_false h0, decide_eq_true (show (if s.2 > s.1 then s.2 else s.1) > 50 by revert h0; split <;> split <;> omega)]
          rfl
    · rw [dlt_f hlt, cond_false, List.drop_of_length_le (by omega)]; rfl
theorem chk_eq {n : Nat × Nat} (hn : 1000 ≤ n.1) (l : List (Int × Int)) : D25 n l = some (chk l) := by
  unfold D25 chk
  by_cases h0 : l.length = 0
  · simp [h0]
  rw [show (((l.length : Int)) == 0) = false by simpa using h0, cond_false, if_neg h0]
  by_cases h8 : 7 < l.length
  · rw [decide_eq_true (show (l.length : Int) > 7 by omega), cond_true, if_pos h8]
  · rw [decide_eq_false (show ¬ (l.length : Int) > 7 by omega), cond_false, if_neg h8]
    exact chk_loop n l (by omega) n.1 0 (by omega) (by omega)
/-- The first place of a number, or -1. -/
def fdo (v : Int) : Int → List Int → Int
  | _, [] => -1
  | k, x :: l => if v = x then k else fdo v (k + 1) l
theorem index_loop (n : Nat × Nat) (l : List Int) (v : Int) (hs : l.length < 1000) : ∀ (m k : Nat), k ≤ l.length → l.length - k < m → DL65_1 n m l v (l.length : Int) (k : Int) = some (fdo v k (l.drop k))
  | 0, k, _, h => by omega
  | m + 1, k, hk, h => by
    rw [DL65_1_succ]
    unfold DF65_1
    by_cases hlt : k < l.length
    · have ih := index_loop n l v hs m (k + 1) (by omega) (by omega)
      rw [dlt_t hlt, cond_true, idx_nat hlt, wr_succ (by omega), ih, drop_cons hlt]
      simp only [Option.bind_some, fdo]
      by_cases e : v = l[k]
      · rw [show (v == l[k]) = true by simpa using e, cond_true, if_pos e]
      · rw [show (v == l[k]) = false by simpa using e, cond_false, if_neg e]; simp
    · rw [dlt_f hlt, cond_false, List.drop_of_length_le (by omega)]; rfl
theorem index_eq {n : Nat × Nat} (hn : 1000 ≤ n.1) {l : List Int} (hs : l.length < 900) (v : Int) : D65 n l v = some (fdo v 0 l) := by
  unfold D65
  exact index_loop n l v (by omega) n.1 0 (by omega) (by omega)
theorem fdo_nn {v : Int} : ∀ {l : List Int} {k : Int}, 0 ≤ k → (0 ≤ fdo v k l ↔ v ∈ l)
  | [], k, h => by simp [fdo]
  | x :: l, k, h => by
    unfold fdo
    by_cases e : v = x
    · rw [if_pos e]; simp [e, h]
    · rw [if_neg e, fdo_nn (by omega)]; simp [e]
theorem contains_eq {n : Nat × Nat} (hn : 1000 ≤ n.1) {l : List Int} (hs : l.length < 900) (v : Int) : D80 n l v = some (decide (v ∈ l)) := by
  unfold D80
  rw [index_eq hn hs, Option.bind_some]
  congr 1
  exact decide_eq_decide.2 (fdo_nn (by omega))
/-- Sums and greatest numbers. -/
theorem total_loop (n : Nat × Nat) (l : List Int) (hs : l.length < 1000) (hb : ∀ x ∈ l, 0 ≤ x ∧ x ≤ 1000) : ∀ (m k : Nat) (a : Int), k ≤ l.length → l.length - k < m → 0 ≤ a → a ≤ 1000 * k → DL63_1 n m a l (l.length : Int) (k : Int) = some (a + (l.drop k).sum)
  | 0, k, a, _, h, _, _ => by omega
  | m + 1, k, a, hk, h, h0, h1 => by
    rw [DL63_1_succ]
    unfold DF63_1
    by_cases hlt : k < l.length
    · have hx := hb _ (List.getElem_mem hlt)
      have ih := total_loop n l hs hb m (k + 1) (a + l[k]) (by omega) (by omega) (by omega) (by omega)
      rw [dlt_t hlt, cond_true, idx_nat hlt, wr_succ (by omega), Option.bind_some, wr_ok (by omega) (by omega), ih, drop_cons hlt, List.sum_cons, Int.add_assoc]
    · rw [dlt_f hlt, cond_false, List.drop_of_length_le (by omega)]; simp
theorem total_eq {n : Nat × Nat} (hn : 1000 ≤ n.1) {l : List Int} (hs : l.length < 900) (hb : ∀ x ∈ l, 0 ≤ x ∧ x ≤ 1000) : D63 n l = some l.sum := by
  unfold D63
  have := total_loop n l (by omega) hb n.1 0 0 (by omega) (by omega) (by omega) (by omega)
  simpa using this
theorem great_loop (n : Nat × Nat) (l : List Int) (hs : l.length < 1000) : ∀ (m k : Nat) (a : Int), k ≤ l.length → l.length - k < m → DL84_1 n m a l (l.length : Int) (k : Int) = some ((l.drop k).foldl max a)
  | 0, k, a, _, h => by omega
  | m + 1, k, a, hk, h => by
    rw [DL84_1_succ]
    unfold DF84_1
    by_cases hlt : k < l.length
    · have ih := great_loop n l hs m (k + 1) (max a l[k]) (by omega) (by omega)
      rw [dlt_t hlt, cond_true, idx_nat hlt, wr_succ (by omega), Option.bind_some, max_if, ih, drop_cons hlt, List.foldl_cons]
    · rw [dlt_f hlt, cond_false, List.drop_of_length_le (by omega)]; simp
theorem great_eq {n : Nat × Nat} (hn : 1000 ≤ n.1) {l : List Int} (hs : l.length < 900) (a : Int) : D84 n a l = some (l.foldl max a) := by
  unfold D84
  have := great_loop n l (by omega) n.1 0 a (by omega) (by omega)
  simpa using this
/-- What sheets need on a machine. -/
def hr (m : Int) (s : Int × Int) : Int := if m = 0 then s.1 else s.2
theorem all_loop (n : Nat × Nat) (mc : Int) (hm : mc = 0 ∨ mc = 1) (l : List (Int × Int)) (hs : l.length < 1000) : ∀ (m k : Nat), k ≤ l.length → l.length - k < m → DL64_1 n m mc l (l.length : Int) (k : Int) ((l.take k).map (hr mc)) = some (l.map (hr mc))
  | 0, k, _, h => by omega
  | m + 1, k, hk, h => by
    rw [DL64_1_succ]
    unfold DF64_1
    by_cases hlt : k < l.length
    · have ih := all_loop n mc hm l hs m (k + 1) (by omega) (by omega)
      have hi : idx [l[k].1, l[k].2] mc = some (hr mc l[k]) := by
        rcases hm with h | h <;> subst h <;> simp [idx, hr]
      rw [dlt_t hlt, cond_true, idx_nat hlt, Option.bind_some, hi, wr_succ (by omega), Option.bind_some, lim_dec (by simp; omega), cond_true, ← ih, take_snoc hlt, List.map_append]
      rfl
    · rw [dlt_f hlt, cond_false, List.take_of_length_le (by omega)]
theorem all_eq {n : Nat × Nat} (hn : 1000 ≤ n.1) {mc : Int} (hm : mc = 0 ∨ mc = 1) {l : List (Int × Int)} (hs : l.length < 900) : D64 n l mc = some (l.map (hr mc)) := by
  unfold D64
  exact all_loop n mc hm l (by omega) n.1 0 (by omega) (by omega)
/-- Numbers that are no two the same, as many as others among which they are: these. -/
theorem perm_of_sub {α : Type} [BEq α] [LawfulBEq α] : ∀ {l m : List α}, l.Nodup → (∀ x ∈ l, x ∈ m) → m.length ≤ l.length → l.Perm m
  | [], m, _, _, h => by
    rw [List.length_nil] at h
    rw [List.length_eq_zero_iff.1 (by omega : m.length = 0)]
  | a :: l, m, hn, hs, h => by
    have ha := hs a (by simp)
    have hp := List.perm_cons_erase ha
    rw [List.nodup_cons] at hn
    have hl := List.length_erase_of_mem ha
    have hne : ∀ x ∈ l, x ∈ m.erase a := fun x hx => (List.mem_erase_of_ne (fun e => hn.1 (by subst e; exact hx))).2 (hs x (by simp [hx]))
    rw [List.length_cons] at h
    exact (List.Perm.cons a (perm_of_sub hn.2 hne (by omega))).trans hp.symm
theorem sum_perm {l m : List Int} (h : l.Perm m) : l.sum = m.sum := by
  induction h with
  | nil => rfl
  | cons x _ ih => simp only [List.sum_cons, ih]
  | swap x y l => simp only [List.sum_cons]; omega
  | trans _ _ h1 h2 => rw [h1, h2]
end Go.Proofs.Ytnlbhjmbaedadaa
set_option linter.unusedVariables false
set_option linter.unusedSimpArgs false
set_option maxRecDepth 100000
namespace Go.Proofs.Ytnlbhjmbaedadaa
open Go.Vi
/-D 59 -/
/-D 60 -/
/-D 17 -/
/-D 62 -/
/-D 20 -/
/-D 22 -/
/-D 67 -/
/-D 24 -/
end Go.Proofs.Ytnlbhjmbaedadaa
set_option linter.unusedVariables false
set_option linter.unusedSimpArgs false
namespace Go.Proofs.Ytnlbhjmbaedadaa
open Go.Vi
/-- The error of the rest of an order, behind some numbers. -/
def pe (n : Int) : List Int → List Int → Int
  | _, [] => 0
  | pre, i :: r => if i < 0 ∨ n ≤ i then 2 else if i ∈ pre then 6 else pe n (pre ++ [i]) r
/-- The sheets of an order. -/
def pk (l : List (Int × Int)) (o : List Int) : List (Int × Int) := o.map fun i => l.getD i.toNat (0, 0)
def po (e : Int) (x : List (Int × Int)) : List (Int × Int) × Int := if e = 0 then (x, 0) else ([], e)
theorem po_snd (e : Int) (x : List (Int × Int)) : (po e x).2 = e := by
  unfold po
  split
  · rename_i h; exact h.symm
  · rfl
def put (l : List (Int × Int)) (o : List Int) : List (Int × Int) × Int :=
  if chk l ≠ 0 then ([], chk l) else if o.length ≠ l.length then ([], 5) else po (pe l.length [] o) (pk l o)
structure Ord (n : Nat) (o : List Int) : Prop where
  len : o.length = n
  rng : ∀ i ∈ o, 0 ≤ i ∧ i < n
  nodup : o.Nodup
theorem pe_zero {n : Int} : ∀ {r pre : List Int}, pe n pre r = 0 ↔ (∀ i ∈ r, 0 ≤ i ∧ i < n ∧ i ∉ pre) ∧ r.Nodup
  | [], pre => by simp [pe]
  | i :: r, pre => by
    unfold pe
    by_cases h : i < 0 ∨ n ≤ i
    · rw [if_pos h]
      refine ⟨fun h => by simp at h, fun h' => ?_⟩
      have := h'.1 i (by simp)
      omega
    rw [if_neg h]
    by_cases h6 : i ∈ pre
    · rw [if_pos h6]
      refine ⟨fun h => by simp at h, fun h' => ?_⟩
      exact absurd h6 (h'.1 i (by simp)).2.2
    rw [if_neg h6, pe_zero, List.nodup_cons]
    constructor
    · intro ⟨h1, h2⟩
      refine ⟨fun j hj => ?_, fun hi => ?_, h2⟩
      · rcases List.mem_cons.1 hj with e | hj
        · subst e; exact ⟨by omega, by omega, h6⟩
        · have := h1 j hj
          exact ⟨this.1, this.2.1, fun h => this.2.2 (by simp [h])⟩
      · exact (h1 i hi).2.2 (by simp)
    · intro ⟨h1, h2, h3⟩
      refine ⟨fun j hj => ?_, h3⟩
      have := h1 j (by simp [hj])
      refine ⟨this.1, this.2.1, fun h => ?_⟩
      rcases List.mem_append.1 h with h | h
      · exact this.2.2 h
      · rw [List.mem_singleton] at h; subst h; exact h2 hj
theorem put_zero {l : List (Int × Int)} {o : List Int} : (put l o).2 = 0 ↔ Good l ∧ Ord l.length o := by
  unfold put
  by_cases hc : chk l = 0
  · rw [if_neg (by simpa using hc)]
    by_cases hl : o.length = l.length
    · rw [if_neg (by simpa using hl), po_snd, pe_zero]
      exact ⟨fun hp => ⟨chk_good.1 hc, hl, fun i hi => ⟨(hp.1 i hi).1, (hp.1 i hi).2.1⟩, hp.2⟩, fun h => ⟨fun i hi => ⟨(h.2.rng i hi).1, (h.2.rng i hi).2, by simp⟩, h.2.nodup⟩⟩
    · rw [if_pos (by simpa using hl)]
      exact ⟨fun h => by simp at h, fun h => absurd h.2.len hl⟩
  · rw [if_pos (by simpa using hc)]
    exact ⟨fun h => absurd h hc, fun h => absurd (chk_good.2 h.1) hc⟩
theorem put_ord {l : List (Int × Int)} {o : List Int} (h : Good l) (ho : Ord l.length o) : put l o = (pk l o, 0) := by
  unfold put
  rw [if_neg (by simpa using chk_good.2 h), if_neg (by simpa using ho.len), pe_zero.2 ⟨fun i hi => ⟨(ho.rng i hi).1, (ho.rng i hi).2, by simp⟩, ho.nodup⟩]
  rfl
theorem put_loop (n : Nat × Nat) (hn : 1000 ≤ n.1) (l : List (Int × Int)) (o : List Int) (hl : l.length < 800) (hs : o.length < 800) : ∀ (m k : Nat), k ≤ o.length → o.length - k < m →
    DL58_1 n m l o o (o.length : Int) (k : Int) (pk l (o.take k)) = some (po (pe l.length (o.take k) (o.drop k)) (pk l o))
  | 0, k, _, h => by omega
  | m + 1, k, hk, h => by
    rw [DL58_1_succ]
    unfold DF58_1
    by_cases hlt : k < o.length
    · have ih := put_loop n hn l o hl hs m (k + 1) (by omega) (by omega)
      rw [dlt_t hlt, cond_true, idx_nat hlt, wr_succ (by omega), drop_cons hlt]
      simp only [Option.bind_some, pe]
      by_cases h2 : o[k] < 0 ∨ l.length ≤ o[k]
      · rw [if_pos h2]
        by_cases h0 : o[k] < 0
        · simp [h0, po]
        · simp [h0, show (l.length : Int) ≤ o[k] by omega, po]
      rw [if_neg h2, decide_eq_false (show ¬ o[k] < 0 by omega), decide_eq_false (show ¬ o[k] ≥ (l.length : Int) by omega)]
      simp only [beq_self_eq_true, cond_true, Option.bind_some, cond_false]
      rw [show bounds none (some (k : Int)) none o.length = true by simp [bounds]; omega, cond_true, Int.toNat_natCast, contains_eq hn (by simp; omega), Option.bind_some]
      by_cases h6 : o[k] ∈ o.take k
      · simp [h6, po]
      have hj : o[k].toNat < l.length := by omega
      rw [decide_eq_false h6, cond_false, if_neg h6, idx_int (k := o[k].toNat) (by omega) hj, Option.bind_some, lim_dec (by simp [pk]; omega), cond_true]
      rw [take_snoc hlt] at ih
      rw [← ih]
      have e : pk l (o.take k ++ [o[k]]) = pk l (o.take k) ++ [l[o[k].toNat]] := by
        unfold pk
        rw [List.map_append, List.map_cons, List.map_nil, List.getD_eq_getElem?_getD, List.getElem?_eq_getElem hj, Option.getD_some]
      rw [e]
    · rw [dlt_f hlt, cond_false, List.drop_of_length_le (by omega), List.take_of_length_le (by omega)]
      simp [pe, po]
theorem put_eq {n : Nat × Nat} (hn : 1000 ≤ n.1) {o : List Int} (hs : o.length < 800) (l : List (Int × Int)) : D58 n l o = some (put l o) := by
  unfold D58 put
  rw [chk_eq hn, Option.bind_some]
  by_cases h : chk l = 0
  · rw [show (chk l != 0) = false by simp [h], cond_false, if_neg (by simpa using h)]
    have hg := chk_good.1 h
    by_cases hl : o.length = l.length
    · rw [show ((o.length : Int) != l.length) = false by simp [hl], cond_false, if_neg (by simpa using hl)]
      have := put_loop n hn l o (by have := hg.len; omega) hs n.1 0 (by omega) (by omega)
      simpa [pk] using this
    · rw [show ((o.length : Int) != l.length) = true by simpa using (by omega : ((o.length : Int)) ≠ l.length), cond_true, if_pos hl]
  · rw [show (chk l != 0) = true by simpa using h, cond_true, if_pos h]
theorem ord_perm {n : Nat} {o : List Int} (h : Ord n o) : o.Perm ((List.range n).map fun i : Nat => (i : Int)) := by
  refine perm_of_sub h.nodup (fun x hx => ?_) (by simp [h.len])
  have := h.rng x hx
  exact List.mem_map.2 ⟨x.toNat, List.mem_range.2 (by omega), by omega⟩
theorem pk_range (l : List (Int × Int)) : pk l ((List.range l.length).map fun i : Nat => (i : Int)) = l := by
  unfold pk
  rw [List.map_map]
  apply List.ext_getElem
  · simp
  · intro i h1 h2
    simp [h2]
theorem pk_perm {l : List (Int × Int)} {o : List Int} (h : Ord l.length o) : (pk l o).Perm l := by
  have := (ord_perm h).map fun i : Int => l.getD i.toNat (0, 0)
  have e := pk_range l
  unfold pk at e ⊢
  rw [e] at this
  exact this
theorem pk_ok {l : List (Int × Int)} {o : List Int} (hg : Good l) (h : Ord l.length o) : ∀ s ∈ pk l o, Ok s := fun s hs => hg.ok s ((pk_perm h).mem_iff.1 hs)
theorem pk_len (l : List (Int × Int)) (o : List Int) : (pk l o).length = o.length := by simp [pk]
/-- What sheets need on the first and on the second machine, together. -/
def s1 : List (Int × Int) → Int
  | [] => 0
  | s :: l => s.1 + s1 l
def s2 : List (Int × Int) → Int
  | [] => 0
  | s :: l => s.2 + s2 l
theorem s1_map : ∀ l : List (Int × Int), (l.map (hr 0)).sum = s1 l
  | [] => rfl
  | s :: l => by simp only [List.map_cons, List.sum_cons, s1_map l, s1]; rfl
theorem s2_map : ∀ l : List (Int × Int), (l.map (hr 1)).sum = s2 l
  | [] => rfl
  | s :: l => by simp only [List.map_cons, List.sum_cons, s2_map l, s2]; rfl
theorem s1_append : ∀ l m : List (Int × Int), s1 (l ++ m) = s1 l + s1 m
  | [], m => by simp [s1]
  | s :: l, m => by simp only [List.cons_append, s1, s1_append l m]; omega
theorem s1_bnd : ∀ {l : List (Int × Int)}, (∀ s ∈ l, Ok s) → 0 ≤ s1 l ∧ s1 l ≤ 50 * l.length
  | [], _ => by simp [s1]
  | s :: l, h => by
    have := s1_bnd (l := l) (fun s hs => h s (by simp [hs]))
    have ho := h s (by simp)
    unfold Ok at ho
    simp only [s1, List.length_cons]
    omega
theorem s2_bnd : ∀ {l : List (Int × Int)}, (∀ s ∈ l, Ok s) → 0 ≤ s2 l ∧ s2 l ≤ 50 * l.length
  | [], _ => by simp [s2]
  | s :: l, h => by
    have := s2_bnd (l := l) (fun s hs => h s (by simp [hs]))
    have ho := h s (by simp)
    unfold Ok at ho
    simp only [s2, List.length_cons]
    omega
theorem s2_perm {l m : List (Int × Int)} (h : l.Perm m) : s2 l = s2 m := by
  rw [← s2_map, ← s2_map]
  exact sum_perm (h.map _)
theorem s1_perm {l m : List (Int × Int)} (h : l.Perm m) : s1 l = s1 m := by
  rw [← s1_map, ← s1_map]
  exact sum_perm (h.map _)
/-- The sums of the places: up to a place on the first machine, from it on on the second one. -/
def sms : Int → List (Int × Int) → List Int
  | _, [] => []
  | a, s :: l => (a + s.1 + s.2 + s2 l) :: sms (a + s.1) l
/-- The time of sheets in their order. -/
def tm : Int → Int → List (Int × Int) → Int
  | _, b, [] => b
  | a, b, s :: l => tm (a + s.1) (max (a + s.1) b + s.2) l
theorem sms_len : ∀ (l : List (Int × Int)) (a : Int), (sms a l).length = l.length
  | [], _ => rfl
  | s :: l, a => by simp only [sms, List.length_cons, sms_len l]
theorem tm_sms : ∀ (l : List (Int × Int)) (a b : Int), tm a b l = (sms a l).foldl max (b + s2 l)
  | [], a, b => by simp [tm, sms, s2]
  | s :: l, a, b => by
    simp only [tm, sms, s2, List.foldl_cons]
    rw [tm_sms l]
    congr 1
    omega
theorem tm_cons {s : Int × Int} {l : List (Int × Int)} (hs : 0 ≤ s.1) : tm 0 0 (s :: l) = (sms s.1 l).foldl max (s.1 + s.2 + s2 l) := by
  rw [tm_sms]
  simp only [sms, s2, List.foldl_cons, Int.zero_add]
  congr 1
  omega
theorem sms_get : ∀ {l : List (Int × Int)} {a : Int} {k : Nat} (h : k < l.length), (sms a l)[k]'(by rw [sms_len]; exact h) = a + s1 (l.take (k + 1)) + s2 (l.drop k)
  | [], a, k, h => by simp at h
  | s :: l, a, 0, h => by simp [sms, s1, s2]; omega
  | s :: l, a, k + 1, h => by
    simp only [sms, List.getElem_cons_succ, List.take_succ_cons, List.drop_succ_cons, s1]
    rw [sms_get (by simp at h; omega)]
    omega
theorem sums_loop (n : Nat × Nat) (hn : 1000 ≤ n.1) (l : List (Int × Int)) (hs : l.length < 100) (hb : ∀ s ∈ l, Ok s) : ∀ (m k : Nat), k ≤ l.length → l.length - k < m →
    DL66_1 n m l (l.length : Int) (k : Int) ((sms 0 l).take k) = some (sms 0 l)
  | 0, k, _, h => by omega
  | m + 1, k, hk, h => by
    rw [DL66_1_succ]
    unfold DF66_1
    by_cases hlt : k < l.length
    · have ih := sums_loop n hn l hs hb m (k + 1) (by omega) (by omega)
      have b1 : bounds none (some (((k + 1 : Nat) : Int))) none l.length = true := by simp [bounds]; omega
      have b2 : bounds (some (k : Int)) none none l.length = true := by simp [bounds]; omega
      have hok : ∀ (mc : Int) (x : Int × Int), Ok x → 0 ≤ hr mc x ∧ hr mc x ≤ 1000 := by
        intro mc x h
        unfold Ok at h
        unfold hr
        split <;> omega
      have t1 : D63 n ((l.take (k + 1)).map (hr 0)) = some (s1 (l.take (k + 1))) := by
        rw [total_eq hn (by simp; omega) (fun x hx => ?_), s1_map]
        obtain ⟨y, hy, e⟩ := List.mem_map.1 hx
        rw [← e]
        exact hok 0 y (hb y (List.mem_of_mem_take hy))
      have t2 : D63 n ((l.drop k).map (hr 1)) = some (s2 (l.drop k)) := by
        rw [total_eq hn (by simp; omega) (fun x hx => ?_), s2_map]
        obtain ⟨y, hy, e⟩ := List.mem_map.1 hx
        rw [← e]
        exact hok 1 y (hb y (List.mem_of_mem_drop hy))
      have c1 := s1_bnd (l := l.take (k + 1)) (fun s h => hb s (List.mem_of_mem_take h))
      have c2 := s2_bnd (l := l.drop k) (fun s h => hb s (List.mem_of_mem_drop h))
      rw [List.length_take] at c1
      rw [List.length_drop] at c2
      rw [dlt_t hlt, cond_true, wr_succ (by omega), b1, b2, Int.toNat_natCast, Int.toNat_natCast, cond_true, all_eq hn (.inl rfl) (by simp; omega), Option.bind_some, t1, Option.bind_some, cond_true, all_eq hn (.inr rfl) (by simp; omega), Option.bind_some, t2, Option.bind_some,
        lim_dec (by simp [sms_len]; omega), cond_true, wr_ok (by omega) (by omega), ← ih, take_snoc (l := sms 0 l) (by rw [sms_len]; exact hlt), sms_get hlt, Int.zero_add]
    · rw [dlt_f hlt, cond_false, List.take_of_length_le (by rw [sms_len]; omega)]
theorem sums_eq {n : Nat × Nat} (hn : 1000 ≤ n.1) {l : List (Int × Int)} (hs : l.length < 100) (hb : ∀ s ∈ l, Ok s) : D66 n l = some (sms 0 l) := by
  unfold D66
  exact sums_loop n hn l hs hb n.1 0 (by omega) (by omega)
theorem time_eq {n : Nat × Nat} (hn : 1000 ≤ n.1) {l : List (Int × Int)} (h0 : 0 < l.length) (hs : l.length < 100) (hb : ∀ s ∈ l, Ok s) : D61 n l = some (tm 0 0 l) := by
  unfold D61
  rw [sums_eq hn hs hb, Option.bind_some]
  match l, h0 with
  | s :: l, _ =>
    have ho := hb s (by simp)
    unfold Ok at ho
    rw [tm_cons ho.1]
    simp only [sms, Int.zero_add]
    rw [show inB 0 ((s.1 + s.2 + s2 l) :: sms s.1 l).length = true from inB_nat (k := 0) (by simp), cond_true]
    rw [show idx ((s.1 + s.2 + s2 l) :: sms s.1 l) 0 = some (s.1 + s.2 + s2 l) from rfl, Option.bind_some]
    rw [show bounds (some 1) none none ((s.1 + s.2 + s2 l) :: sms s.1 l).length = true by simp [bounds]; omega, cond_true]
    simp only [Int.toNat_one, Nat.zero_add, List.drop_succ_cons, List.drop_zero, List.length_cons, Nat.add_sub_cancel]
    rw [List.take_of_length_le (Nat.le_refl _), great_eq hn (by rw [sms_len]; simp at hs; omega)]
    rfl
def timeS (l : List (Int × Int)) (o : List Int) : Int × Int := if (put l o).2 ≠ 0 then (0, (put l o).2) else (tm 0 0 (pk l o), 0)
theorem ord_pk {l : List (Int × Int)} {o : List Int} (hg : Good l) (ho : Ord l.length o) : 0 < (pk l o).length ∧ (pk l o).length < 100 := by
  rw [pk_len, ho.len]
  have := hg.pos
  have := hg.len
  omega
theorem Time_eq {n : Nat × Nat} (hn : 1000 ≤ n.1) {o : List Int} (hs : o.length < 800) (l : List (Int × Int)) : D19 n l o = some (timeS l o) := by
  unfold D19 timeS
  rw [put_eq hn hs, Option.bind_some]
  by_cases h : (put l o).2 = 0
  · obtain ⟨hg, ho⟩ := put_zero.1 h
    rw [show ((put l o).2 != 0) = false by simp [h], cond_false, if_neg (by simpa using h), put_ord hg ho, time_eq hn (ord_pk hg ho).1 (ord_pk hg ho).2 (pk_ok hg ho)]
    rfl
  · rw [show ((put l o).2 != 0) = true by simpa using h, cond_true, if_pos h]
theorem foldl_max_mem : ∀ (l : List Int) (a : Int), l.foldl max a = a ∨ l.foldl max a ∈ l
  | [], a => .inl rfl
  | x :: l, a => by
    rw [List.foldl_cons]
    rcases foldl_max_mem l (max a x) with h | h
    · by_cases e : a ≤ x
      · rw [h, Int.max_eq_right e]; exact .inr (by simp)
      · rw [h, Int.max_eq_left (by omega)]; exact .inl rfl
    · exact .inr (List.mem_cons_of_mem _ h)
theorem foldl_max_ge : ∀ (l : List Int) (a : Int), a ≤ l.foldl max a ∧ ∀ x ∈ l, x ≤ l.foldl max a
  | [], a => ⟨Int.le_refl _, fun x h => by simp at h⟩
  | y :: l, a => by
    rw [List.foldl_cons]
    obtain ⟨h1, h2⟩ := foldl_max_ge l (max a y)
    refine ⟨by omega, fun x hx => ?_⟩
    rcases List.mem_cons.1 hx with e | hx
    · subst e; omega
    · exact h2 x hx
/-- The time is one of the sums, and none is greater. -/
theorem tm_mem {l : List (Int × Int)} (h0 : 0 < l.length) (hb : ∀ s ∈ l, Ok s) : tm 0 0 l ∈ sms 0 l := by
  match l, h0 with
  | s :: l, _ =>
    have ho := hb s (by simp)
    unfold Ok at ho
    rw [tm_cons ho.1]
    simp only [sms, Int.zero_add]
    rcases foldl_max_mem (sms s.1 l) (s.1 + s.2 + s2 l) with h | h
    · rw [h]; simp
    · exact List.mem_cons_of_mem _ h
theorem tm_ge {l : List (Int × Int)} (hb : ∀ s ∈ l, Ok s) {x : Int} (hx : x ∈ sms 0 l) : x ≤ tm 0 0 l := by
  rw [tm_sms]
  exact (foldl_max_ge _ _).2 x hx
theorem tm_bnd {l : List (Int × Int)} (hb : ∀ s ∈ l, Ok s) : 0 ≤ tm 0 0 l ∧ tm 0 0 l ≤ 100 * l.length := by
  by_cases h0 : 0 < l.length
  · obtain ⟨k, hk, e⟩ := List.getElem_of_mem (tm_mem h0 hb)
    rw [sms_len] at hk
    rw [sms_get hk] at e
    have c1 := s1_bnd (l := l.take (k + 1)) (fun s h => hb s (List.mem_of_mem_take h))
    have c2 := s2_bnd (l := l.drop k) (fun s h => hb s (List.mem_of_mem_drop h))
    rw [List.length_take] at c1
    rw [List.length_drop] at c2
    omega
  · rw [List.length_eq_zero_iff.1 (by omega : l.length = 0)]
    simp [tm]
/-- What a sheet adds to the bound of a machine and hours. -/
def ct (m : Int) (h : Int) (s : Int × Int) : Int := if hr m s < h then min s.1 s.2 else hr (1 - m) s
def cs (m : Int) (h : Int) : List (Int × Int) → Int
  | [] => 0
  | s :: l => ct m h s + cs m h l
def bnd (l : List (Int × Int)) (m : Int) (h : Int) : Int := h + cs m h l
theorem cs_append (m h : Int) : ∀ l k : List (Int × Int), cs m h (l ++ k) = cs m h l + cs m h k
  | [], k => by simp [cs]
  | s :: l, k => by simp only [List.cons_append, cs, cs_append m h l k]; omega
theorem cs_map (m h : Int) : ∀ l : List (Int × Int), (l.map (ct m h)).sum = cs m h l
  | [] => rfl
  | s :: l => by simp only [List.map_cons, List.sum_cons, cs_map m h l, cs]
theorem cs_perm {m h : Int} {l k : List (Int × Int)} (hp : l.Perm k) : cs m h l = cs m h k := by
  rw [← cs_map, ← cs_map]
  exact sum_perm (hp.map _)
theorem hr0 (s : Int × Int) : hr 0 s = s.1 := rfl
theorem hr1 (s : Int × Int) : hr 1 s = s.2 := rfl
theorem ct0 (h : Int) (s : Int × Int) : ct 0 h s = if s.1 < h then min s.1 s.2 else s.2 := rfl
theorem ct1 (h : Int) (s : Int × Int) : ct 1 h s = if s.2 < h then min s.1 s.2 else s.1 := rfl
theorem cs0_le (h : Int) : ∀ l : List (Int × Int), cs 0 h l ≤ s2 l
  | [] => by simp [cs, s2]
  | s :: l => by
    have := cs0_le h l
    simp only [cs, s2, ct0]
    split <;> omega
theorem cs1_le (h : Int) : ∀ l : List (Int × Int), (∀ s ∈ l, s.2 < h) → cs 1 h l ≤ s2 l
  | [], _ => by simp [cs, s2]
  | s :: l, hl => by
    have := cs1_le h l (fun s hs => hl s (by simp [hs]))
    have := hl s (by simp)
    simp only [cs, s2, ct1]
    split <;> omega
theorem tm_low (a b : Int) (l : List (Int × Int)) : b + s2 l ≤ tm a b l := by
  rw [tm_sms]
  exact (foldl_max_ge _ _).1
theorem weak0 {h : Int} : ∀ (l : List (Int × Int)) (a b : Int), (∃ s ∈ l, h ≤ s.1) → a + h + cs 0 h l ≤ tm a b l
  | [], a, b, hx => by obtain ⟨s, hs, _⟩ := hx; simp at hs
  | s :: l, a, b, hx => by
    simp only [tm, cs, ct0]
    by_cases e : s.1 < h
    · rw [if_pos e]
      have := weak0 (h := h) l (a + s.1) (max (a + s.1) b + s.2) (by
        obtain ⟨t, ht, hh⟩ := hx
        rcases List.mem_cons.1 ht with e' | ht
        · subst e'; omega
        · exact ⟨t, ht, hh⟩)
      omega
    · rw [if_neg e]
      have := tm_low (a + s.1) (max (a + s.1) b + s.2) l
      have := cs0_le h l
      omega
theorem weak1 {h : Int} : ∀ (l : List (Int × Int)) (a b : Int), (∃ s ∈ l, h ≤ s.2) → a + h + cs 1 h l ≤ tm a b l
  | [], a, b, hx => by obtain ⟨s, hs, _⟩ := hx; simp at hs
  | s :: l, a, b, hx => by
    simp only [tm, cs, ct1]
    by_cases e : ∃ t ∈ l, h ≤ t.2
    · have := weak1 (h := h) l (a + s.1) (max (a + s.1) b + s.2) e
      split <;> omega
    · have hl : ∀ t ∈ l, t.2 < h := fun t ht => by
        by_cases c : t.2 < h
        · exact c
        · exact absurd ⟨t, ht, by omega⟩ e
      have hs : h ≤ s.2 := by
        obtain ⟨t, ht, hh⟩ := hx
        rcases List.mem_cons.1 ht with e' | ht
        · subst e'; exact hh
        · have := hl t ht; omega
      rw [if_neg (by omega)]
      have := tm_low (a + s.1) (max (a + s.1) b + s.2) l
      have := cs1_le h l hl
      omega
/-- No bound is greater than the time of any order. -/
theorem weak {l : List (Int × Int)} {m : Int} (hm : m = 0 ∨ m = 1) {s : Int × Int} (hs : s ∈ l) : bnd l m (hr m s) ≤ tm 0 0 l := by
  unfold bnd
  rcases hm with e | e <;> subst e
  · have := weak0 (h := hr 0 s) l 0 0 ⟨s, hs, Int.le_refl _⟩
    omega
  · have := weak1 (h := hr 1 s) l 0 0 ⟨s, hs, Int.le_refl _⟩
    omega
theorem bnd_perm {l k : List (Int × Int)} (m h : Int) (hp : l.Perm k) : bnd l m h = bnd k m h := by
  unfold bnd
  rw [cs_perm hp]
/-- One sheet may stand before another one by the rule. -/
def Bf (s t : Int × Int) : Prop := (s.1 < s.2 ∧ ¬ t.1 < t.2) ∨ (s.1 < s.2 ∧ t.1 < t.2 ∧ s.1 ≤ t.1) ∨ (¬ s.1 < s.2 ∧ ¬ t.1 < t.2 ∧ t.2 ≤ s.2)
theorem cs0_ge_a {h : Int} : ∀ {l : List (Int × Int)}, (∀ s ∈ l, s.1 < s.2 ∧ s.1 ≤ h) → s1 l ≤ cs 0 h l
  | [], _ => by simp [cs, s1]
  | s :: l, hl => by
    have := cs0_ge_a (h := h) (l := l) (fun s hs => hl s (by simp [hs]))
    have := hl s (by simp)
    simp only [cs, s1, ct0]
    split <;> omega
theorem cs0_ge_b {h : Int} : ∀ {l : List (Int × Int)}, (∀ s ∈ l, s.1 < s.2 → h ≤ s.1) → s2 l ≤ cs 0 h l
  | [], _ => by simp [cs, s2]
  | s :: l, hl => by
    have := cs0_ge_b (h := h) (l := l) (fun s hs => hl s (by simp [hs]))
    have := hl s (by simp)
    simp only [cs, s2, ct0]
    split <;> omega
theorem cs1_ge_b {h : Int} : ∀ {l : List (Int × Int)}, (∀ s ∈ l, ¬ s.1 < s.2 ∧ s.2 ≤ h) → s2 l ≤ cs 1 h l
  | [], _ => by simp [cs, s2]
  | s :: l, hl => by
    have := cs1_ge_b (h := h) (l := l) (fun s hs => hl s (by simp [hs]))
    have := hl s (by simp)
    simp only [cs, s2, ct1]
    split <;> omega
theorem cs1_ge_a {h : Int} : ∀ {l : List (Int × Int)}, (∀ s ∈ l, ¬ s.1 < s.2 → h ≤ s.2) → s1 l ≤ cs 1 h l
  | [], _ => by simp [cs, s1]
  | s :: l, hl => by
    have := cs1_ge_a (h := h) (l := l) (fun s hs => hl s (by simp [hs]))
    have := hl s (by simp)
    simp only [cs, s1, ct1]
    split <;> omega
/-- Sheets as the rule has them: one bound is at least the time. -/
theorem strong {l : List (Int × Int)} (h0 : 0 < l.length) (hb : ∀ s ∈ l, Ok s) (hp : l.Pairwise Bf) : ∃ m s, (m = 0 ∨ m = 1) ∧ s ∈ l ∧ tm 0 0 l = bnd l m (hr m s) := by
  obtain ⟨k, hk, e⟩ := List.getElem_of_mem (tm_mem h0 hb)
  rw [sms_len] at hk
  rw [sms_get hk, Int.zero_add] at e
  have hl : l = l.take k ++ l[k] :: l.drop (k + 1) := by rw [← drop_cons hk, List.take_append_drop]
  have hin : l[k] ∈ l := List.getElem_mem hk
  rw [take_snoc hk, drop_cons hk, s1_append] at e
  generalize l.take k = A at hl e
  generalize l.drop (k + 1) = B at hl e
  generalize l[k] = s at hl hin e
  simp only [s1, s2] at e
  have hp' := hp
  rw [hl, List.pairwise_append, List.pairwise_cons] at hp'
  obtain ⟨_, ⟨pB, _⟩, pA⟩ := hp'
  have pA : ∀ t ∈ A, Bf t s := fun t ht => pA t ht s (by simp)
  by_cases f : s.1 < s.2
  · refine ⟨0, s, .inl rfl, hin, Int.le_antisymm ?_ (weak (.inl rfl) hin)⟩
    have c : bnd l 0 (hr 0 s) = s.1 + (cs 0 s.1 A + (s.2 + cs 0 s.1 B)) := by
      rw [hl]
      simp only [bnd, cs_append, cs, ct0, hr0, Int.lt_irrefl, if_false]
    have cA := cs0_ge_a (h := s.1) (l := A) (fun t ht => by have := pA t ht; unfold Bf at this; omega)
    have cB := cs0_ge_b (h := s.1) (l := B) (fun t ht => by have := pB t ht; unfold Bf at this; omega)
    omega
  · refine ⟨1, s, .inr rfl, hin, Int.le_antisymm ?_ (weak (.inr rfl) hin)⟩
    have c : bnd l 1 (hr 1 s) = s.2 + (cs 1 s.2 A + (s.1 + cs 1 s.2 B)) := by
      rw [hl]
      simp only [bnd, cs_append, cs, ct1, hr1, Int.lt_irrefl, if_false]
    have cA := cs1_ge_a (h := s.2) (l := A) (fun t ht => by have := pA t ht; unfold Bf at this; omega)
    have cB := cs1_ge_b (h := s.2) (l := B) (fun t ht => by have := pB t ht; unfold Bf at this; omega)
    omega
end Go.Proofs.Ytnlbhjmbaedadaa
set_option linter.unusedVariables false
set_option linter.unusedSimpArgs false
set_option maxRecDepth 100000
namespace Go.Proofs.Ytnlbhjmbaedadaa
open Go.Vi
/-D 70 -/
/-D 28 -/
end Go.Proofs.Ytnlbhjmbaedadaa
set_option linter.unusedVariables false
set_option linter.unusedSimpArgs false
namespace Go.Proofs.Ytnlbhjmbaedadaa
open Go.Vi
def sh (l : List (Int × Int)) (i : Int) : Int × Int := l.getD i.toNat (0, 0)
theorem idx_sh {l : List (Int × Int)} {i : Int} (h0 : 0 ≤ i) (h1 : i < l.length) : idx l i = some (sh l i) := by
  rw [idx_int (k := i.toNat) (by omega) (by omega)]
  simp [sh, show i.toNat < l.length by omega]
theorem sh_mem {l : List (Int × Int)} {i : Int} (h0 : 0 ≤ i) (h1 : i < l.length) : sh l i ∈ l := by
  unfold sh
  rw [List.getD_eq_getElem?_getD, List.getElem?_eq_getElem (by omega), Option.getD_some]
  exact List.getElem_mem _
/-- A sheet is before another one in the order of the rule. -/
def Bef (l : List (Int × Int)) (i j : Int) : Prop :=
  ((sh l i).1 < (sh l i).2 ∧ ¬ (sh l j).1 < (sh l j).2) ∨ ((sh l i).1 < (sh l i).2 ∧ (sh l j).1 < (sh l j).2 ∧ ((sh l i).1 < (sh l j).1 ∨ (sh l i).1 = (sh l j).1 ∧ i < j)) ∨
  (¬ (sh l i).1 < (sh l i).2 ∧ ¬ (sh l j).1 < (sh l j).2 ∧ ((sh l j).2 < (sh l i).2 ∨ (sh l j).2 = (sh l i).2 ∧ i < j))
instance (l : List (Int × Int)) (i j : Int) : Decidable (Bef l i j) := by unfold Bef; exact inferInstance
theorem Bef.trans {l : List (Int × Int)} {i j k : Int} (h1 : Bef l i j) (h2 : Bef l j k) : Bef l i k := by
  unfold Bef at *
  omega
theorem Bef.bf {l : List (Int × Int)} {i j : Int} (h : Bef l i j) : Bf (sh l i) (sh l j) := by
  unfold Bef at h
  unfold Bf
  omega
/-- Numbers are put into a list that falls, and numbers one after the other. -/
def insR (c : Int → Int → Bool) (x : Int) : List Int → List Int
  | [] => [x]
  | y :: Q => bif c x y then y :: insR c x Q else x :: y :: Q
def srt (c : Int → Int → Bool) : List Int → List Int → List Int
  | Q, [] => Q
  | Q, x :: r => srt c (insR c x Q) r
theorem insR_perm (c : Int → Int → Bool) (x : Int) : ∀ Q, (insR c x Q).Perm (x :: Q)
  | [] => List.Perm.refl _
  | y :: Q => by
    unfold insR
    cases c x y
    · exact List.Perm.refl _
    · exact (List.Perm.cons y (insR_perm c x Q)).trans (List.Perm.swap x y Q)
theorem insR_len (c : Int → Int → Bool) (x : Int) (Q : List Int) : (insR c x Q).length = Q.length + 1 := (insR_perm c x Q).length_eq
theorem srt_perm (c : Int → Int → Bool) : ∀ r Q, (srt c Q r).Perm (r ++ Q)
  | [], Q => List.Perm.refl _
  | x :: r, Q => by
    unfold srt
    refine (srt_perm c r _).trans (((insR_perm c x Q).append_left r).trans ?_)
    exact List.perm_middle
theorem insR_sort {c : Int → Int → Bool} {R : Int → Int → Prop} (ht : ∀ i j k, R i j → R j k → R i k) {x : Int} : ∀ {Q : List Int}, (∀ y ∈ Q, (c x y = true → R x y) ∧ (c x y = false → R y x)) → Q.Pairwise (fun a b => R b a) → (insR c x Q).Pairwise (fun a b => R b a)
  | [], _, _ => by simp [insR]
  | y :: Q, h, hp => by
    rw [List.pairwise_cons] at hp
    unfold insR
    cases e : c x y
    · rw [cond_false]
      have hy := (h y (by simp)).2 e
      refine List.pairwise_cons.2 ⟨fun z hz => ?_, List.pairwise_cons.2 hp⟩
      rcases List.mem_cons.1 hz with e' | hz
      · subst e'; exact hy
      · exact ht _ _ _ (hp.1 z hz) hy
    · rw [cond_true]
      refine List.pairwise_cons.2 ⟨fun z hz => ?_, insR_sort ht (fun y hy => h y (by simp [hy])) hp.2⟩
      rcases List.mem_cons.1 ((insR_perm c x Q).mem_iff.1 hz) with e' | hz
      · subst e'; exact (h y (by simp)).1 e
      · exact hp.1 z hz
theorem srt_sort {c : Int → Int → Bool} {R : Int → Int → Prop} (ht : ∀ i j k, R i j → R j k → R i k) {P : Int → Prop} (hc : ∀ x y, P x → P y → y < x → (c x y = true → R x y) ∧ (c x y = false → R y x)) : ∀ {r Q : List Int}, (∀ x ∈ r, P x) → (∀ x ∈ Q, P x) → (∀ x ∈ r, ∀ y ∈ Q, y < x) → r.Pairwise (· < ·) → Q.Pairwise (fun a b => R b a) → (srt c Q r).Pairwise (fun a b => R b a)
  | [], Q, _, _, _, _, hQ => hQ
  | x :: r, Q, pr, pQ, hlt, hr, hQ => by
    unfold srt
    rw [List.pairwise_cons] at hr
    refine srt_sort ht hc (fun y hy => pr y (by simp [hy])) (fun y hy => ?_) (fun y hy z hz => ?_) hr.2 (insR_sort ht (fun y hy => hc x y (pr x (by simp)) (pQ y hy) (hlt x (by simp) y hy)) hQ)
    · rcases List.mem_cons.1 ((insR_perm c x Q).mem_iff.1 hy) with e | hy
      · subst e; exact pr y (by simp)
      · exact pQ y hy
    · rcases List.mem_cons.1 ((insR_perm c x Q).mem_iff.1 hz) with e | hz
      · subst e; exact hr.1 y hy
      · exact hlt y (by simp [hy]) z hz
theorem idx_at {α : Type} {A r : List α} {y : α} {k : Nat} (h : A.length = k) : idx (A ++ y :: r) (k : Int) = some y := by
  rw [idx_nat (by simp; omega)]
  simp [← h]
theorem set_at {α : Type} {A r : List α} {y z : α} {k : Nat} (h : A.length = k) : (A ++ y :: r).set k z = A ++ z :: r := by
  subst h
  induction A with
  | nil => rfl
  | cons a A ih => simp only [List.cons_append, List.length_cons, List.set_cons_succ, ih]
def cm86 (l : List (Int × Int)) (x y : Int) : Bool := decide ((sh l x).1 < (sh l y).1)
def cm87 (l : List (Int × Int)) (x y : Int) : Bool := decide ((sh l y).2 < (sh l x).2)
theorem cmp86 (n : Nat × Nat) {l : List (Int × Int)} (hb : ∀ s ∈ l, Ok s) {i j : Int} (hi : 0 ≤ i ∧ i < l.length) (hj : 0 ≤ j ∧ j < l.length) : ∃ r : Int, D86 n i j l = some r ∧ decide (r < 0) = cm86 l i j := by
  unfold D86 cm86
  rw [idx_sh hi.1 hi.2, idx_sh hj.1 hj.2]
  have o1 := hb _ (sh_mem hi.1 hi.2)
  have o2 := hb _ (sh_mem hj.1 hj.2)
  unfold Ok at o1 o2
  refine ⟨(sh l i).1 - (sh l j).1, ?_, ?_⟩
  · simp only [Option.bind_some]
    rw [wr_ok (by omega) (by omega)]
  · exact decide_eq_decide.2 (by omega)
theorem cmp87 (n : Nat × Nat) {l : List (Int × Int)} (hb : ∀ s ∈ l, Ok s) {i j : Int} (hi : 0 ≤ i ∧ i < l.length) (hj : 0 ≤ j ∧ j < l.length) : ∃ r : Int, D87 n i j l = some r ∧ decide (r < 0) = cm87 l i j := by
  unfold D87 cm87
  rw [idx_sh hi.1 hi.2, idx_sh hj.1 hj.2]
  have o1 := hb _ (sh_mem hi.1 hi.2)
  have o2 := hb _ (sh_mem hj.1 hj.2)
  unfold Ok at o1 o2
  refine ⟨(sh l j).2 - (sh l i).2, ?_, ?_⟩
  · simp only [Option.bind_some]
    rw [wr_ok (by omega) (by omega)]
  · exact decide_eq_decide.2 (by omega)
theorem in86_loop (n : Nat × Nat) (l : List (Int × Int)) (hb : ∀ s ∈ l, Ok s) (f : Int → Int → Int → List Int → List (Int × Int) → Option R95c86io1001) (b i : Int) (x : Int) (hx : 0 ≤ x ∧ x < l.length) : ∀ (m : Nat) (Q T : List Int), Q.length < m → Q.length < 1000 → (∀ y ∈ Q, 0 ≤ y ∧ y < l.length) →
    DL95c86io1001_2 n f m 0 b i (Q.length : Int) (Q.reverse ++ x :: T) l = f 0 b (wr .i64 (i + 1)) ((insR (cm86 l) x Q).reverse ++ T) l
  | 0, Q, T, h, _, _ => by omega
  | m + 1, [], T, h, _, hQ => by
    rw [DL95c86io1001_2_succ]
    unfold DF95c86io1001_2
    simp [insR]
  | m + 1, y :: Q, T, h, h8, hQ => by
    rw [DL95c86io1001_2_succ]
    unfold DF95c86io1001_2
    rw [List.length_cons] at h h8
    have hy := hQ y (by simp)
    obtain ⟨r, hr, hd⟩ := cmp86 n hb hx hy
    have ih := in86_loop n l hb f b i x hx m Q (y :: T) (by omega) (by omega) (fun z hz => hQ z (by simp [hz]))
    have e : (y :: Q).reverse ++ x :: T = Q.reverse ++ y :: x :: T := by simp
    have w : wr .i64 (((y :: Q).length : Int) - 1) = (Q.length : Int) := by rw [List.length_cons, wr_ok (by omega) (by omega)]; omega
    have a1 : ∀ T' : List Int, idx (Q.reverse ++ y :: x :: T') ((y :: Q).length : Int) = some x := fun T' => by
      have := idx_at (A := Q.reverse ++ [y]) (r := T') (y := x) (k := (y :: Q).length) (by simp)
      simpa using this
    have a2 : ∀ T' : List Int, idx (Q.reverse ++ y :: T') (Q.length : Int) = some y := fun T' => idx_at (by simp)
    have a3 : (Q.reverse ++ y :: x :: T).set (y :: Q).length y = Q.reverse ++ y :: y :: T := by
      have := set_at (A := Q.reverse ++ [y]) (r := T) (y := x) (z := y) (k := (y :: Q).length) (by simp)
      rw [List.append_assoc, List.append_assoc] at this
      exact this
    have a4 : (Q.reverse ++ y :: y :: T).set Q.length x = Q.reverse ++ x :: y :: T := set_at (by simp)
    rw [e]
    rw [decide_eq_true (show (((y :: Q).length : Nat) : Int) > 0 by rw [List.length_cons]; omega), w]
    simp only [beq_self_eq_true, cond_true]
    rw [inB_nat (show (y :: Q).length < (Q.reverse ++ y :: x :: T).length by simp <;> omega), inB_nat (show Q.length < (Q.reverse ++ y :: x :: T).length by simp <;> omega)]
    simp only [cond_true, a1, a2, Option.bind_some, hr, hd]
    unfold insR
    cases cm86 l x y
    · simp only [cond_false]
      congr 1
      simp
    · simp only [cond_true]
      rw [Int.toNat_natCast, Int.toNat_natCast, a3, a2, inB_nat (show Q.length < (Q.reverse ++ y :: y :: T).length by simp <;> omega)]
      simp only [cond_true, Option.bind_some, a4, ih]
      congr 1
      simp
theorem so86_loop (n : Nat × Nat) (hn : 1000 ≤ n.1) (l : List (Int × Int)) (hb : ∀ s ∈ l, Ok s) : ∀ (m : Nat) (r Q : List Int), r.length < m → Q.length + r.length < 900 → (∀ y ∈ Q, 0 ≤ y ∧ y < l.length) → (∀ y ∈ r, 0 ≤ y ∧ y < l.length) →
    DL95c86io1001_1 n m 0 ((Q.length + r.length : Nat) : Int) (Q.length : Int) (Q.reverse ++ r) l = some ((), (srt (cm86 l) Q r).reverse, l, ())
  | 0, r, Q, h, _, _, _ => by omega
  | m + 1, [], Q, h, _, _, _ => by
    rw [DL95c86io1001_1_succ]
    unfold DF95c86io1001_1
    rw [dlt_f (by simp), cond_false]
    simp [srt]
  | m + 1, x :: r, Q, h, h8, hQ, hr => by
    rw [DL95c86io1001_1_succ]
    unfold DF95c86io1001_1
    rw [List.length_cons] at h h8
    have ih := so86_loop n hn l hb m r (insR (cm86 l) x Q) (by omega) (by rw [insR_len]; omega) (fun y hy => by
      rcases List.mem_cons.1 ((insR_perm _ x Q).mem_iff.1 hy) with e | hy
      · subst e; exact hr y (by simp)
      · exact hQ y hy) (fun y hy => hr y (by simp [hy]))
    rw [dlt_t (by simp), cond_true, in86_loop n l hb _ _ _ x (hr x (by simp)) n.1 Q r (by omega) (by omega) hQ, wr_succ (by omega)]
    rw [insR_len] at ih
    rw [show Q.length + 1 + r.length = Q.length + (x :: r).length by rw [List.length_cons]; omega] at ih
    rw [ih]
    rfl
theorem sort86_eq {n : Nat × Nat} (hn : 1000 ≤ n.1) {l : List (Int × Int)} (hb : ∀ s ∈ l, Ok s) {r : List Int} (h7 : r.length ≤ 7) (hr : ∀ y ∈ r, 0 ≤ y ∧ y < l.length) : D85c86io11 n r l = some ((), (srt (cm86 l) [] r).reverse, l, ()) := by
  have h95 : D95c86io1001 n r 0 (r.length : Int) l = some ((), (srt (cm86 l) [] r).reverse, l, ()) := by
    unfold D95c86io1001
    match r, h7, hr with
    | [], _, _ =>
      have : n.1 = (n.1 - 1) + 1 := by omega
      rw [this, DL95c86io1001_1_succ]
      unfold DF95c86io1001_1
      rw [show wr .i64 ((0 : Int) + 1) = 1 by rw [wr_ok (by omega) (by omega)]; omega]
      rfl
    | x :: r, h7, hr =>
      have := so86_loop n hn l hb n.1 r [x] (by simp at h7; omega) (by simp at h7 ⊢; omega) (fun y hy => by rw [List.mem_singleton] at hy; subst hy; exact hr y (by simp)) (fun y hy => hr y (by simp [hy]))
      rw [show wr .i64 ((0 : Int) + 1) = 1 by rw [wr_ok (by omega) (by omega)]; omega]
      simpa [srt, insR, Nat.add_comm] using this
  have hl : (srt (cm86 l) [] r).reverse.length = r.length := by
    rw [List.length_reverse, (srt_perm (cm86 l) r []).length_eq]
    simp
  have h94 : D94c86io101 n r (r.length : Int) l = some ((), (srt (cm86 l) [] r).reverse, l, ()) := by
    unfold D94c86io101
    obtain ⟨k, hk⟩ : ∃ k, n.1 = k + 1 := ⟨n.1 - 1, by omega⟩
    rw [hk, DL94c86io101_1_succ]
    unfold DF94c86io101_1
    rw [decide_eq_false (show ¬ (20 : Int) ≤ (r.length : Int) by omega), cond_false, h95]
    simp only [Option.bind_some]
    rw [show Nat.beq (srt (cm86 l) [] r).reverse.length r.length = true by rw [hl]; exact Nat.beq_refl _, cond_true, hk, DL94c86io101_2_succ]
    unfold DF94c86io101_2
    rw [decide_eq_false (show ¬ (20 : Int) < (r.length : Int) by omega), cond_false]
  unfold D85c86io11
  rw [h94]
  simp only [Option.bind_some]
  rw [show Nat.beq (srt (cm86 l) [] r).reverse.length r.length = true by rw [hl]; exact Nat.beq_refl _, cond_true]
theorem in87_loop (n : Nat × Nat) (l : List (Int × Int)) (hb : ∀ s ∈ l, Ok s) (f : Int → Int → Int → List Int → List (Int × Int) → Option R95c87io1001) (b i : Int) (x : Int) (hx : 0 ≤ x ∧ x < l.length) : ∀ (m : Nat) (Q T : List Int), Q.length < m → Q.length < 1000 → (∀ y ∈ Q, 0 ≤ y ∧ y < l.length) →
    DL95c87io1001_2 n f m 0 b i (Q.length : Int) (Q.reverse ++ x :: T) l = f 0 b (wr .i64 (i + 1)) ((insR (cm87 l) x Q).reverse ++ T) l
  | 0, Q, T, h, _, _ => by omega
  | m + 1, [], T, h, _, hQ => by
    rw [DL95c87io1001_2_succ]
    unfold DF95c87io1001_2
    simp [insR]
  | m + 1, y :: Q, T, h, h8, hQ => by
    rw [DL95c87io1001_2_succ]
    unfold DF95c87io1001_2
    rw [List.length_cons] at h h8
    have hy := hQ y (by simp)
    obtain ⟨r, hr, hd⟩ := cmp87 n hb hx hy
    have ih := in87_loop n l hb f b i x hx m Q (y :: T) (by omega) (by omega) (fun z hz => hQ z (by simp [hz]))
    have e : (y :: Q).reverse ++ x :: T = Q.reverse ++ y :: x :: T := by simp
    have w : wr .i64 (((y :: Q).length : Int) - 1) = (Q.length : Int) := by rw [List.length_cons, wr_ok (by omega) (by omega)]; omega
    have a1 : ∀ T' : List Int, idx (Q.reverse ++ y :: x :: T') ((y :: Q).length : Int) = some x := fun T' => by
      have := idx_at (A := Q.reverse ++ [y]) (r := T') (y := x) (k := (y :: Q).length) (by simp)
      simpa using this
    have a2 : ∀ T' : List Int, idx (Q.reverse ++ y :: T') (Q.length : Int) = some y := fun T' => idx_at (by simp)
    have a3 : (Q.reverse ++ y :: x :: T).set (y :: Q).length y = Q.reverse ++ y :: y :: T := by
      have := set_at (A := Q.reverse ++ [y]) (r := T) (y := x) (z := y) (k := (y :: Q).length) (by simp)
      rw [List.append_assoc, List.append_assoc] at this
      exact this
    have a4 : (Q.reverse ++ y :: y :: T).set Q.length x = Q.reverse ++ x :: y :: T := set_at (by simp)
    rw [e]
    rw [decide_eq_true (show (((y :: Q).length : Nat) : Int) > 0 by rw [List.length_cons]; omega), w]
    simp only [beq_self_eq_true, cond_true]
    rw [inB_nat (show (y :: Q).length < (Q.reverse ++ y :: x :: T).length by simp <;> omega), inB_nat (show Q.length < (Q.reverse ++ y :: x :: T).length by simp <;> omega)]
    simp only [cond_true, a1, a2, Option.bind_some, hr, hd]
    unfold insR
    cases cm87 l x y
    · simp only [cond_false]
      congr 1
      simp
    · simp only [cond_true]
      rw [Int.toNat_natCast, Int.toNat_natCast, a3, a2, inB_nat (show Q.length < (Q.reverse ++ y :: y :: T).length by simp <;> omega)]
      simp only [cond_true, Option.bind_some, a4, ih]
      congr 1
      simp
theorem so87_loop (n : Nat × Nat) (hn : 1000 ≤ n.1) (l : List (Int × Int)) (hb : ∀ s ∈ l, Ok s) : ∀ (m : Nat) (r Q : List Int), r.length < m → Q.length + r.length < 900 → (∀ y ∈ Q, 0 ≤ y ∧ y < l.length) → (∀ y ∈ r, 0 ≤ y ∧ y < l.length) →
    DL95c87io1001_1 n m 0 ((Q.length + r.length : Nat) : Int) (Q.length : Int) (Q.reverse ++ r) l = some ((), (srt (cm87 l) Q r).reverse, l, ())
  | 0, r, Q, h, _, _, _ => by omega
  | m + 1, [], Q, h, _, _, _ => by
    rw [DL95c87io1001_1_succ]
    unfold DF95c87io1001_1
    rw [dlt_f (by simp), cond_false]
    simp [srt]
  | m + 1, x :: r, Q, h, h8, hQ, hr => by
    rw [DL95c87io1001_1_succ]
    unfold DF95c87io1001_1
    rw [List.length_cons] at h h8
    have ih := so87_loop n hn l hb m r (insR (cm87 l) x Q) (by omega) (by rw [insR_len]; omega) (fun y hy => by
      rcases List.mem_cons.1 ((insR_perm _ x Q).mem_iff.1 hy) with e | hy
      · subst e; exact hr y (by simp)
      · exact hQ y hy) (fun y hy => hr y (by simp [hy]))
    rw [dlt_t (by simp), cond_true, in87_loop n l hb _ _ _ x (hr x (by simp)) n.1 Q r (by omega) (by omega) hQ, wr_succ (by omega)]
    rw [insR_len] at ih
    rw [show Q.length + 1 + r.length = Q.length + (x :: r).length by rw [List.length_cons]; omega] at ih
    rw [ih]
    rfl
theorem sort87_eq {n : Nat × Nat} (hn : 1000 ≤ n.1) {l : List (Int × Int)} (hb : ∀ s ∈ l, Ok s) {r : List Int} (h7 : r.length ≤ 7) (hr : ∀ y ∈ r, 0 ≤ y ∧ y < l.length) : D85c87io11 n r l = some ((), (srt (cm87 l) [] r).reverse, l, ()) := by
  have h95 : D95c87io1001 n r 0 (r.length : Int) l = some ((), (srt (cm87 l) [] r).reverse, l, ()) := by
    unfold D95c87io1001
    match r, h7, hr with
    | [], _, _ =>
      have : n.1 = (n.1 - 1) + 1 := by omega
      rw [this, DL95c87io1001_1_succ]
      unfold DF95c87io1001_1
      rw [show wr .i64 ((0 : Int) + 1) = 1 by rw [wr_ok (by omega) (by omega)]; omega]
      rfl
    | x :: r, h7, hr =>
      have := so87_loop n hn l hb n.1 r [x] (by simp at h7; omega) (by simp at h7 ⊢; omega) (fun y hy => by rw [List.mem_singleton] at hy; subst hy; exact hr y (by simp)) (fun y hy => hr y (by simp [hy]))
      rw [show wr .i64 ((0 : Int) + 1) = 1 by rw [wr_ok (by omega) (by omega)]; omega]
      simpa [srt, insR, Nat.add_comm] using this
  have hl : (srt (cm87 l) [] r).reverse.length = r.length := by
    rw [List.length_reverse, (srt_perm (cm87 l) r []).length_eq]
    simp
  have h94 : D94c87io101 n r (r.length : Int) l = some ((), (srt (cm87 l) [] r).reverse, l, ()) := by
    unfold D94c87io101
    obtain ⟨k, hk⟩ : ∃ k, n.1 = k + 1 := ⟨n.1 - 1, by omega⟩
    rw [hk, DL94c87io101_1_succ]
    unfold DF94c87io101_1
    rw [decide_eq_false (show ¬ (20 : Int) ≤ (r.length : Int) by omega), cond_false, h95]
    simp only [Option.bind_some]
    rw [show Nat.beq (srt (cm87 l) [] r).reverse.length r.length = true by rw [hl]; exact Nat.beq_refl _, cond_true, hk, DL94c87io101_2_succ]
    unfold DF94c87io101_2
    rw [decide_eq_false (show ¬ (20 : Int) < (r.length : Int) by omega), cond_false]
  unfold D85c87io11
  rw [h94]
  simp only [Option.bind_some]
  rw [show Nat.beq (srt (cm87 l) [] r).reverse.length r.length = true by rw [hl]; exact Nat.beq_refl _, cond_true]
def ix (n : Nat) : List Int := (List.range n).map fun i : Nat => (i : Int)
theorem ix_succ (n : Nat) : ix (n + 1) = ix n ++ [(n : Int)] := by simp [ix, List.range_succ]
theorem ix_mem {n : Nat} {i : Int} : i ∈ ix n ↔ 0 ≤ i ∧ i < n := by
  unfold ix
  rw [List.mem_map]
  constructor
  · rintro ⟨k, hk, e⟩
    rw [List.mem_range] at hk
    omega
  · intro h
    exact ⟨i.toNat, List.mem_range.2 (by omega), by omega⟩
theorem ix_lt (n : Nat) : (ix n).Pairwise (· < ·) := by
  unfold ix
  rw [List.pairwise_map]
  exact List.Pairwise.imp (fun h => by omega) (List.pairwise_lt_range (n := n))
theorem ix_len (n : Nat) : (ix n).length = n := by simp [ix]
def fa (l : List (Int × Int)) (i : Int) : Bool := decide ((sh l i).1 < (sh l i).2)
def frt (l : List (Int × Int)) (k : Nat) : List Int := (ix k).filter (fa l)
def bck (l : List (Int × Int)) (k : Nat) : List Int := (ix k).filter fun i => !fa l i
/-- The order of the rule. -/
def rl (l : List (Int × Int)) : List Int := (srt (cm86 l) [] (frt l l.length)).reverse ++ (srt (cm87 l) [] (bck l l.length)).reverse
theorem frt_len (l : List (Int × Int)) (k : Nat) : (frt l k).length ≤ k := by
  have := List.length_filter_le (fa l) (ix k)
  rw [ix_len] at this
  exact this
theorem bck_len (l : List (Int × Int)) (k : Nat) : (bck l k).length ≤ k := by
  have := List.length_filter_le (fun i => !fa l i) (ix k)
  rw [ix_len] at this
  exact this
theorem rl_perm (l : List (Int × Int)) : (rl l).Perm (ix l.length) := by
  unfold rl
  have h1 := (List.reverse_perm (srt (cm86 l) [] (frt l l.length))).trans (srt_perm (cm86 l) (frt l l.length) [])
  have h2 := (List.reverse_perm (srt (cm87 l) [] (bck l l.length))).trans (srt_perm (cm87 l) (bck l l.length) [])
  rw [List.append_nil] at h1 h2
  exact (h1.append h2).trans (List.filter_append_perm (fa l) (ix l.length))
theorem rl_ord (l : List (Int × Int)) : Ord l.length (rl l) := by
  have h := rl_perm l
  refine ⟨by rw [h.length_eq, ix_len], fun i hi => ix_mem.1 (h.mem_iff.1 hi), ?_⟩
  refine h.symm.nodup ?_
  exact List.Pairwise.imp (fun h => by omega) (ix_lt l.length)
theorem rl_sort (l : List (Int × Int)) : (rl l).Pairwise (Bef l) := by
  unfold rl
  have p1 := srt_perm (cm86 l) (frt l l.length) []
  have p2 := srt_perm (cm87 l) (bck l l.length) []
  rw [List.append_nil] at p1 p2
  have ff : ∀ x ∈ frt l l.length, fa l x = true := fun x hx => (List.mem_filter.1 hx).2
  have fb : ∀ x ∈ bck l l.length, fa l x = false := fun x hx => by simpa using (List.mem_filter.1 hx).2
  refine List.pairwise_append.2 ⟨List.pairwise_reverse.2 ?_, List.pairwise_reverse.2 ?_, fun a ha b hb => ?_⟩
  · refine srt_sort (R := Bef l) (fun i j k => Bef.trans) (P := fun x => fa l x = true) (fun x y hx hy hlt => ?_) ff (fun x hx => by simp at hx) (fun x hx y hy => by simp at hy) (List.Pairwise.filter _ (ix_lt _)) List.Pairwise.nil
    unfold fa at hx hy
    unfold cm86 Bef
    rw [decide_eq_true_iff] at hx hy
    rw [decide_eq_true_iff, decide_eq_false_iff_not]
    omega
  · refine srt_sort (R := Bef l) (fun i j k => Bef.trans) (P := fun x => fa l x = false) (fun x y hx hy hlt => ?_) fb (fun x hx => by simp at hx) (fun x hx y hy => by simp at hy) (List.Pairwise.filter _ (ix_lt _)) List.Pairwise.nil
    unfold fa at hx hy
    unfold cm87 Bef
    rw [decide_eq_false_iff_not] at hx hy
    rw [decide_eq_true_iff, decide_eq_false_iff_not]
    omega
  · rw [List.mem_reverse] at ha hb
    have h1 := ff a (p1.mem_iff.1 ha)
    have h2 := fb b (p2.mem_iff.1 hb)
    unfold fa at h1 h2
    rw [decide_eq_true_iff] at h1
    rw [decide_eq_false_iff_not] at h2
    exact .inl ⟨h1, h2⟩
theorem rule_loop (n : Nat × Nat) (hn : 1000 ≤ n.1) (l : List (Int × Int)) (hl : l.length ≤ 7) (hb : ∀ s ∈ l, Ok s) : ∀ (m k : Nat), k ≤ l.length → l.length - k < m →
    DL69_1 n m l (l.length : Int) (k : Int) l (frt l k) (bck l k) = some (rl l)
  | 0, k, _, h => by omega
  | m + 1, k, hk, h => by
    rw [DL69_1_succ]
    unfold DF69_1
    by_cases hlt : k < l.length
    · have ih := rule_loop n hn l hl hb m (k + 1) (by omega) (by omega)
      have hj2 : ∀ a b, DL69_2 n (DL69_1 n m) l (l.length : Int) (k : Int) l a b = DL69_1 n m l (l.length : Int) (wr .i64 ((k : Int) + 1)) l a b := fun a b => rfl
      have e1 := frt_len l k
      have e2 := bck_len l k
      rw [dlt_t hlt, cond_true, idx_nat hlt, Option.bind_some, hj2, hj2, wr_succ (by omega), lim_dec (by omega), lim_dec (by omega), cond_true, cond_true, ← ih]
      have hsh : sh l (k : Int) = l[k] := by simp [sh, hlt]
      by_cases f : l[k].1 < l[k].2
      · rw [decide_eq_true f, cond_true]
        have hf : fa l (k : Int) = true := by unfold fa; rw [hsh]; exact decide_eq_true f
        unfold frt bck
        rw [ix_succ, List.filter_append, List.filter_append]
        simp [hf]
      · rw [decide_eq_false f, cond_false]
        have hf : fa l (k : Int) = false := by unfold fa; rw [hsh]; exact decide_eq_false f
        unfold frt bck
        rw [ix_succ, List.filter_append, List.filter_append]
        simp [hf]
    · have : k = l.length := by omega
      subst this
      have e1 := frt_len l l.length
      have e2 := bck_len l l.length
      have p1 := (srt_perm (cm86 l) (frt l l.length) []).length_eq
      have p2 := (srt_perm (cm87 l) (bck l l.length) []).length_eq
      rw [List.append_nil] at p1 p2
      rw [dlt_f (by omega), cond_false, sort86_eq (r := frt l l.length) hn hb (by omega) (fun y hy => ix_mem.1 (List.mem_filter.1 hy).1), Option.bind_some]
      simp only []
      rw [show Nat.beq (srt (cm86 l) [] (frt l l.length)).reverse.length (frt l l.length).length = true by rw [List.length_reverse, p1]; exact Nat.beq_refl _, cond_true, sort87_eq (r := bck l l.length) hn hb (by omega) (fun y hy => ix_mem.1 (List.mem_filter.1 hy).1), Option.bind_some]
      simp only []
      rw [show Nat.beq (srt (cm87 l) [] (bck l l.length)).reverse.length (bck l l.length).length = true by rw [List.length_reverse, p2]; exact Nat.beq_refl _, cond_true, decide_eq_true (by simp [lim, p1, p2]; omega), cond_true]
      rfl
theorem rule_eq {n : Nat × Nat} (hn : 1000 ≤ n.1) {l : List (Int × Int)} (hg : Good l) : D69 n l = some (rl l) := by
  unfold D69
  exact rule_loop n hn l hg.len hg.ok n.1 0 (by omega) (by have := hg.len; omega)
/-- How many of the first k are before one. -/
def cnt (l : List (Int × Int)) (i : Int) (k : Nat) : Nat := ((ix k).filter fun j => decide (j ≠ i) && decide (Bef l j i)).length
/-- The sheets of the rule's order, and their time: that of the best orders. -/
theorem rl_bf (l : List (Int × Int)) : (pk l (rl l)).Pairwise Bf := by
  unfold pk
  rw [List.pairwise_map]
  exact List.Pairwise.imp (fun h => h.bf) (rl_sort l)
theorem johnson {l : List (Int × Int)} (hg : Good l) : ∃ m s, (m = 0 ∨ m = 1) ∧ s ∈ l ∧ tm 0 0 (pk l (rl l)) = bnd l m (hr m s) := by
  have ho := rl_ord l
  obtain ⟨m, s, hm, hs, e⟩ := strong (ord_pk hg ho).1 (pk_ok hg ho) (rl_bf l)
  exact ⟨m, s, hm, (pk_perm ho).mem_iff.1 hs, by rw [e, bnd_perm m (hr m s) (pk_perm ho)]⟩
theorem bnd_le {l : List (Int × Int)} {o : List Int} (ho : Ord l.length o) {m : Int} (hm : m = 0 ∨ m = 1) {s : Int × Int} (hs : s ∈ l) : bnd l m (hr m s) ≤ tm 0 0 (pk l o) := by
  rw [← bnd_perm m (hr m s) (pk_perm ho)]
  exact weak hm ((pk_perm ho).mem_iff.2 hs)
theorem rl_best {l : List (Int × Int)} (hg : Good l) {o : List Int} (ho : Ord l.length o) : tm 0 0 (pk l (rl l)) ≤ tm 0 0 (pk l o) := by
  obtain ⟨m, s, hm, hs, e⟩ := johnson hg
  rw [e]
  exact bnd_le ho hm hs
end Go.Proofs.Ytnlbhjmbaedadaa
set_option linter.unusedVariables false
set_option linter.unusedSimpArgs false
set_option maxRecDepth 100000
namespace Go.Proofs.Ytnlbhjmbaedadaa
open Go.Vi
/-D 34 -/
/-D 91 -/
/-D 76 -/
/-D 36 -/
/-D 38 -/
/-D 40 -/
/-D 42 -/
end Go.Proofs.Ytnlbhjmbaedadaa
set_option linter.unusedVariables false
set_option linter.unusedSimpArgs false
namespace Go.Proofs.Ytnlbhjmbaedadaa
open Go.Vi
def bd (l : List (Int × Int)) (m k : Int) : Int := bnd l m (hr m (sh l k))
def turnS (l : List (Int × Int)) : List (Int × Int) × Int := if chk l ≠ 0 then ([], chk l) else (tu l 0, 0)
theorem Turn_eq {n : Nat × Nat} (hn : 1000 ≤ n.1) (l : List (Int × Int)) : D39 n l = some (turnS l) := by
  unfold D39 HF39 turnS
  rw [chk_eq hn, Option.bind_some]
  by_cases h : chk l = 0
  · have h7 := (chk_good.1 h).len
    rw [show (chk l != 0) = false by simp [h], cond_false, if_neg (by simpa using h)]
    have := (chk_good.1 h).pos
    rw [decide_eq_true (show 0 < l.length by omega), decide_eq_true (show l.length ≤ 1000000 by omega)]
    rfl
  · rw [show (chk l != 0) = true by simpa using h, cond_true, if_pos h]
def pr1 (m : Int) (k : Nat) : List (Int × Int) := (ix k).map fun i => (m, i)
def fst (l : List (Int × Int)) (t : Int) (P : List (Int × Int)) : Option (Int × Int) := P.find? fun p => decide (bd l p.1 p.2 = t)
theorem fst_some {l : List (Int × Int)} {t : Int} {P : List (Int × Int)} {p : Int × Int} (h : fst l t P = some p) : bd l p.1 p.2 = t ∧ p ∈ P :=
  ⟨by simpa using List.find?_some h, List.mem_of_find?_eq_some h⟩
theorem fst_none {l : List (Int × Int)} {t : Int} {P : List (Int × Int)} (h : ∀ p ∈ P, bd l p.1 p.2 ≠ t) : fst l t P = none := by
  unfold fst
  rw [List.find?_eq_none]
  intro p hp
  simpa using h p hp
theorem fst_append {l : List (Int × Int)} {t : Int} {P Q : List (Int × Int)} : fst l t (P ++ Q) = (fst l t P).or (fst l t Q) := List.find?_append
theorem fst_one (l : List (Int × Int)) (t : Int) (p : Int × Int) : fst l t [p] = if bd l p.1 p.2 = t then some p else none := by
  unfold fst
  by_cases e : bd l p.1 p.2 = t
  · rw [if_pos e]; simp [e]
  · rw [if_neg e]; simp [e]
def Inv (l P : List (Int × Int)) (b m k : Int) : Prop := (∀ p ∈ P, bd l p.1 p.2 ≤ b) ∧ (P = [] ∧ b = -1 ∨ fst l b P = some (m, k))
theorem Inv.step {l P : List (Int × Int)} {b m k : Int} (h : Inv l P b m k) {p : Int × Int} (h0 : 0 ≤ bd l p.1 p.2) : Inv l (P ++ [p]) (if bd l p.1 p.2 > b then bd l p.1 p.2 else b) (if bd l p.1 p.2 > b then p.1 else m) (if bd l p.1 p.2 > b then p.2 else k) := by
  obtain ⟨h1, h2⟩ := h
  by_cases c : bd l p.1 p.2 > b
  · rw [if_pos c, if_pos c, if_pos c]
    refine ⟨fun q hq => ?_, .inr ?_⟩
    · rcases List.mem_append.1 hq with hq | hq
      · have := h1 q hq; omega
      · rw [List.mem_singleton] at hq; subst hq; omega
    · rw [fst_append, fst_none (P := P) (fun q hq => by have := h1 q hq; omega), fst_one, if_pos rfl]
      rfl
  · rw [if_neg c, if_neg c, if_neg c]
    refine ⟨fun q hq => ?_, ?_⟩
    · rcases List.mem_append.1 hq with hq | hq
      · exact h1 q hq
      · rw [List.mem_singleton] at hq; subst hq; omega
    · rcases h2 with ⟨_, e⟩ | h2
      · omega
      · exact .inr (by rw [fst_append, h2]; rfl)
/-- All machines and sheets; the time of the best orders. -/
def prs (l : List (Int × Int)) : List (Int × Int) := pr1 0 l.length ++ pr1 1 l.length
def best (l : List (Int × Int)) : Int := tm 0 0 (pk l (rl l))
theorem prs_mem {l : List (Int × Int)} {p : Int × Int} : p ∈ prs l ↔ (p.1 = 0 ∨ p.1 = 1) ∧ 0 ≤ p.2 ∧ p.2 < l.length := by
  unfold prs pr1
  rw [List.mem_append, List.mem_map, List.mem_map]
  constructor
  · rintro (⟨i, hi, e⟩ | ⟨i, hi, e⟩) <;> rw [ix_mem] at hi <;> subst e
    · exact ⟨.inl rfl, hi⟩
    · exact ⟨.inr rfl, hi⟩
  · rintro ⟨h | h, h'⟩
    · exact .inl ⟨p.2, ix_mem.2 h', by rw [← h]⟩
    · exact .inr ⟨p.2, ix_mem.2 h', by rw [← h]⟩
theorem bd_le {l : List (Int × Int)} (hg : Good l) {p : Int × Int} (hp : p ∈ prs l) : bd l p.1 p.2 ≤ best l := by
  obtain ⟨hm, hk⟩ := prs_mem.1 hp
  exact bnd_le (rl_ord l) hm (sh_mem hk.1 hk.2)
theorem bd_ex {l : List (Int × Int)} (hg : Good l) : ∃ p ∈ prs l, bd l p.1 p.2 = best l := by
  obtain ⟨m, s, hm, hs, e⟩ := johnson hg
  obtain ⟨k, hk, e'⟩ := List.getElem_of_mem hs
  refine ⟨(m, (k : Int)), prs_mem.2 ⟨hm, by omega, by omega⟩, ?_⟩
  unfold best bd
  rw [e, ← e']
  simp [sh, hk]
theorem Inv.best {l : List (Int × Int)} (hg : Good l) {b m k : Int} (h : Inv l (prs l) b m k) : fst l (best l) (prs l) = some (m, k) := by
  obtain ⟨p, hp, e⟩ := bd_ex hg
  obtain ⟨h1, h2⟩ := h
  rcases h2 with ⟨h2, _⟩ | h2
  · rw [h2] at hp; simp at hp
  · have := fst_some h2
    have c1 := bd_le hg this.2
    have c2 := h1 p hp
    have : b = Go.Proofs.Ytnlbhjmbaedadaa.best l := by omega
    rwa [this] at h2
/-- All orders of n that begin with some numbers. -/
def ao (n : Nat) : Nat → List Int → List (List Int)
  | 0, p => [p]
  | d + 1, p => (ix n).flatMap fun i => if i ∈ p then [] else ao n d (p ++ [i])
/-- Of these the ones that take no more than some hours. -/
def bo (l : List (Int × Int)) (g : Int) : Nat → List Int → Int → Int → List (List Int)
  | 0, p, _, _ => [p]
  | d + 1, p, a, b => (ix l.length).flatMap fun i => if i ∈ p then [] else if max (a + (sh l i).1) b + (sh l i).2 ≤ g then bo l g d (p ++ [i]) (a + (sh l i).1) (max (a + (sh l i).1) b + (sh l i).2) else []
theorem ao_pre {n : Nat} : ∀ {d : Nat} {p o : List Int}, o ∈ ao n d p → ∃ r, o = p ++ r ∧ r.length = d
  | 0, p, o, h => by
    unfold ao at h
    rw [List.mem_singleton] at h
    exact ⟨[], by simp [h], rfl⟩
  | d + 1, p, o, h => by
    unfold ao at h
    obtain ⟨i, hi, h⟩ := List.mem_flatMap.1 h
    by_cases c : i ∈ p
    · rw [if_pos c] at h; simp at h
    · rw [if_neg c] at h
      obtain ⟨r, e, hr⟩ := ao_pre h
      exact ⟨i :: r, by rw [e]; simp, by simp [hr]⟩
theorem ao_ord {n : Nat} : ∀ {d : Nat} {p o : List Int}, p.length + d = n → (∀ i ∈ p, 0 ≤ i ∧ i < n) → p.Nodup → o ∈ ao n d p → Ord n o
  | 0, p, o, hl, hr, hn, h => by
    unfold ao at h
    rw [List.mem_singleton] at h
    subst h
    exact ⟨by omega, hr, hn⟩
  | d + 1, p, o, hl, hr, hn, h => by
    unfold ao at h
    obtain ⟨i, hi, h⟩ := List.mem_flatMap.1 h
    by_cases c : i ∈ p
    · rw [if_pos c] at h; simp at h
    · rw [if_neg c] at h
      refine ao_ord (by simp; omega) (fun j hj => ?_) ?_ h
      · rcases List.mem_append.1 hj with hj | hj
        · exact hr j hj
        · rw [List.mem_singleton] at hj; subst hj; exact ix_mem.1 hi
      · rw [List.nodup_append]
        refine ⟨hn, by simp, fun a ha b hb e => ?_⟩
        rw [List.mem_singleton] at hb
        subst hb e
        exact c ha
theorem ao_mem {n : Nat} : ∀ {d : Nat} {p r : List Int}, r.length = d → Ord n (p ++ r) → p ++ r ∈ ao n d p
  | 0, p, r, hl, ho => by
    rw [List.length_eq_zero_iff.1 hl]
    unfold ao
    simp
  | d + 1, p, [], hl, ho => by simp at hl
  | d + 1, p, i :: r, hl, ho => by
    unfold ao
    refine List.mem_flatMap.2 ⟨i, ix_mem.2 (ho.rng i (by simp)), ?_⟩
    have hn := ho.nodup
    rw [List.nodup_append] at hn
    rw [if_neg (fun h => hn.2.2 i h i (by simp) rfl)]
    have e : p ++ i :: r = (p ++ [i]) ++ r := by simp
    rw [e] at ho ⊢
    exact ao_mem (by simpa using hl) ho
theorem ao_iff {n : Nat} {o : List Int} : o ∈ ao n n [] ↔ Ord n o :=
  ⟨fun h => ao_ord (by simp) (fun i hi => by simp at hi) (by simp) h, fun h => by
    have := ao_mem (p := []) (r := o) h.len (by simpa using h)
    simpa using this⟩
theorem flat_len {α β : Type} {f : α → List β} {B : Nat} : ∀ {l : List α}, (∀ x ∈ l, (f x).length ≤ B) → (l.flatMap f).length ≤ l.length * B
  | [], _ => by simp
  | x :: l, h => by
    rw [List.flatMap_cons, List.length_append, List.length_cons, Nat.add_mul, Nat.one_mul]
    have := flat_len (l := l) (fun x hx => h x (by simp [hx]))
    have := h x (by simp)
    omega
theorem ao_len {n : Nat} (hn : n ≤ 7) : ∀ (d : Nat) (p : List Int), (ao n d p).length ≤ 7 ^ d
  | 0, p => by simp [ao]
  | d + 1, p => by
    unfold ao
    refine Nat.le_trans (flat_len (B := 7 ^ d) (fun i hi => ?_)) ?_
    · split
      · simp
      · exact ao_len hn d _
    · rw [ix_len, Nat.pow_succ, Nat.mul_comm]
      exact Nat.mul_le_mul_left _ hn
theorem filter_flatMap' {α β : Type} (q : β → Bool) (f : α → List β) : ∀ l : List α, (l.flatMap f).filter q = l.flatMap fun x => (f x).filter q
  | [] => rfl
  | x :: l => by rw [List.flatMap_cons, List.flatMap_cons, List.filter_append, filter_flatMap' q f l]
theorem flatMap_congr' {α β : Type} {f g : α → List β} : ∀ {l : List α}, (∀ x ∈ l, f x = g x) → l.flatMap f = l.flatMap g
  | [], _ => rfl
  | x :: l, h => by rw [List.flatMap_cons, List.flatMap_cons, h x (by simp), flatMap_congr' (fun x hx => h x (by simp [hx]))]
theorem s2_nn {l : List (Int × Int)} (hg : Good l) : ∀ {r : List Int}, (∀ i ∈ r, 0 ≤ i ∧ i < l.length) → 0 ≤ s2 (pk l r)
  | [], _ => by simp [pk, s2]
  | i :: r, h => by
    have := s2_nn hg (r := r) (fun i hi => h i (by simp [hi]))
    have hi := h i (by simp)
    have ho := hg.ok _ (sh_mem hi.1 hi.2)
    unfold Ok at ho
    rw [pk_cons', s2]
    omega
where pk_cons' {l : List (Int × Int)} {i : Int} {o : List Int} : pk l (i :: o) = sh l i :: pk l o := rfl
theorem bo_ao {l : List (Int × Int)} (hg : Good l) {g : Int} : ∀ {d : Nat} {p : List Int} {a b : Int}, p.length + d = l.length → (∀ i ∈ p, 0 ≤ i ∧ i < l.length) → p.Nodup → b ≤ g →
    bo l g d p a b = (ao l.length d p).filter fun o => decide (tm a b (pk l (o.drop p.length)) ≤ g)
  | 0, p, a, b, hl, hr, hn, hb => by
    unfold bo ao
    have : decide (tm a b (pk l (p.drop p.length)) ≤ g) = true := by
      rw [List.drop_length]
      exact decide_eq_true hb
    rw [List.filter_cons, this]
    rfl
  | d + 1, p, a, b, hl, hr, hn, hb => by
    unfold bo ao
    rw [filter_flatMap']
    apply flatMap_congr'
    intro i hi
    rw [ix_mem] at hi
    by_cases c : i ∈ p
    · rw [if_pos c, if_pos c]; rfl
    · rw [if_neg c, if_neg c]
      have hl' : (p ++ [i]).length + d = l.length := by simp; omega
      have hr' : ∀ j ∈ p ++ [i], 0 ≤ j ∧ j < l.length := fun j hj => by
        rcases List.mem_append.1 hj with hj | hj
        · exact hr j hj
        · rw [List.mem_singleton] at hj; subst hj; exact hi
      have hn' : (p ++ [i]).Nodup := by
        rw [List.nodup_append]
        refine ⟨hn, by simp, fun a ha b hb e => ?_⟩
        rw [List.mem_singleton] at hb
        subst hb e
        exact c ha
      have key : ∀ o ∈ ao l.length d (p ++ [i]), tm a b (pk l (o.drop p.length)) = tm (a + (sh l i).1) (max (a + (sh l i).1) b + (sh l i).2) (pk l (o.drop (p ++ [i]).length)) := by
        intro o ho
        obtain ⟨r, e, _⟩ := ao_pre ho
        subst e
        have e1 : (p ++ [i] ++ r).drop p.length = i :: r := by simp
        have e2 : (p ++ [i] ++ r).drop (p ++ [i]).length = r := List.drop_left
        rw [e1, e2]
        rfl
      by_cases e : max (a + (sh l i).1) b + (sh l i).2 ≤ g
      · rw [if_pos e, bo_ao hg hl' hr' hn' e]
        apply List.filter_congr
        intro o ho
        rw [key o ho]
      · rw [if_neg e, eq_comm, List.filter_eq_nil_iff]
        intro o ho h
        rw [decide_eq_true_iff, key o ho] at h
        have h1 := tm_low (a + (sh l i).1) (max (a + (sh l i).1) b + (sh l i).2) (pk l (o.drop (p ++ [i]).length))
        have ho' := ao_ord hl' hr' hn' ho
        have h2 := s2_nn hg (r := o.drop (p ++ [i]).length) (fun j hj => ho'.rng j (List.mem_of_mem_drop hj))
        omega
/-- The best orders. -/
def bests (l : List (Int × Int)) : List (List Int) := (ao l.length l.length []).filter fun o => decide (tm 0 0 (pk l o) ≤ best l)
theorem best_nn {l : List (Int × Int)} (hg : Good l) : 0 ≤ best l ∧ best l ≤ 1000 := by
  have := tm_bnd (pk_ok hg (rl_ord l))
  have h7 := hg.len
  rw [pk_len, (rl_ord l).len] at this
  unfold best
  omega
theorem bo_bests {l : List (Int × Int)} (hg : Good l) : bo l (best l) l.length [] 0 0 = bests l := by
  rw [bo_ao hg (by simp) (fun i hi => by simp at hi) (by simp) (best_nn hg).1]
  rfl
theorem bests_len {l : List (Int × Int)} (hg : Good l) : (bests l).length ≤ 823543 := by
  unfold bests
  refine Nat.le_trans (List.length_filter_le _ _) (Nat.le_trans (ao_len hg.len _ _) ?_)
  exact Nat.le_trans (Nat.pow_le_pow_right (by omega) hg.len) (by decide)
theorem ix_drop {n k : Nat} (h : k < n) : (ix n).drop k = (k : Int) :: (ix n).drop (k + 1) := by
  rw [drop_cons (by rw [ix_len]; exact h)]
  congr 1
  simp [ix]
theorem snoc_ok {n : Nat} {p : List Int} {i : Int} (hr : ∀ j ∈ p, 0 ≤ j ∧ j < n) (hi : 0 ≤ i ∧ i < n) : ∀ j ∈ p ++ [i], 0 ≤ j ∧ j < n := fun j hj => by
  rcases List.mem_append.1 hj with hj | hj
  · exact hr j hj
  · rw [List.mem_singleton] at hj; subst hj; exact hi
/-- The program's search: how many. -/
theorem count_loop (n : Nat × Nat) (hn : 1000 ≤ n.1) {l : List (Int × Int)} (hg : Good l) (g : Int) (SS : List Int → Int → Int → List (Int × Int) → Int → Int → Option R89f74io0001110) (d : Nat) (p : List Int) (hp : p.length + (d + 1) = l.length) (a b : Int) (a0 : 0 ≤ a) (a1 : a ≤ 50 * p.length) (b0 : 0 ≤ b) (b1 : b ≤ 100 * p.length)
    (hS : ∀ i c e cp : Int, 0 ≤ i ∧ i < l.length → 0 ≤ c → c ≤ 50 * (p.length + 1 : Nat) → 0 ≤ e → e ≤ 100 * (p.length + 1 : Nat) → 0 ≤ cp → cp + (bo l g d (p ++ [i]) c e).length ≤ 1000000 → SS (p ++ [i]) c e l cp g = some (true, l, cp + (bo l g d (p ++ [i]) c e).length, g, ())) :
    ∀ (m k : Nat) (cp : Int), k ≤ l.length → l.length - k < m → 0 ≤ cp → cp + (((ix l.length).drop k).flatMap fun i => if i ∈ p then [] else if max (a + (sh l i).1) b + (sh l i).2 ≤ g then bo l g d (p ++ [i]) (a + (sh l i).1) (max (a + (sh l i).1) b + (sh l i).2) else []).length ≤ 1000000 →
    DL89f74io0001110_1 n SS m p a b l (l.length : Int) (k : Int) g l cp = some (true, l, cp + (((ix l.length).drop k).flatMap fun i => if i ∈ p then [] else if max (a + (sh l i).1) b + (sh l i).2 ≤ g then bo l g d (p ++ [i]) (a + (sh l i).1) (max (a + (sh l i).1) b + (sh l i).2) else []).length, g, ())
  | 0, k, cp, _, h, _, _ => by omega
  | m + 1, k, cp, hk, h, c0, c1 => by
    have h7 := hg.len
    rw [DL89f74io0001110_1_succ]
    unfold DF89f74io0001110_1
    by_cases hlt : k < l.length
    · have hi : 0 ≤ (k : Int) ∧ (k : Int) < l.length := ⟨by omega, by omega⟩
      have ho := hg.ok _ (sh_mem hi.1 hi.2)
      have hj2 : ∀ cp : Int, DL89f74io0001110_2 n SS (DL89f74io0001110_1 n SS m) p a b l (l.length : Int) (k : Int) g l cp = DL89f74io0001110_1 n SS m p a b l (l.length : Int) (wr .i64 ((k : Int) + 1)) g l cp := fun cp => rfl
      have ih := count_loop n hn hg g SS d p hp a b a0 a1 b0 b1 hS m (k + 1)
      rw [ix_drop hlt, List.flatMap_cons, List.length_append] at c1 ⊢
      rw [dlt_t hlt, cond_true, idx_sh hi.1 hi.2, Option.bind_some, contains_eq hn (by omega), Option.bind_some, hj2]
      generalize sh l (k : Int) = s at *
      unfold Ok at ho
      rw [max_if, wr_ok (x := a + s.1) (by omega) (by omega), wr_ok (x := max (a + s.1) b + s.2) (by omega) (by omega), wr_succ (by omega)]
      by_cases c : (k : Int) ∈ p
      · rw [decide_eq_true c, cond_true]
        rw [if_pos c] at c1 ⊢
        rw [ih cp (by omega) (by omega) c0 (by simpa using c1)]
        simp
      · rw [decide_eq_false c, cond_false]
        rw [if_neg c] at c1 ⊢
        by_cases e : max (a + s.1) b + s.2 ≤ g
        · rw [if_pos e] at c1 ⊢
          rw [decide_eq_true e]
          simp only [beq_self_eq_true, cond_true]
          rw [show (true && bounds none (some (p.length : Int)) (some (p.length : Int)) p.length) = true by simp [bounds], cond_true, Int.toNat_natCast, List.take_length, lim_dec (by omega)]
          rw [show (true && (p.isEmpty || ![(k : Int)].isEmpty)) = true by simp, cond_true, hS (k : Int) _ _ cp hi (by omega) (by omega) (by omega) (by omega) c0 (by omega)]
          simp only [Option.bind_some, Bool.not_true, cond_false]
          have := ih (cp + (bo l g d (p ++ [(k : Int)]) (a + s.1) (max (a + s.1) b + s.2)).length) (by omega) (by omega) (by omega) (by omega)
          rw [hj2, wr_succ (by omega), this]
          simp only [Int.natCast_add, Int.add_assoc]
        · rw [if_neg e] at c1 ⊢
          rw [decide_eq_false e]
          simp only [show (false == true) = false from rfl, cond_false]
          refine (show _ = _ from rfl).trans ((ih cp (by omega) (by omega) c0 (by simpa using c1)).trans ?_)
          simp
    · have : k = l.length := by omega
      subst this
      rw [dlt_f (by omega), cond_false, List.drop_of_length_le (by rw [ix_len]; omega)]
      simp
theorem count_rec (n : Nat × Nat) (hn : 1000 ≤ n.1) {l : List (Int × Int)} (hg : Good l) (g : Int) : ∀ (d t : Nat) (p : List Int) (a b cp : Int), d < t → p.length + d = l.length → (∀ j ∈ p, 0 ≤ j ∧ j < l.length) → 0 ≤ a → a ≤ 50 * p.length → 0 ≤ b → b ≤ 100 * p.length → 0 ≤ cp → cp + (bo l g d p a b).length ≤ 1000000 →
    DT89f74io0001110 n t p a b l cp g = some (true, l, cp + (bo l g d p a b).length, g, ())
  | _, 0, _, _, _, _, h, _, _, _, _, _, _, _, _ => by omega
  | 0, t + 1, p, a, b, cp, h, hp, hr, a0, a1, b0, b1, c0, c1 => by
    rw [DT89f74io0001110_succ]
    unfold DB89f74io0001110
    rw [show ((p.length : Int) == (l.length : Int)) = true by simp; omega, cond_true]
    unfold D74io01
    simp only [bo, List.length_singleton] at c1 ⊢
    rw [Option.bind_some, wr_ok (by omega) (by omega)]
    rfl
  | d + 1, t + 1, p, a, b, cp, h, hp, hr, a0, a1, b0, b1, c0, c1 => by
    rw [DT89f74io0001110_succ]
    unfold DB89f74io0001110
    rw [show ((p.length : Int) == (l.length : Int)) = false from beq_false_of_ne (by omega), cond_false]
    have h7 := hg.len
    have := count_loop n hn hg g (DT89f74io0001110 n t) d p hp a b a0 a1 b0 b1 (fun i c e cp hi c0 c1 e0 e1 p0 p1 => by
      exact count_rec n hn hg g d t (p ++ [i]) c e cp (by omega) (by simp; omega) (snoc_ok hr hi) c0 (by simpa using c1) e0 (by simpa using e1) p0 p1) n.1 0 cp (by omega) (by omega) c0 (by simpa [bo] using c1)
    simpa [bo] using this
theorem least_eq {n : Nat × Nat} (hn : 1000 ≤ n.1) {l : List (Int × Int)} (hg : Good l) : D88 n l = some (best l) := by
  have ho := rl_ord l
  unfold D88
  rw [rule_eq hn hg, Option.bind_some, put_eq hn (by rw [ho.len]; have := hg.len; omega), put_ord hg ho, Option.bind_some, time_eq hn (ord_pk hg ho).1 (ord_pk hg ho).2 (pk_ok hg ho)]
  rfl
def countS (l : List (Int × Int)) : Int × Int := if chk l ≠ 0 then (0, chk l) else ((bests l).length, 0)
theorem Count_eq {n : Nat × Nat} (hn : 1000 ≤ n.1) (l : List (Int × Int)) : D31 n l = some (countS l) := by
  unfold D31 countS
  rw [chk_eq hn, Option.bind_some]
  by_cases h : chk l = 0
  · have hg := chk_good.1 h
    have h7 := hg.len
    have hb := bests_len hg
    rw [show (chk l != 0) = false by simp [h], cond_false, if_neg (by simpa using h)]
    unfold D71c74io01 D89f74io0001110
    rw [least_eq hn hg, Option.bind_some]
    have := count_rec n hn hg (best l) l.length n.1 [] 0 0 0 (by omega) (by simp) (fun j hj => by simp at hj) (by omega) (by simp) (by omega) (by simp) (by omega) (by rw [bo_bests hg]; omega)
    rw [bo_bests hg] at this
    rw [this]
    simp
  · rw [show (chk l != 0) = true by simpa using h, cond_true, if_pos h]
end Go.Proofs.Ytnlbhjmbaedadaa
set_option linter.unusedVariables false
set_option linter.unusedSimpArgs false
set_option maxRecDepth 100000
namespace Go.Proofs.Ytnlbhjmbaedadaa
open Go.Vi
/-D 49 -/
/-D 46 -/
end Go.Proofs.Ytnlbhjmbaedadaa
set_option linter.unusedVariables false
set_option linter.unusedSimpArgs false
namespace Go.Proofs.Ytnlbhjmbaedadaa
open Go.Vi
theorem tmod_ok {x y : Int} (h0 : 0 ≤ x) (hy : 0 < y) : Int.tmod x y = x % y := Int.tmod_eq_emod_of_nonneg h0
def By (x : Int) : Prop := 0 ≤ x ∧ x ≤ 255
def gm (t : Int) (x : Int × Int) : Int × Int := (x.1 % (t + 1), x.2 % (t + 1))
theorem made_loop (n : Nat × Nat) (t : Int) (ht : 1 ≤ t ∧ t ≤ 50) (q : List (Int × Int)) (hq : ∀ x ∈ q, By x.1 ∧ By x.2) (hl : q.length ≤ 7) : ∀ (m k : Nat), k ≤ q.length → q.length - k < m → DL43_1 n m t q (q.length : Int) (k : Int) ((q.take k).map (gm t)) = some (q.map (gm t))
  | 0, k, _, h => by omega
  | m + 1, k, hk, h => by
    rw [DL43_1_succ]
    unfold DF43_1
    by_cases hlt : k < q.length
    · have ih := made_loop n t ht q hq hl m (k + 1) (by omega) (by omega)
      obtain ⟨h1, h2⟩ := hq _ (List.getElem_mem hlt)
      unfold By at h1 h2
      rw [dlt_t hlt, cond_true, show inB 0 2 = true from rfl, show inB 1 2 = true from rfl, idx_nat hlt, Option.bind_some, cond_true, wr_succ (by omega), wr_ok (x := t + 1) (by omega) (by omega), show (t + 1 == 0) = false by simp; omega]
      rw [show idx [q[k].1, q[k].2] 0 = some q[k].1 from rfl, show idx [q[k].1, q[k].2] 1 = some q[k].2 from rfl]
      simp only [Option.bind_some, cond_true, cond_false]
      rw [lim_dec (by simp; omega), cond_true, wr_ok (x := q[k].1) (by omega) (by omega), wr_ok (x := q[k].2) (by omega) (by omega), tmod_ok h1.1 (by omega), tmod_ok h2.1 (by omega), ← ih, take_snoc hlt, List.map_append]
      rfl
    · rw [dlt_f hlt, cond_false, List.take_of_length_le (by omega)]
abbrev Fm := Int × Int × (Int × Int) × (Int × Int) × (Int × Int) × (Int × Int) × (Int × Int) × (Int × Int) × Int × Int
def FmOk (f : Fm) : Prop := By f.1 ∧ By f.2.1 ∧ ∀ x ∈ [f.2.2.1, f.2.2.2.1, f.2.2.2.2.1, f.2.2.2.2.2.1, f.2.2.2.2.2.2.1, f.2.2.2.2.2.2.2.1, f.2.2.2.2.2.2.2.2], By x.1 ∧ By x.2
/-- Sheets by numbers are good ones. -/
theorem made_ex {n : Nat × Nat} (hn : 1000 ≤ n.1) {f : Fm} (hf : FmOk f) {most : Int} (hm : 1 ≤ most ∧ most ≤ 7) : ∃ l, D43 n f most = some l ∧ Good l ∧ l.length ≤ most := by
  obtain ⟨h1, h2, h3⟩ := hf
  unfold By at h1 h2
  unfold D43
  have e1 : 0 ≤ f.1 % most := Int.emod_nonneg _ (by omega)
  have e2 : f.1 % most < most := Int.emod_lt_of_pos _ (by omega)
  rw [show (50 == 0) = false from rfl, cond_false, show (most == 0) = false by simp; omega, cond_false, wr_ok (x := f.1) (by omega) (by omega), wr_ok (x := f.2.1) (by omega) (by omega), tmod_ok h1.1 (by omega), tmod_ok h2.1 (by omega), wr_ok (x := 1 + f.1 % most) (by omega) (by omega), wr_ok (x := f.2.1 % 50 + 1) (by omega) (by omega)]
  rw [show bounds none (some (1 + f.1 % most)) none 7 = true by simp [bounds]; omega, cond_true]
  revert h3
  generalize hq : [f.2.2.1, f.2.2.2.1, f.2.2.2.2.1, f.2.2.2.2.2.1, f.2.2.2.2.2.2.1, f.2.2.2.2.2.2.2.1, f.2.2.2.2.2.2.2.2] = q
  have hq7 : q.length = 7 := by rw [← hq]; rfl
  intro h3
  have hlen : (q.take (1 + f.1 % most).toNat).length = (1 + f.1 % most).toNat := by rw [List.length_take]; omega
  have := made_loop n (f.2.1 % 50 + 1) (by omega) (q.take (1 + f.1 % most).toNat) (fun x hx => h3 x (List.mem_of_mem_take hx)) (by omega) n.1 0 (by omega) (by omega)
  refine ⟨(q.take (1 + f.1 % most).toNat).map (gm (f.2.1 % 50 + 1)), this, ⟨by rw [List.length_map]; omega, by rw [List.length_map]; omega, fun s hs => ?_⟩, by rw [List.length_map]; omega⟩
  obtain ⟨x, _, e⟩ := List.mem_map.1 hs
  rw [← e]
  unfold Ok gm
  have a1 := Int.emod_nonneg x.1 (b := f.2.1 % 50 + 1 + 1) (by omega)
  have a2 := Int.emod_lt_of_pos x.1 (b := f.2.1 % 50 + 1 + 1) (by omega)
  have a3 := Int.emod_nonneg x.2 (b := f.2.1 % 50 + 1 + 1) (by omega)
  have a4 := Int.emod_lt_of_pos x.2 (b := f.2.1 % 50 + 1 + 1) (by omega)
  simp only []
  omega
abbrev Bt := Int × Int × Int × Int × Int × Int × Int
def bts (v : Bt) : List Int := [v.1, v.2.1, v.2.2.1, v.2.2.2.1, v.2.2.2.2.1, v.2.2.2.2.2.1, v.2.2.2.2.2.2]
def BtOk (v : Bt) : Prop := ∀ x ∈ bts v, By x
theorem order_loop (n : Nat × Nat) (v : Bt) (hv : BtOk v) (L : Nat) (hL : L ≤ 7) : ∀ (m : Nat) (P T : List Int), T.length < m → P.length + T.length = L → P.Perm (ix P.length) →
    ∃ o, DL48_1 n m (L : Int) (P.length : Int) v.1 v.2.1 v.2.2.1 v.2.2.2.1 v.2.2.2.2.1 v.2.2.2.2.2.1 v.2.2.2.2.2.2 (P ++ T) = some o ∧ o.Perm (ix L)
  | 0, P, T, h, _, _ => by omega
  | m + 1, P, [], h, hl, hp => by
    rw [List.length_nil] at hl
    rw [DL48_1_succ]
    unfold DF48_1
    rw [dlt_f (by omega), cond_false]
    refine ⟨P, by simp, ?_⟩
    rw [← hl]
    simpa using hp
  | m + 1, P, t :: T, h, hl, hp => by
    rw [List.length_cons] at h hl
    rw [DL48_1_succ]
    unfold DF48_1
    have hb7 : (bts v).length = 7 := rfl
    have hx := hv _ (List.getElem_mem (show P.length < (bts v).length by omega))
    have ex : idx [v.1, v.2.1, v.2.2.1, v.2.2.2.1, v.2.2.2.2.1, v.2.2.2.2.2.1, v.2.2.2.2.2.2] (P.length : Int) = some (bts v)[P.length] := idx_nat (l := bts v) (by omega)
    rw [ex]
    generalize (bts v)[P.length]'(by omega) = x at hx
    unfold By at hx
    have j0 := Int.emod_nonneg x (b := ((P.length + 1 : Nat) : Int)) (by omega)
    have j1 := Int.emod_lt_of_pos x (b := ((P.length + 1 : Nat) : Int)) (by omega)
    rw [dlt_t (by omega), cond_true, inB_nat (by simp), cond_true, inB_nat (show P.length < 7 by omega), cond_true, Option.bind_some, wr_succ (by omega), show (((P.length + 1 : Nat) : Int) == 0) = false by simp; omega, cond_false, wr_ok (x := x) (by omega) (by omega), tmod_ok hx.1 (by omega), Int.toNat_natCast, set_at rfl]
    obtain ⟨j, hj⟩ : ∃ j : Nat, x % ((P.length + 1 : Nat) : Int) = (j : Int) := ⟨(x % ((P.length + 1 : Nat) : Int)).toNat, by omega⟩
    rw [hj] at j0 j1 ⊢
    rw [show idx (P ++ t :: T) (P.length : Int) = some t from idx_at rfl, Option.bind_some]
    have ek : idx (P ++ (P.length : Int) :: T) (P.length : Int) = some (P.length : Int) := idx_at rfl
    have ik : inB (P.length : Int) (P ++ (P.length : Int) :: T).length = true := inB_nat (by simp)
    by_cases e : j = P.length
    · subst e
      rw [ik, cond_true, ek, Option.bind_some, cond_true, Option.bind_some, set_at rfl, ik, cond_true, cond_true, ek, Option.bind_some, Int.toNat_natCast, set_at rfl]
      simp only [Option.bind_some]
      have := order_loop n v hv L hL m (P ++ [(P.length : Int)]) T (by omega) (by simp; omega) (by
        rw [List.length_append, List.length_singleton, ix_succ]
        exact hp.append_right _)
      simpa using this
    · have hjl : j < P.length := by omega
      have hP : P = P.take j ++ P[j] :: P.drop (j + 1) := by rw [← drop_cons hjl, List.take_append_drop]
      have hA : (P.take j).length = j := by rw [List.length_take]; omega
      have d1 : idx (P ++ (P.length : Int) :: T) (j : Int) = some P[j] := by
        rw [idx_nat (by simp; omega)]
        congr 1
        exact List.getElem_append_left hjl
      have d2 : idx (P ++ P[j] :: T) (j : Int) = some P[j] := by
        rw [idx_nat (by simp; omega)]
        congr 1
        exact List.getElem_append_left hjl
      have d3 : (P ++ P[j] :: T).set j (P.length : Int) = P.take j ++ (P.length : Int) :: P.drop (j + 1) ++ [P[j]] ++ T := by
        have : P ++ P[j] :: T = P.take j ++ P[j] :: (P.drop (j + 1) ++ P[j] :: T) := by
          have e := congrArg (fun X => X ++ P[j] :: T) hP
          simpa only [List.append_assoc, List.cons_append] using e
        rw [this, set_at hA]
        simp
      have g1 : (P ++ (P.length : Int) :: T).set P.length P[j] = P ++ P[j] :: T := set_at rfl
      have i1 : inB (j : Int) (P ++ (P.length : Int) :: T).length = true := inB_nat (by simp; omega)
      have i2 : inB (j : Int) (P ++ P[j] :: T).length = true := inB_nat (by simp; omega)
      simp only [ik, i1, cond_true, d1, Option.bind_some, ek, g1, i2, d2, Int.toNat_natCast, d3]
      have hlen : (P.take j ++ (P.length : Int) :: P.drop (j + 1) ++ [P[j]]).length = P.length + 1 := by simp; omega
      have := order_loop n v hv L hL m (P.take j ++ (P.length : Int) :: P.drop (j + 1) ++ [P[j]]) T (by omega) (by omega) (by
        rw [hlen, ix_succ]
        refine List.Perm.trans ?_ (hp.append_right [(P.length : Int)])
        have p1 : (P.take j ++ (P.length : Int) :: P.drop (j + 1) ++ [P[j]]).Perm ((P.length : Int) :: P[j] :: (P.take j ++ P.drop (j + 1))) := by
          refine (List.perm_append_singleton _ _).trans ?_
          exact (List.Perm.cons _ List.perm_middle).trans (List.Perm.swap _ _ _)
        have p2 : (P ++ [(P.length : Int)]).Perm ((P.length : Int) :: P[j] :: (P.take j ++ P.drop (j + 1))) := by
          refine (List.perm_append_singleton _ _).trans (List.Perm.cons _ ?_)
          have q := List.perm_middle (a := P[j]) (l₁ := P.take j) (l₂ := P.drop (j + 1))
          rw [← hP] at q
          exact q
        exact p1.trans p2.symm)
      rw [hlen] at this
      exact this
/-- An order by numbers is one. -/
theorem perm_ord {L : Nat} {o : List Int} (hp : o.Perm (ix L)) : Ord L o := by
  refine ⟨by rw [hp.length_eq, ix_len], fun i hi => ix_mem.1 (hp.mem_iff.1 hi), ?_⟩
  refine hp.symm.nodup ?_
  exact List.Pairwise.imp (fun h => by omega) (ix_lt L)
theorem order_ex {n : Nat × Nat} (hn : 1000 ≤ n.1) {v : Bt} (hv : BtOk v) {L : Nat} (hL : L ≤ 7) : ∃ o, D48 n (L : Int) v = some o ∧ Ord L o := by
  unfold D48
  rw [decide_eq_true (show (0 : Int) ≤ (L : Int) by omega), decide_eq_true (Int.le_refl _), decide_eq_true (show (L : Int) ≤ lim by simp [lim]; omega), Bool.and_self, Bool.and_self, cond_true, Int.toNat_natCast, List.length_replicate]
  obtain ⟨o, h1, h2⟩ := order_loop n v hv L hL n.1 [] (List.replicate L 0) (by simp; omega) (by simp) (by simp [ix])
  exact ⟨o, h1, perm_ord h2⟩
end Go.Proofs.Ytnlbhjmbaedadaa
set_option linter.unusedVariables false
set_option linter.unusedSimpArgs false
set_option maxRecDepth 100000
namespace Go.Proofs.Ytnlbhjmbaedadaa
open Go.Vi
/-D 45 -/
/-D 81 -/
/-D 47 -/
end Go.Proofs.Ytnlbhjmbaedadaa
set_option linter.unusedVariables false
set_option linter.unusedSimpArgs false
namespace Go.Proofs.Ytnlbhjmbaedadaa
open Go.Vi
theorem flat_nodup {α β : Type} {F : α → List β} : ∀ {l : List α}, l.Nodup → (∀ x ∈ l, (F x).Nodup) → (∀ x ∈ l, ∀ y ∈ l, x ≠ y → ∀ a ∈ F x, a ∉ F y) → (l.flatMap F).Nodup
  | [], _, _, _ => by simp
  | x :: l, hn, h1, h2 => by
    rw [List.nodup_cons] at hn
    rw [List.flatMap_cons, List.nodup_append]
    refine ⟨h1 x (by simp), flat_nodup hn.2 (fun y hy => h1 y (by simp [hy])) (fun y hy z hz => h2 y (by simp [hy]) z (by simp [hz])), fun a ha b hb e => ?_⟩
    subst e
    obtain ⟨y, hy, hb⟩ := List.mem_flatMap.1 hb
    exact h2 x (by simp) y (by simp [hy]) (fun e => hn.1 (e ▸ hy)) a ha hb
theorem ix_nodup (n : Nat) : (ix n).Nodup := List.Pairwise.imp (fun h => by omega) (ix_lt n)
theorem ao_nodup {n : Nat} : ∀ (d : Nat) (p : List Int), (ao n d p).Nodup
  | 0, p => by simp [ao]
  | d + 1, p => by
    unfold ao
    refine flat_nodup (ix_nodup n) (fun i hi => ?_) (fun i hi j hj hne o ho ho' => ?_)
    · split
      · simp
      · exact ao_nodup d _
    · by_cases c : i ∈ p
      · rw [if_pos c] at ho; simp at ho
      by_cases c' : j ∈ p
      · rw [if_pos c'] at ho'; simp at ho'
      rw [if_neg c] at ho
      rw [if_neg c'] at ho'
      obtain ⟨r, e, _⟩ := ao_pre ho
      obtain ⟨r', e', _⟩ := ao_pre ho'
      rw [e] at e'
      rw [List.append_assoc, List.append_assoc] at e'
      have := List.append_cancel_left e'
      simp at this
      exact hne this.1
/-- Sheets turned and in the opposite order. -/
def tn (l : List (Int × Int)) : List (Int × Int) := l.reverse.map fun p => (p.2, p.1)
theorem tn_tu (l : List (Int × Int)) : tu l 0 = tn l := by simp [tu, tn]
theorem tn_len (l : List (Int × Int)) : (tn l).length = l.length := by simp [tn]
theorem tn_tn (l : List (Int × Int)) : tn (tn l) = l := by
  unfold tn
  rw [← List.map_reverse, List.reverse_reverse, List.map_map]
  conv => rhs; rw [← List.map_id l]
  apply List.map_congr_left
  intro p _
  rfl
theorem tn_get {l : List (Int × Int)} {i : Nat} (h : i < l.length) : (tn l)[l.length - 1 - i]'(by rw [tn_len]; omega) = (l[i].2, l[i].1) := by
  unfold tn
  rw [List.getElem_map, List.getElem_reverse]
  have : l.length - 1 - (l.length - 1 - i) = i := by omega
  simp only [this]
theorem tn_ok {l : List (Int × Int)} (h : ∀ s ∈ l, Ok s) : ∀ s ∈ tn l, Ok s := by
  intro s hs
  obtain ⟨p, hp, e⟩ := List.mem_map.1 hs
  have := h p (by simpa using hp)
  subst e
  unfold Ok at this ⊢
  simp only []
  omega
theorem tn_good {l : List (Int × Int)} (hg : Good l) : Good (tn l) := ⟨by rw [tn_len]; exact hg.pos, by rw [tn_len]; exact hg.len, tn_ok hg.ok⟩
theorem s1_swap : ∀ l : List (Int × Int), s1 (l.map fun p => (p.2, p.1)) = s2 l
  | [] => rfl
  | s :: l => by simp only [List.map_cons, s1, s2, s1_swap l]
theorem s2_swap : ∀ l : List (Int × Int), s2 (l.map fun p => (p.2, p.1)) = s1 l
  | [] => rfl
  | s :: l => by simp only [List.map_cons, s1, s2, s2_swap l]
theorem sms_tn {l : List (Int × Int)} {x : Int} (h : x ∈ sms 0 l) : x ∈ sms 0 (tn l) := by
  obtain ⟨k, hk, e⟩ := List.getElem_of_mem h
  rw [sms_len] at hk
  rw [sms_get hk] at e
  have hk' : l.length - 1 - k < (tn l).length := by rw [tn_len]; omega
  have e2 := sms_get (a := 0) hk'
  have ed : s1 ((tn l).take (l.length - 1 - k + 1)) = s2 (l.drop k) := by
    unfold tn
    rw [← List.map_take, s1_swap, List.take_reverse, s2_perm (List.reverse_perm _)]
    congr 2
    omega
  have et : s2 ((tn l).drop (l.length - 1 - k)) = s1 (l.take (k + 1)) := by
    unfold tn
    rw [← List.map_drop, s2_swap, List.drop_reverse, s1_perm (List.reverse_perm _)]
    congr 2
    omega
  rw [ed, et] at e2
  rw [← e, show (0 : Int) + s1 (l.take (k + 1)) + s2 (l.drop k) = 0 + s2 (l.drop k) + s1 (l.take (k + 1)) by omega, ← e2]
  exact List.getElem_mem _
/-- Turned sheets in the opposite order take as long. -/
theorem tm_tn {l : List (Int × Int)} (h0 : 0 < l.length) (hb : ∀ s ∈ l, Ok s) : tm 0 0 (tn l) = tm 0 0 l := by
  apply Int.le_antisymm
  · have h := sms_tn (tm_mem (l := tn l) (by rw [tn_len]; exact h0) (tn_ok hb))
    rw [tn_tn] at h
    exact tm_ge hb h
  · exact tm_ge (tn_ok hb) (sms_tn (tm_mem h0 hb))
/-- The opposite of an order, in turned sheets. -/
def bk (L : Nat) (o : List Int) : List Int := o.reverse.map fun i => (L : Int) - 1 - i
theorem bk_bk (L : Nat) (o : List Int) : bk L (bk L o) = o := by
  unfold bk
  rw [← List.map_reverse, List.reverse_reverse, List.map_map]
  conv => rhs; rw [← List.map_id o]
  apply List.map_congr_left
  intro i _
  show (L : Int) - 1 - (L - 1 - i) = i
  omega
theorem bk_ord {L : Nat} {o : List Int} (h : Ord L o) : Ord L (bk L o) := by
  refine ⟨by simp [bk, h.len], fun j hj => ?_, ?_⟩
  · obtain ⟨i, hi, e⟩ := List.mem_map.1 hj
    have := h.rng i (by simpa using hi)
    omega
  · unfold bk
    have hn : o.reverse.Nodup := (List.reverse_perm o).nodup_iff.2 h.nodup
    exact List.Pairwise.map _ (fun a b hab e => hab (by omega)) hn
theorem bk_pk {l : List (Int × Int)} {o : List Int} (h : ∀ i ∈ o, 0 ≤ i ∧ i < l.length) : pk (tn l) (bk l.length o) = tn (pk l o) := by
  unfold bk
  show (List.map (fun i : Int => (tn l).getD i.toNat (0, 0)) (List.map (fun i => (l.length : Int) - 1 - i) o.reverse)) = List.map _ (List.map _ o).reverse
  rw [List.map_map, ← List.map_reverse, List.map_map]
  apply List.map_congr_left
  intro i hi
  have hr := h i (by simpa using hi)
  have hlt : i.toNat < l.length := by omega
  have e : ((l.length : Int) - 1 - i).toNat = l.length - 1 - i.toNat := by omega
  show (tn l).getD ((l.length : Int) - 1 - i).toNat (0, 0) = ((l.getD i.toNat (0, 0)).2, (l.getD i.toNat (0, 0)).1)
  rw [e, List.getD_eq_getElem?_getD, List.getD_eq_getElem?_getD, List.getElem?_eq_getElem (by rw [tn_len]; omega), List.getElem?_eq_getElem hlt, Option.getD_some, Option.getD_some, tn_get hlt]
theorem bk_tm {l : List (Int × Int)} (hg : Good l) {o : List Int} (ho : Ord l.length o) : tm 0 0 (pk (tn l) (bk l.length o)) = tm 0 0 (pk l o) := by
  rw [bk_pk ho.rng]
  have := ho.len
  exact tm_tn (by rw [pk_len, ho.len]; exact hg.pos) (pk_ok hg ho)
theorem bk_perm (L : Nat) : ((ao L L []).map (bk L)).Perm (ao L L []) := by
  refine perm_of_sub ?_ (fun x hx => ?_) (by simp)
  · have hn := ao_nodup (n := L) L []
    have e : ((ao L L []).map (bk L)).map (bk L) = ao L L [] := by
      rw [List.map_map]
      conv => rhs; rw [← List.map_id (ao L L [])]
      apply List.map_congr_left
      intro o ho
      exact bk_bk L o
    rw [← e] at hn
    exact List.Pairwise.of_map _ (fun a b hab e => hab (by rw [e])) hn
  · obtain ⟨o, ho, e⟩ := List.mem_map.1 hx
    rw [← e]
    exact ao_iff.2 (bk_ord (ao_iff.1 ho))
theorem turned_best {l : List (Int × Int)} (hg : Good l) : best l = best (tn l) ∧ (bests l).length = (bests (tn l)).length := by
  have hgm := tn_good hg
  have hlm := tn_len l
  have hT : ∀ o ∈ ao l.length l.length [], tm 0 0 (pk (tn l) (bk l.length o)) = tm 0 0 (pk l o) := fun o ho => bk_tm hg (ao_iff.1 ho)
  have hb : best l = best (tn l) := by
    apply Int.le_antisymm
    · have h1 : rl (tn l) ∈ ao l.length l.length [] := ao_iff.2 (by rw [← hlm]; exact rl_ord (tn l))
      obtain ⟨o, ho, e⟩ := List.mem_map.1 ((bk_perm l.length).mem_iff.2 h1)
      have := rl_best hg (ao_iff.1 ho)
      rw [← hT o ho, e] at this
      exact this
    · have h1 : rl l ∈ ao l.length l.length [] := ao_iff.2 (rl_ord l)
      have := rl_best hgm (o := bk l.length (rl l)) (by rw [hlm]; exact bk_ord (rl_ord l))
      rw [hT _ h1] at this
      exact this
  refine ⟨hb, ?_⟩
  unfold bests
  rw [← hb, hlm]
  have h2 := ((bk_perm l.length).filter fun o => decide (tm 0 0 (pk (tn l) o) ≤ best l)).length_eq
  rw [← h2, List.filter_map, List.length_map]
  congr 1
  apply List.filter_congr
  intro o ho
  exact decide_eq_decide.2 (by rw [hT o ho])
end Go.Proofs.Ytnlbhjmbaedadaa
set_option linter.unusedVariables false
set_option linter.unusedSimpArgs false
set_option maxRecDepth 100000
namespace Go.Proofs.Ytnlbhjmbaedadaa
open Go.Vi
theorem Boxed.heap' {W : World} {B : Nat} {t : TypeId} {u : Value} (h : Boxed W B t u) : W.heap[B]? = some (.cells #[u] t) := h
theorem HC8 (n : Nat × Nat) (xs : pksDen pk8) (r : rksDen rk8) (h : S8 n xs.1 xs.2.1 = some r) (vs : List V) (hv : pksArg pk8 vs = some xs) : FC Try.prog 8 vs (rets rk8 r) := by
  rw [S8_run] at h
  intro w0 A0 args hA0 hargs
  let x : Cx := { B := w0.heap.size, M := fun _ => False, A0 := A0, w0 := w0, ma := fun _ h => h.elim }
  have hr := RS.start (x := x) (n := Try.f8.ntmps) rfl rfl rfl (fun _ => rfl) hA0 hv hargs
  have hT := tabOK
  have hE := eqsOK
  have hphi := env8 n
  have hpar := par8 n
  have hm := mixed
  have hrk : rksOK (E8 n).T Try.f8.results.toList rk8 = true := by kernel_rfl
  refine (callsIn_wide (n := 4)).1 (callsIn_of_wp_marks Try.func8 (c := c8) (by kernel_rfl) trivial (wpIn_wide.2 ?_) rfl)
  have fin : ∀ st γ a w', rtG rk8 st = some r → RS x γ st a w' → bodyPostM Fence.wide 4 Try.prog Try.f8 (fun
      | .returned v, w' => Grows w0 w' ∧ RetR w0 w' A0 (rets rk8 r) v
      | _, _ => False) .ret a w' := by
    intro st γ a w' hrt hr'
    obtain ⟨u, h1, h2⟩ := rtG_RetR (w0 := w0) hT hr' rfl (fun _ h => h) hrk hrt
    show LeavesInM _ _ _ _ _ _ a.defers _ _
    rw [show a.defers = [] from hr'.nod]
    exact ⟨u, h1, ⟨hr'.inv.size, hr'.inv.os, hr'.inv.tape, hr'.inv.output, fun b hb => hr'.inv.blk b hb (fun h => h)⟩, h2⟩
  refine seq_tail hT hE hphi hpar hm (by kernel_rfl) (by kernel_rfl) (by kernel_rfl) h hr fin ?_
  intro st γ a w h hr
  refine seq_tail hT hE hphi hpar hm (by kernel_rfl) (by kernel_rfl) (by kernel_rfl) h hr fin ?_
  intro st γ a w h hr
  refine seq_tail hT hE hphi hpar hm (by kernel_rfl) (by kernel_rfl) (by kernel_rfl) h hr fin ?_
  intro st γ a w h hr
  refine seq_tail hT hE hphi hpar hm (by kernel_rfl) (by kernel_rfl) (by kernel_rfl) h hr fin ?_
  intro st γ a w h hr
  refine seq_tail hT hE hphi hpar hm (by kernel_rfl) (by kernel_rfl) (by kernel_rfl) h hr fin ?_
  intro st γ a w h hr
  refine seq_tail hT hE hphi hpar hm (by kernel_rfl) (by kernel_rfl) (by kernel_rfl) h hr fin ?_
  intro st γ a w h hr
  have e8 : (cB (cB (cB (cB (cB (cB c8)))))) = .seq (cA h8) (cB h8) := by kernel_rfl
  have ea : an8.snd.snd.snd.snd.snd.snd = .h 0 := by kernel_rfl
  rw [e8, ea] at h
  rw [e8]
  have hk : hk8 st (fun st' => runG (E8 n) noScope h8r anH8 (rtG rk8) (fun _ _ => none) (rtG rk8) st') = some r := h
  unfold hk8 at hk
  obtain ⟨hlen, hk⟩ := cond_some hk rfl
  split at hk
  · rename_i v j hv10 hv5
    split at hk
    · rename_i zs e ys t hel hbox
      obtain ⟨hz, hk⟩ := cond_some hk rfl
      obtain ⟨st2, hk, h2⟩ := Option.bind_eq_some_iff.1 hk
      simp only [Bool.and_eq_true, decide_eq_true_eq] at hz
      have hsz : a.tmps.size = 140 := by rw [← hr.len]; exact Nat.eq_of_beq_eq_true hlen
      -- the order
      have hvr := hr.tm 10 v hv10
      obtain ⟨ad, cap, cs, hu, hcap, hrow, hcell⟩ := elems_cells (e := .int .i64) (by decide) hr.inv hvr (elemsAs_eq hel)
      rcases hcell with h0 | ⟨b, off, cur, et, fz, rfl, hb, hsize, hcs⟩
      · rw [h0] at hz; exact absurd hz.1 (by simp)
      have hbl := (Array.getElem?_eq_some_iff.1 hb).1
      -- the sheets' box
      obtain ⟨Lb, c5, hγ5, hu5⟩ := hr.tm 5 (.ptr j 0) hv5
      obtain ⟨ob, hob1, hob2⟩ := hr.inv.own j _ hγ5
      rw [hbox] at hob1
      cases hob1
      obtain ⟨cur5, et5, hh5, hall5⟩ := hob2
      have hLb := (hr.inv.rng j _ _ hγ5).2
      obtain ⟨u5, hu5c, hu5r⟩ : ∃ u, cur5.toList = [u] ∧ CR w (Av x γ w) (.sl e ys t) u := by
        cases hc : cur5.toList with
        | nil => rw [hc] at hall5; exact hall5.elim
        | cons u us =>
          rw [hc] at hall5
          cases us with
          | nil => exact ⟨u, rfl, hall5.1⟩
          | cons _ _ => exact hall5.2.elim
      obtain ⟨la, lcap, rfl, _⟩ := hu5r
      have hl : w.cell? ⟨Lb, 0, none⟩ = some (.slice la ys.length lcap) := by
        show (match w.heap[Lb]? with | some (.cells c _ _) => c[0]? | _ => none) = _
        rw [hh5]
        show cur5[0]? = _
        rw [← Array.getElem?_toList, hu5c]
        rfl
      refine walk8 (zs := zs) (b := b) (off := off) (cap := cap) (Lb := Lb) (lL := ys.length) (lcap := lcap) (la := la) hsz hr.nod hu5 hu hbl hLb hz.2 hl ?_ ?_
      · intro i hi
        show (match w.heap[b]? with | some (.cells c _ _) => c[off + i]? | _ => none) = _
        rw [hb]
        show cur[off + i]? = _
        have h3 := hrow.2 i zs[i] (by simp)
        have h3 : (cs.drop (i * 1)).take 1 = [.int .i64 zs[i]] := h3
        rw [hcs] at h3
        have h4 := congrArg (fun l => l[0]?) h3
        simp only [List.getElem?_take, List.getElem?_drop] at h4
        have h5 : (1 : Nat) = Sh.nc (.int .i64) := rfl
        have h6 : Sh.nc (.int .i64) = 1 := rfl
        rw [h6] at h4
        rw [if_pos (by omega), if_pos (by omega)] at h4
        rw [← Array.getElem?_toList]
        simpa [Nat.add_assoc] using h4
      · rintro D W a' ⟨bv, hbx, hbr⟩ hB hD hDh hds hs' ht h11
        have hWs := hB.size
        obtain ⟨hlen2, hrow2⟩ := hbr
        have hbl2 : (bc zs (ys.length : Int) 0).length = zs.length := by simp [bc, bk0]
        rcases hrow2 with ⟨_, h0⟩ | ⟨g, cap2, cur2, rfl, hg, hgb, hcap2, _, hsz2, htk⟩
        · omega
        have hgl := (Array.getElem?_eq_some_iff.1 hgb).1
        have hBl := (Array.getElem?_eq_some_iff.1 (Boxed.heap' hbx)).1
        have hgne : g ≠ w.heap.size := fun e => by
          rw [e, Boxed.heap' hbx] at hgb
          cases hgb
        obtain ⟨γ2, hr2⟩ := hr.hook (T := [11, 65, 66]) (d := 11) (k := 11) (B := w.heap.size) (c := 0) hk (Grows.of_below hB) hs' ht (by simp) ⟨Nat.le_refl _, hBl⟩ (by
          refine ⟨#[.slice (some ⟨g, 0, none⟩) zs.length cap2], 23, Boxed.heap' hbx, ⟨some ⟨g, 0, none⟩, cap2, by simp [bk0], by simpa [bk0] using hcap2, fun h => (by cases h), .inr ⟨g, 0, cur2, _, _, rfl, ?_, hgb, ?_, ?_⟩⟩, trivial⟩
          · refine ⟨hgl, fun h => ?_, fun k c hk => ?_⟩
            · have := hr.inv.size
              have h : g < x.B := h
              omega
            · unfold gset at hk
              split at hk
              · cases hk; exact hgne rfl
              · have := (hr.inv.rng _ _ _ hk).2
                omega
          · show 0 + (bk0 zs (ys.length : Int) 0).length * 1 ≤ _
            have : (bk0 zs (ys.length : Int) 0).length = zs.length := by simp [bk0]
            omega
          · intro i y hi
            show (cur2.toList.drop (0 + i * 1)).take 1 = [.int .i64 y]
            have hi2 := (List.getElem?_eq_some_iff.1 hi).1
            have hbk : (bk0 zs (ys.length : Int) 0).length = zs.length := by simp [bk0]
            have h7 : (bc zs (ys.length : Int) 0)[i]? = some (.int .i64 y) := by
              unfold bc
              rw [List.getElem?_map, hi]
              rfl
            rw [← htk, List.getElem?_take, if_pos (by omega)] at h7
            have h8 := List.getElem?_eq_some_iff.1 h7
            obtain ⟨h8, h9⟩ := h8
            rw [Nat.zero_add, Nat.mul_one, List.drop_eq_getElem_cons h8, h9]
            rfl) (fun _ => by
          rw [h11]
          exact ⟨w.heap.size, 0, by simp [gset], rfl⟩)
        have hr3 := hr2.anew
        refine runG_sound hT hE hphi hpar hm h8r anH8 (fun p hp => ?_) (rtG rk8) _ (rtG rk8) _ st2 γ2 a' W h2 hr3 ⟨?_, fun j st γ a w hk _ => (by cases hk), ?_⟩
        · rw [show occ h8r anH8 = [] by kernel_rfl] at hp
          cases hp
        all_goals
          intro st3 γ3 a3 W3 hrt hr4
          show LeavesInM _ _ _ _ _ _ a3.defers _ _
          rw [show a3.defers = [{ target := .collected D, args := #[] }] from hr4.nod.trans hds]
          have hD3 : W3.heap[D]? = some (.deferred (some [])) := (hr4.inv.blk D (by exact (Array.getElem?_eq_some_iff.1 hDh).1) (hr2.inv.not_own hDh)).trans hDh
          have hD3l := (Array.getElem?_eq_some_iff.1 hD3).1
          have hval : a3.tmps.getD 4 undef = .bool r := by
            have hrt := (cond_some hrt rfl).2
            have hy : (match (st3.tm[4]? : Option V) with | some v => Go.Vi.valOf .bool v | none => none) = some r := hrt
            split at hy
            · rename_i v4 hv4
              have h4 := hr4.tm 4 v4 hv4
              cases v4 with
              | c y4 =>
                have hy : ofC .bool [y4] = some r := hy
                cases y4 <;> simp only [ofC] at hy <;> first | (cases hy; done) | skip
                cases hy
                exact h4
              | _ => cases hy
            · cases hy
          refine ⟨by simp, .inl ⟨D, _, rfl, run_takeDeferred hD3, ?_⟩⟩
          refine ⟨.bool r, results_run (us := [.bool r]) ?_, ?_, ?_⟩
          · show ((Try.f8.results.toList.mapM (resF a3.tmps))).run _ _ = _
            rw [show Try.f8.results.toList = [.tmp 4] by kernel_rfl]
            simp only [List.mapM_cons, List.mapM_nil, resF, hval]
            rfl
          · have q1 := hr.inv.size
            have q2 := hr4.inv.size
            have q1 : w0.heap.size ≤ w.heap.size := q1
            have q2 : W.heap.size ≤ W3.heap.size := q2
            refine ⟨by simp; omega, hr4.inv.os.trans (hB.os.trans hr.inv.os), hr4.inv.tape.trans (hB.tape.trans hr.inv.tape), hr4.inv.output.trans (hB.output.trans hr.inv.output), fun b' hb' => ?_⟩
            refine (World.putObj_heap_other (by omega)).trans ?_
            refine (hr4.inv.blk b' (by show b' < W.heap.size; omega) ?_).trans ((hB.block b' (by omega)).trans (hr.inv.blk b' hb' (fun h => h)))
            rintro ⟨k, c, hk'⟩
            rcases (hr2.inv.rng _ _ _ hk').1 with h | h
            · have h : w0.heap.size ≤ b' := h
              omega
            · exact h
          · exact ⟨[.emp], [.bool r], rfl, rfl, fun b c h => (by cases h), trivial⟩
    · cases hk
  · cases hk
theorem FC8 (n : Nat × Nat) : FCs Try.prog 8 (P8 n) := phiOf_FCs fun xs r h vs hv => HC8 n xs r h vs hv
end Go.Proofs.Ytnlbhjmbaedadaa
set_option linter.unusedVariables false
set_option linter.unusedSimpArgs false
namespace Go.Proofs.Ytnlbhjmbaedadaa
open Go.Vi
theorem self_loop (n : Nat × Nat) (l : List (Int × Int)) (hl : l.length < 1000) : ∀ (m k : Nat), k ≤ l.length → l.length - k < m → DL51_1 n m l l (k : Int) = some true
  | 0, k, _, h => by omega
  | m + 1, k, hk, h => by
    rw [DL51_1_succ]
    unfold DF51_1
    by_cases hlt : k < l.length
    · rw [dlt_t hlt, cond_true, idx_nat hlt, Option.bind_some, Option.bind_some, wr_succ (by omega)]
      simp only [beq_self_eq_true, Bool.and_self, Bool.not_true, cond_false]
      exact self_loop n l hl m (k + 1) (by omega) (by omega)
    · rw [dlt_f hlt, cond_false]
theorem self_eq {n : Nat × Nat} (hn : 1000 ≤ n.1) {l : List (Int × Int)} (hl : l.length < 900) : D51 n l l = some true := by
  unfold D51
  rw [bne_self_eq_false, cond_false]
  exact self_loop n l (by omega) n.1 0 (by omega) (by omega)
theorem bk0_bk {L : Nat} {o : List Int} (hL : L ≤ 7) (ho : Ord L o) : bk0 o (L : Int) 0 = bk L o := by
  unfold bk0 bk
  rw [List.drop_zero]
  apply List.map_congr_left
  intro i hi
  have := ho.rng i (by simpa using hi)
  have w1 : RowKit.wrap64 ((L : Int) - 1) = (L : Int) - 1 := by unfold RowKit.wrap64; omega
  have w2 : RowKit.wrap64 ((L : Int) - 1 - i) = (L : Int) - 1 - i := by unfold RowKit.wrap64; omega
  rw [w1, w2]
theorem turned_loop (n : Nat × Nat) (hn : 1000 ≤ n.1) {l : List (Int × Int)} (hg : Good l) {v : Bt} (hv : BtOk v) (hw : D14 n = some true) : ∀ (m k : Nat), k ≤ l.length → l.length - k < m →
    DL8_1 n m l (l.length : Int) (k : Int) v.1 v.2.1 v.2.2.1 v.2.2.2.1 v.2.2.2.2.1 v.2.2.2.2.2.1 v.2.2.2.2.2.2 l (tn l) = some true
  | 0, k, _, h => by omega
  | m + 1, k, hk, h => by
    have h7 := hg.len
    have hp := hg.pos
    rw [DL8_1_succ]
    unfold DF8_1
    by_cases hlt : k < l.length
    · have htl := tn_len l
      have e1 : wr .i64 (wr .i64 ((l.length : Int) - 1) - (k : Int)) = ((l.length - 1 - k : Nat) : Int) := by
        rw [wr_ok (x := (l.length : Int) - 1) (by omega) (by omega), wr_ok (by omega) (by omega)]
        omega
      rw [dlt_t hlt, cond_true, idx_nat hlt, Option.bind_some, e1, inB_nat (by omega), cond_true, idx_nat (by omega), Option.bind_some, tn_get hlt, wr_succ (by omega)]
      simp only [beq_self_eq_true, Bool.and_self, Bool.not_true, cond_false]
      exact turned_loop n hn hg hv hw m (k + 1) (by omega) (by omega)
    · obtain ⟨o, e2, ho⟩ := order_ex hn hv (L := l.length) hg.len
      have hol := ho.len
      have hgm := tn_good hg
      have htl := tn_len l
      have hbo : Ord (tn l).length (bk l.length o) := by rw [htl]; exact bk_ord ho
      obtain ⟨hb1, hb2⟩ := turned_best hg
      have T : ∀ {x : List (Int × Int)} {q : List Int}, Good x → Ord x.length q → D19 n x q = some (tm 0 0 (pk x q), 0) := fun {x} {q} hx hq => by
        have := hq.len
        have := hx.len
        rw [Time_eq hn (by omega)]
        unfold timeS
        rw [put_zero.2 ⟨hx, hq⟩]
        rfl
      have C : ∀ {x : List (Int × Int)}, Good x → D31 n x = some (((bests x).length : Int), 0) := fun {x} hx => by
        rw [Count_eq hn]
        unfold countS
        rw [if_neg (by simpa using chk_good.2 hx)]
      have U : D39 n (tn l) = some (l, 0) := by
        rw [Turn_eq hn]
        unfold turnS
        rw [if_neg (by simpa using chk_good.2 hgm), tn_tu, tn_tn]
      rw [dlt_f hlt, cond_false, e2, Option.bind_some, decide_eq_true (show 0 < o.length by omega), decide_eq_true (show o.length ≤ 1000000 by omega), Bool.and_self, cond_true, U, Option.bind_some, T hg ho, Option.bind_some, bk0_bk h7 ho, T hgm hbo, Option.bind_some, C hg, Option.bind_some, C hgm, Option.bind_some, bk_tm hg ho, hb2]
      simp only [beq_self_eq_true, cond_true, Option.bind_some, self_eq hn (l := l) (by omega), hw]
theorem turned_ok {f : Fm} (hf : FmOk f) {v : Bt} (hv : BtOk v) : S8 N f v = some true := by
  rw [S8_D N rfl]
  unfold D8
  obtain ⟨l, e1, hg, h6⟩ := made_ex hN1 hf (most := 6) ⟨by omega, by omega⟩
  have h7 := hg.len
  have htl := tn_len l
  rw [e1, Option.bind_some, Turn_eq hN1, Option.bind_some]
  unfold turnS
  rw [if_neg (by simpa using chk_good.2 hg), tn_tu]
  simp only [bne_self_eq_false, beq_self_eq_true, cond_true, Option.bind_some, htl, cond_false]
  exact turned_loop N hN1 hg hv works_eq N.1 0 (by omega) (by have : N.1 = 10000 := rfl; omega)
abbrev Sh2 : Sh := .pair (.int .u8) (.int .u8)
abbrev ShF : Sh := .pair (.int .u8) (.pair (.int .u8) (.pair Sh2 (.pair Sh2 (.pair Sh2 (.pair Sh2 (.pair Sh2 (.pair Sh2 Sh2)))))))
abbrev ShB : Sh := .pair (.int .u8) (.pair (.int .u8) (.pair (.int .u8) (.pair (.int .u8) (.pair (.int .u8) (.pair (.int .u8) (.int .u8))))))
theorem u8_rng {x : Int} (h : (Lit.int .u8 x).wf = true) : 0 ≤ x ∧ x ≤ 255 := by
  simpa [Lit.wf, IntKind.min, IntKind.max, IntKind.signed, IntKind.bits] using h
theorem by_wf {x : Int} (h : Wf (.int .u8) x) : By x := u8_rng h
theorem fm_ok {f : Fm} (h : Wf ShF f) : FmOk f := by
  obtain ⟨ha, hb, h1, h2, h3, h4, h5, h6, h7⟩ := h
  refine ⟨by_wf ha, by_wf hb, fun x hx => ?_⟩
  simp only [List.mem_cons, List.not_mem_nil, or_false] at hx
  rcases hx with e | e | e | e | e | e | e <;> subst e
  · exact ⟨by_wf h1.1, by_wf h1.2⟩
  · exact ⟨by_wf h2.1, by_wf h2.2⟩
  · exact ⟨by_wf h3.1, by_wf h3.2⟩
  · exact ⟨by_wf h4.1, by_wf h4.2⟩
  · exact ⟨by_wf h5.1, by_wf h5.2⟩
  · exact ⟨by_wf h6.1, by_wf h6.2⟩
  · exact ⟨by_wf h7.1, by_wf h7.2⟩
theorem bt_ok {v : Bt} (h : Wf ShB v) : BtOk v := by
  obtain ⟨h1, h2, h3, h4, h5, h6, h7⟩ := h
  intro x hx
  unfold bts at hx
  simp only [List.mem_cons, List.not_mem_nil, or_false] at hx
  rcases hx with e | e | e | e | e | e | e <;> subst e
  · exact by_wf h1
  · exact by_wf h2
  · exact by_wf h3
  · exact by_wf h4
  · exact by_wf h5
  · exact by_wf h6
  · exact by_wf h7
end Go.Proofs.Ytnlbhjmbaedadaa
