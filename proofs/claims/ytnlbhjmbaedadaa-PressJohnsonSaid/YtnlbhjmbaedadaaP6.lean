/- Texts of this claim, joined: D84 to Pa. -/
import Derived.KernelRfl
import Derived.Test.YtnlbhjmbaedadaaProg
import Derived.WalkKit
import Derived.Test.YtnlbhjmbaedadaaP5
set_option linter.unusedVariables false
set_option linter.unusedSimpArgs false
set_option maxRecDepth 100000
namespace Go.Proofs.Ytnlbhjmbaedadaa
open Go.Vi
/-D 84 -/
noncomputable def DF84_1 (n : Nat × Nat) (f1 : Int → List Int → Int → Int → Option R84) (first0 : Int) (v7 : List Int) (v8 : Int) (v9 : Int) : Option R84 :=
 (bif decide (v9 < v8) then (idx v7 v9).bind fun x1' =>
      f1 (if x1' > first0 then x1' else first0) v7 v8 (wr .i64 (v9 + 1))
 else some first0)
noncomputable def DL84_1 (n : Nat × Nat) (m : Nat) : Int → List Int → Int → Int → Option R84 := Nat.rec (motive := fun _ => Int → List Int → Int → Int → Option R84) (fun _ _ _ _ => none) (fun _ ih => DF84_1 n ih) m
theorem DL84_1_succ (n : Nat × Nat) (m : Nat) : DL84_1 n (m + 1) = DF84_1 n (DL84_1 n m) := rfl
theorem DL84_1_eq (n : Nat × Nat) (hn : n.2 = 1) : ∀ m, L84_1 n m = DL84_1 n m
  | 0 => by funext first0 v7 v8 v9; kernel_rfl
  | m + 1 => by
    have ih := DL84_1_eq n hn m
    funext first0 v7 v8 v9; refine (L84_1_eq n m first0 v7 v8 v9).trans ?_
    rw [DL84_1_succ]
    unfold DF84_1
    (try simp only [ih]) <;> first | with_reducible rfl | rfl
noncomputable def D84 (n : Nat × Nat) (first0 : Int) (v1 : List Int) : Option R84 :=
    DL84_1 n n.1 first0 v1 (v1.length : Int) 0
theorem S84_D (n : Nat × Nat) (hn : n.2 = 1) : S84 n = D84 n := by
  funext first0 v1; refine (S84_eq n first0 v1).trans ?_
  unfold D84
  (try simp only [DL84_1_eq n hn]) <;> first | with_reducible rfl | rfl
/-D 61 -/
noncomputable def D61 (n : Nat × Nat) (l0 : List (Int × Int)) : Option R61 :=
 (D66 n l0).bind fun r1' =>
 (bif inB 0 r1'.length then (idx r1' 0).bind fun x2' =>
 (bif bounds (some 1) none none r1'.length then (D84 n x2' ((r1'.drop (0 + (Int.toNat 1))).take (r1'.length - (Int.toNat 1)))).bind fun r3' =>
 some r3'
 else none)
 else none)
theorem S61_D (n : Nat × Nat) (hn : n.2 = 1) : S61 n = D61 n := by
  funext l0; refine (S61_eq n l0).trans ?_
  unfold D61
  (try simp only [S66_D n hn, S84_D n hn]) <;> first | with_reducible rfl | rfl
/-D 19 -/
noncomputable def D19 (n : Nat × Nat) (sheets0 : List (Int × Int)) (order1 : List Int) : Option R19 :=
 (D58 n sheets0 order1).bind fun r1' =>
 (bif (r1'.2 != 0) then some (0, r1'.2)
 else (D61 n r1'.1).bind fun r2' =>
 some (r2', 0))
theorem S19_D (n : Nat × Nat) (hn : n.2 = 1) : S19 n = D19 n := by
  funext sheets0 order1; refine (S19_eq n sheets0 order1).trans ?_
  unfold D19
  (try simp only [S58_D n hn, S61_D n hn]) <;> first | with_reducible rfl | rfl
/-D 21 -/
noncomputable def D21 (n : Nat × Nat) (sheets0 : List (Int × Int)) (order1 : List Int) : Option R21 :=
 (D58 n sheets0 order1).bind fun r1' =>
 (bif (r1'.2 != 0) then some (0, r1'.2)
 else (D61 n r1'.1).bind fun r2' =>
 (D64 n r1'.1 1).bind fun r3' =>
 (D63 n r3').bind fun r4' =>
 some (wr .i64 (r2' - r4'), 0))
theorem S21_D (n : Nat × Nat) (hn : n.2 = 1) : S21 n = D21 n := by
  funext sheets0 order1; refine (S21_eq n sheets0 order1).trans ?_
  unfold D21
  (try simp only [S58_D n hn, S61_D n hn, S63_D n hn, S64_D n hn]) <;> first | with_reducible rfl | rfl
/-D 23 -/
noncomputable def D23 (n : Nat × Nat) (sheets0 : List (Int × Int)) (order1 : List Int) : Option R23 :=
 (D58 n sheets0 order1).bind fun r1' =>
 (bif (r1'.2 != 0) then some (0, r1'.2)
 else (D66 n r1'.1).bind fun r2' =>
 (D61 n r1'.1).bind fun r3' =>
 (D65 n r2' r3').bind fun r4' =>
 some (r4', 0))
theorem S23_D (n : Nat × Nat) (hn : n.2 = 1) : S23 n = D23 n := by
  funext sheets0 order1; refine (S23_eq n sheets0 order1).trans ?_
  unfold D23
  (try simp only [S58_D n hn, S61_D n hn, S65_D n hn, S66_D n hn]) <;> first | with_reducible rfl | rfl
/-D 86 -/
noncomputable def D86 (n : Nat × Nat) (i0 : Int) (j1 : Int) (v2 : List (Int × Int)) : Option R86 :=
 (idx v2 i0).bind fun x1' =>
 (idx v2 j1).bind fun x2' =>
 some (wr .i64 (x1'.1 - x2'.1))
theorem S86_D (n : Nat × Nat) (hn : n.2 = 1) : S86 n = D86 n := by
  funext i0 j1 v2; refine (S86_eq n i0 j1 v2).trans ?_
  unfold D86
  first | with_reducible rfl | rfl
/-D 95c86io1001 -/
noncomputable def DF95c86io1001_2 (n : Nat × Nat) (f1 : Int → Int → Int → List Int → (List (Int × Int)) → Option R95c86io1001) (f2 : Int → Int → Int → Int → List Int → (List (Int × Int)) → Option R95c86io1001) (a1 : Int) (b2 : Int) (i8 : Int) (j9 : Int) (u0 : List Int) (u1 : List (Int × Int)) : Option R95c86io1001 :=
 ((bif (decide (j9 > a1) == true) then (bif inB j9 u0.length then (idx u0 j9).bind fun x1' =>
 (bif inB (wr .i64 (j9 - 1)) u0.length then (idx u0 (wr .i64 (j9 - 1))).bind fun x2' =>
 (D86 n x1' x2' u1).bind fun r3' =>
 some (decide (r3' < 0))
 else none)
 else none)
 else some false)).bind fun b4' =>
 (bif b4' then (bif inB (wr .i64 (j9 - 1)) u0.length then (idx u0 (wr .i64 (j9 - 1))).bind fun x5' =>
 (bif inB j9 u0.length then (idx u0 j9).bind fun x6' =>
 (bif inB j9 u0.length then (idx u0 j9).bind fun x7' =>
 (bif inB (wr .i64 (j9 - 1)) (u0.set (Int.toNat j9) x5').length then (idx (u0.set (Int.toNat j9) x5') (wr .i64 (j9 - 1))).bind fun x8' =>
              f2 a1 b2 i8 (wr .i64 (j9 - 1)) ((u0.set (Int.toNat j9) x5').set (Int.toNat (wr .i64 (j9 - 1))) x6') u1
 else none)
 else none)
 else none)
 else none)
 else f1 a1 b2 (wr .i64 (i8 + 1)) u0 u1)
noncomputable def DL95c86io1001_2 (n : Nat × Nat) (f1 : Int → Int → Int → List Int → (List (Int × Int)) → Option R95c86io1001) (m : Nat) : Int → Int → Int → Int → List Int → (List (Int × Int)) → Option R95c86io1001 := Nat.rec (motive := fun _ => Int → Int → Int → Int → List Int → (List (Int × Int)) → Option R95c86io1001) (fun _ _ _ _ _ _ => none) (fun _ ih => DF95c86io1001_2 n f1 ih) m
theorem DL95c86io1001_2_succ (n : Nat × Nat) (f1 : Int → Int → Int → List Int → (List (Int × Int)) → Option R95c86io1001) (m : Nat) : DL95c86io1001_2 n f1 (m + 1) = DF95c86io1001_2 n f1 (DL95c86io1001_2 n f1 m) := rfl
theorem DL95c86io1001_2_eq (n : Nat × Nat) (hn : n.2 = 1) (m1 : Nat) : ∀ m, L95c86io1001_2 n m1 m = DL95c86io1001_2 n (L95c86io1001_1 n m1) m
  | 0 => by funext a1 b2 i8 j9 u0 u1; kernel_rfl
  | m + 1 => by
    have ih := DL95c86io1001_2_eq n hn m1 m
    funext a1 b2 i8 j9 u0 u1; refine (L95c86io1001_2_eq n m1 m a1 b2 i8 j9 u0 u1).trans ?_
    rw [DL95c86io1001_2_succ]
    unfold DF95c86io1001_2
    (try simp only [ih, S86_D n hn]) <;> first | with_reducible rfl | rfl
noncomputable def DF95c86io1001_1 (n : Nat × Nat) (f1 : Int → Int → Int → List Int → (List (Int × Int)) → Option R95c86io1001) (a1 : Int) (b2 : Int) (i8 : Int) (u0 : List Int) (u1 : List (Int × Int)) : Option R95c86io1001 :=
 (bif decide (i8 < b2) then DL95c86io1001_2 n f1 n.1 a1 b2 i8 i8 u0 u1
 else some ((), u0, u1, ()))
noncomputable def DL95c86io1001_1 (n : Nat × Nat) (m : Nat) : Int → Int → Int → List Int → (List (Int × Int)) → Option R95c86io1001 := Nat.rec (motive := fun _ => Int → Int → Int → List Int → (List (Int × Int)) → Option R95c86io1001) (fun _ _ _ _ _ => none) (fun _ ih => DF95c86io1001_1 n ih) m
theorem DL95c86io1001_1_succ (n : Nat × Nat) (m : Nat) : DL95c86io1001_1 n (m + 1) = DF95c86io1001_1 n (DL95c86io1001_1 n m) := rfl
theorem DL95c86io1001_1_eq (n : Nat × Nat) (hn : n.2 = 1) : ∀ m, L95c86io1001_1 n m = DL95c86io1001_1 n m
  | 0 => by funext a1 b2 i8 u0 u1; kernel_rfl
  | m + 1 => by
    have ih := DL95c86io1001_1_eq n hn m
    funext a1 b2 i8 u0 u1; refine (L95c86io1001_1_eq n m a1 b2 i8 u0 u1).trans ?_
    rw [DL95c86io1001_1_succ]
    unfold DF95c86io1001_1
    (try simp only [ih, DL95c86io1001_2_eq n hn, S86_D n hn]) <;> first | with_reducible rfl | rfl
noncomputable def D95c86io1001 (n : Nat × Nat) (data0 : List Int) (a1 : Int) (b2 : Int) (cp_3_0 : List (Int × Int)) : Option R95c86io1001 :=
    DL95c86io1001_1 n n.1 a1 b2 (wr .i64 (a1 + 1)) data0 cp_3_0
theorem S95c86io1001_D (n : Nat × Nat) (hn : n.2 = 1) : S95c86io1001 n = D95c86io1001 n := by
  funext data0 a1 b2 cp_3_0; refine (S95c86io1001_eq n data0 a1 b2 cp_3_0).trans ?_
  unfold D95c86io1001
  (try simp only [DL95c86io1001_2_eq n hn, DL95c86io1001_1_eq n hn, S86_D n hn]) <;> first | with_reducible rfl | rfl
noncomputable def D96c86io10001 (n : Nat × Nat) (data0 : List Int) (a1 : Int) (m2 : Int) (b3 : Int) (cp_4_0 : List (Int × Int)) : Option R96c86io10001 := none
theorem S96c86io10001_D (n : Nat × Nat) (hn : n.2 = 1) : S96c86io10001 n = D96c86io10001 n := rfl
/-D 94c86io101 -/
noncomputable def DF94c86io101_3 (n : Nat × Nat) (f1 : Int → Int → List Int → (List (Int × Int)) → Option R94c86io101) (f2 : Int → Int → Int → Int → List Int → (List (Int × Int)) → Option R94c86io101) (v1 : Int) (blockSize6 : Int) (a7 : Int) (b8 : Int) (u0 : List Int) (u1 : List (Int × Int)) : Option R94c86io101 :=
 (bif decide (b8 ≤ v1) then (D96c86io10001 n u0 a7 (wr .i64 (a7 + blockSize6)) b8 u1).bind fun r3' =>
 (bif Nat.beq r3'.2.1.length u0.length then f2 v1 blockSize6 b8 (wr .i64 (b8 + (wr .i64 (2 * blockSize6)))) r3'.2.1 r3'.2.2.1
 else none)
 else (bif decide (wr .i64 (a7 + blockSize6) < v1) then (D96c86io10001 n u0 a7 (wr .i64 (a7 + blockSize6)) v1 u1).bind fun r4' =>
 (bif Nat.beq r4'.2.1.length u0.length then f1 v1 (wr .i64 (blockSize6 * 2)) r4'.2.1 r4'.2.2.1
 else none)
 else f1 v1 (wr .i64 (blockSize6 * 2)) u0 u1))
noncomputable def DL94c86io101_3 (n : Nat × Nat) (f1 : Int → Int → List Int → (List (Int × Int)) → Option R94c86io101) (m : Nat) : Int → Int → Int → Int → List Int → (List (Int × Int)) → Option R94c86io101 := Nat.rec (motive := fun _ => Int → Int → Int → Int → List Int → (List (Int × Int)) → Option R94c86io101) (fun _ _ _ _ _ _ => none) (fun _ ih => DF94c86io101_3 n f1 ih) m
theorem DL94c86io101_3_succ (n : Nat × Nat) (f1 : Int → Int → List Int → (List (Int × Int)) → Option R94c86io101) (m : Nat) : DL94c86io101_3 n f1 (m + 1) = DF94c86io101_3 n f1 (DL94c86io101_3 n f1 m) := rfl
theorem DL94c86io101_3_eq (n : Nat × Nat) (hn : n.2 = 1) (m1 : Nat) : ∀ m, L94c86io101_3 n m1 m = DL94c86io101_3 n (L94c86io101_2 n m1) m
  | 0 => by funext v1 blockSize6 a7 b8 u0 u1; kernel_rfl
  | m + 1 => by
    have ih := DL94c86io101_3_eq n hn m1 m
    funext v1 blockSize6 a7 b8 u0 u1; refine (L94c86io101_3_eq n m1 m v1 blockSize6 a7 b8 u0 u1).trans ?_
    rw [DL94c86io101_3_succ]
    unfold DF94c86io101_3
    (try simp only [ih, S95c86io1001_D n hn, S96c86io10001_D n hn]) <;> first | with_reducible rfl | rfl
noncomputable def DF94c86io101_2 (n : Nat × Nat) (f1 : Int → Int → List Int → (List (Int × Int)) → Option R94c86io101) (v1 : Int) (blockSize6 : Int) (u0 : List Int) (u1 : List (Int × Int)) : Option R94c86io101 :=
 (bif decide (blockSize6 < v1) then DL94c86io101_3 n f1 n.1 v1 blockSize6 0 (wr .i64 (2 * blockSize6)) u0 u1
 else some ((), u0, u1, ()))
noncomputable def DL94c86io101_2 (n : Nat × Nat) (m : Nat) : Int → Int → List Int → (List (Int × Int)) → Option R94c86io101 := Nat.rec (motive := fun _ => Int → Int → List Int → (List (Int × Int)) → Option R94c86io101) (fun _ _ _ _ => none) (fun _ ih => DF94c86io101_2 n ih) m
theorem DL94c86io101_2_succ (n : Nat × Nat) (m : Nat) : DL94c86io101_2 n (m + 1) = DF94c86io101_2 n (DL94c86io101_2 n m) := rfl
theorem DL94c86io101_2_eq (n : Nat × Nat) (hn : n.2 = 1) : ∀ m, L94c86io101_2 n m = DL94c86io101_2 n m
  | 0 => by funext v1 blockSize6 u0 u1; kernel_rfl
  | m + 1 => by
    have ih := DL94c86io101_2_eq n hn m
    funext v1 blockSize6 u0 u1; refine (L94c86io101_2_eq n m v1 blockSize6 u0 u1).trans ?_
    rw [DL94c86io101_2_succ]
    unfold DF94c86io101_2
    (try simp only [ih, DL94c86io101_3_eq n hn, S95c86io1001_D n hn, S96c86io10001_D n hn]) <;> first | with_reducible rfl | rfl
noncomputable def DF94c86io101_1 (n : Nat × Nat) (f1 : Int → Int → Int → Int → List Int → (List (Int × Int)) → Option R94c86io101) (v1 : Int) (blockSize6 : Int) (a7 : Int) (b8 : Int) (u0 : List Int) (u1 : List (Int × Int)) : Option R94c86io101 :=
 (bif decide (b8 ≤ v1) then (D95c86io1001 n u0 a7 b8 u1).bind fun r1' =>
 (bif Nat.beq r1'.2.1.length u0.length then f1 v1 blockSize6 b8 (wr .i64 (b8 + blockSize6)) r1'.2.1 r1'.2.2.1
 else none)
 else (D95c86io1001 n u0 a7 v1 u1).bind fun r2' =>
 (bif Nat.beq r2'.2.1.length u0.length then DL94c86io101_2 n n.1 v1 blockSize6 r2'.2.1 r2'.2.2.1
 else none))
noncomputable def DL94c86io101_1 (n : Nat × Nat) (m : Nat) : Int → Int → Int → Int → List Int → (List (Int × Int)) → Option R94c86io101 := Nat.rec (motive := fun _ => Int → Int → Int → Int → List Int → (List (Int × Int)) → Option R94c86io101) (fun _ _ _ _ _ _ => none) (fun _ ih => DF94c86io101_1 n ih) m
theorem DL94c86io101_1_succ (n : Nat × Nat) (m : Nat) : DL94c86io101_1 n (m + 1) = DF94c86io101_1 n (DL94c86io101_1 n m) := rfl
theorem DL94c86io101_1_eq (n : Nat × Nat) (hn : n.2 = 1) : ∀ m, L94c86io101_1 n m = DL94c86io101_1 n m
  | 0 => by funext v1 blockSize6 a7 b8 u0 u1; kernel_rfl
  | m + 1 => by
    have ih := DL94c86io101_1_eq n hn m
    funext v1 blockSize6 a7 b8 u0 u1; refine (L94c86io101_1_eq n m v1 blockSize6 a7 b8 u0 u1).trans ?_
    rw [DL94c86io101_1_succ]
    unfold DF94c86io101_1
    (try simp only [ih, DL94c86io101_3_eq n hn, DL94c86io101_2_eq n hn, S95c86io1001_D n hn, S96c86io10001_D n hn]) <;> first | with_reducible rfl | rfl
noncomputable def D94c86io101 (n : Nat × Nat) (data0 : List Int) (v1 : Int) (cp_2_0 : List (Int × Int)) : Option R94c86io101 :=
    DL94c86io101_1 n n.1 v1 20 0 20 data0 cp_2_0
theorem S94c86io101_D (n : Nat × Nat) (hn : n.2 = 1) : S94c86io101 n = D94c86io101 n := by
  funext data0 v1 cp_2_0; refine (S94c86io101_eq n data0 v1 cp_2_0).trans ?_
  unfold D94c86io101
  (try simp only [DL94c86io101_3_eq n hn, DL94c86io101_2_eq n hn, DL94c86io101_1_eq n hn, S95c86io1001_D n hn, S96c86io10001_D n hn]) <;> first | with_reducible rfl | rfl
/-D 85c86io11 -/
noncomputable def D85c86io11 (n : Nat × Nat) (x0 : List Int) (cp_1_0 : List (Int × Int)) : Option R85c86io11 :=
 (D94c86io101 n x0 (x0.length : Int) cp_1_0).bind fun r1' =>
 (bif Nat.beq r1'.2.1.length x0.length then some ((), r1'.2.1, r1'.2.2.1, ())
 else none)
theorem S85c86io11_D (n : Nat × Nat) (hn : n.2 = 1) : S85c86io11 n = D85c86io11 n := by
  funext x0 cp_1_0; refine (S85c86io11_eq n x0 cp_1_0).trans ?_
  unfold D85c86io11
  (try simp only [S94c86io101_D n hn]) <;> first | with_reducible rfl | rfl
/-D 87 -/
noncomputable def D87 (n : Nat × Nat) (i0 : Int) (j1 : Int) (v2 : List (Int × Int)) : Option R87 :=
 (idx v2 j1).bind fun x1' =>
 (idx v2 i0).bind fun x2' =>
 some (wr .i64 (x1'.2 - x2'.2))
theorem S87_D (n : Nat × Nat) (hn : n.2 = 1) : S87 n = D87 n := by
  funext i0 j1 v2; refine (S87_eq n i0 j1 v2).trans ?_
  unfold D87
  first | with_reducible rfl | rfl
/-D 95c87io1001 -/
noncomputable def DF95c87io1001_2 (n : Nat × Nat) (f1 : Int → Int → Int → List Int → (List (Int × Int)) → Option R95c87io1001) (f2 : Int → Int → Int → Int → List Int → (List (Int × Int)) → Option R95c87io1001) (a1 : Int) (b2 : Int) (i8 : Int) (j9 : Int) (u0 : List Int) (u1 : List (Int × Int)) : Option R95c87io1001 :=
 ((bif (decide (j9 > a1) == true) then (bif inB j9 u0.length then (idx u0 j9).bind fun x1' =>
 (bif inB (wr .i64 (j9 - 1)) u0.length then (idx u0 (wr .i64 (j9 - 1))).bind fun x2' =>
 (D87 n x1' x2' u1).bind fun r3' =>
 some (decide (r3' < 0))
 else none)
 else none)
 else some false)).bind fun b4' =>
 (bif b4' then (bif inB (wr .i64 (j9 - 1)) u0.length then (idx u0 (wr .i64 (j9 - 1))).bind fun x5' =>
 (bif inB j9 u0.length then (idx u0 j9).bind fun x6' =>
 (bif inB j9 u0.length then (idx u0 j9).bind fun x7' =>
 (bif inB (wr .i64 (j9 - 1)) (u0.set (Int.toNat j9) x5').length then (idx (u0.set (Int.toNat j9) x5') (wr .i64 (j9 - 1))).bind fun x8' =>
              f2 a1 b2 i8 (wr .i64 (j9 - 1)) ((u0.set (Int.toNat j9) x5').set (Int.toNat (wr .i64 (j9 - 1))) x6') u1
 else none)
 else none)
 else none)
 else none)
 else f1 a1 b2 (wr .i64 (i8 + 1)) u0 u1)
noncomputable def DL95c87io1001_2 (n : Nat × Nat) (f1 : Int → Int → Int → List Int → (List (Int × Int)) → Option R95c87io1001) (m : Nat) : Int → Int → Int → Int → List Int → (List (Int × Int)) → Option R95c87io1001 := Nat.rec (motive := fun _ => Int → Int → Int → Int → List Int → (List (Int × Int)) → Option R95c87io1001) (fun _ _ _ _ _ _ => none) (fun _ ih => DF95c87io1001_2 n f1 ih) m
theorem DL95c87io1001_2_succ (n : Nat × Nat) (f1 : Int → Int → Int → List Int → (List (Int × Int)) → Option R95c87io1001) (m : Nat) : DL95c87io1001_2 n f1 (m + 1) = DF95c87io1001_2 n f1 (DL95c87io1001_2 n f1 m) := rfl
theorem DL95c87io1001_2_eq (n : Nat × Nat) (hn : n.2 = 1) (m1 : Nat) : ∀ m, L95c87io1001_2 n m1 m = DL95c87io1001_2 n (L95c87io1001_1 n m1) m
  | 0 => by funext a1 b2 i8 j9 u0 u1; kernel_rfl
  | m + 1 => by
    have ih := DL95c87io1001_2_eq n hn m1 m
    funext a1 b2 i8 j9 u0 u1; refine (L95c87io1001_2_eq n m1 m a1 b2 i8 j9 u0 u1).trans ?_
    rw [DL95c87io1001_2_succ]
    unfold DF95c87io1001_2
    (try simp only [ih, S87_D n hn]) <;> first | with_reducible rfl | rfl
noncomputable def DF95c87io1001_1 (n : Nat × Nat) (f1 : Int → Int → Int → List Int → (List (Int × Int)) → Option R95c87io1001) (a1 : Int) (b2 : Int) (i8 : Int) (u0 : List Int) (u1 : List (Int × Int)) : Option R95c87io1001 :=
 (bif decide (i8 < b2) then DL95c87io1001_2 n f1 n.1 a1 b2 i8 i8 u0 u1
 else some ((), u0, u1, ()))
noncomputable def DL95c87io1001_1 (n : Nat × Nat) (m : Nat) : Int → Int → Int → List Int → (List (Int × Int)) → Option R95c87io1001 := Nat.rec (motive := fun _ => Int → Int → Int → List Int → (List (Int × Int)) → Option R95c87io1001) (fun _ _ _ _ _ => none) (fun _ ih => DF95c87io1001_1 n ih) m
theorem DL95c87io1001_1_succ (n : Nat × Nat) (m : Nat) : DL95c87io1001_1 n (m + 1) = DF95c87io1001_1 n (DL95c87io1001_1 n m) := rfl
theorem DL95c87io1001_1_eq (n : Nat × Nat) (hn : n.2 = 1) : ∀ m, L95c87io1001_1 n m = DL95c87io1001_1 n m
  | 0 => by funext a1 b2 i8 u0 u1; kernel_rfl
  | m + 1 => by
    have ih := DL95c87io1001_1_eq n hn m
    funext a1 b2 i8 u0 u1; refine (L95c87io1001_1_eq n m a1 b2 i8 u0 u1).trans ?_
    rw [DL95c87io1001_1_succ]
    unfold DF95c87io1001_1
    (try simp only [ih, DL95c87io1001_2_eq n hn, S87_D n hn]) <;> first | with_reducible rfl | rfl
noncomputable def D95c87io1001 (n : Nat × Nat) (data0 : List Int) (a1 : Int) (b2 : Int) (cp_3_0 : List (Int × Int)) : Option R95c87io1001 :=
    DL95c87io1001_1 n n.1 a1 b2 (wr .i64 (a1 + 1)) data0 cp_3_0
theorem S95c87io1001_D (n : Nat × Nat) (hn : n.2 = 1) : S95c87io1001 n = D95c87io1001 n := by
  funext data0 a1 b2 cp_3_0; refine (S95c87io1001_eq n data0 a1 b2 cp_3_0).trans ?_
  unfold D95c87io1001
  (try simp only [DL95c87io1001_2_eq n hn, DL95c87io1001_1_eq n hn, S87_D n hn]) <;> first | with_reducible rfl | rfl
noncomputable def D96c87io10001 (n : Nat × Nat) (data0 : List Int) (a1 : Int) (m2 : Int) (b3 : Int) (cp_4_0 : List (Int × Int)) : Option R96c87io10001 := none
theorem S96c87io10001_D (n : Nat × Nat) (hn : n.2 = 1) : S96c87io10001 n = D96c87io10001 n := rfl
/-D 94c87io101 -/
noncomputable def DF94c87io101_3 (n : Nat × Nat) (f1 : Int → Int → List Int → (List (Int × Int)) → Option R94c87io101) (f2 : Int → Int → Int → Int → List Int → (List (Int × Int)) → Option R94c87io101) (v1 : Int) (blockSize6 : Int) (a7 : Int) (b8 : Int) (u0 : List Int) (u1 : List (Int × Int)) : Option R94c87io101 :=
 (bif decide (b8 ≤ v1) then (D96c87io10001 n u0 a7 (wr .i64 (a7 + blockSize6)) b8 u1).bind fun r3' =>
 (bif Nat.beq r3'.2.1.length u0.length then f2 v1 blockSize6 b8 (wr .i64 (b8 + (wr .i64 (2 * blockSize6)))) r3'.2.1 r3'.2.2.1
 else none)
 else (bif decide (wr .i64 (a7 + blockSize6) < v1) then (D96c87io10001 n u0 a7 (wr .i64 (a7 + blockSize6)) v1 u1).bind fun r4' =>
 (bif Nat.beq r4'.2.1.length u0.length then f1 v1 (wr .i64 (blockSize6 * 2)) r4'.2.1 r4'.2.2.1
 else none)
 else f1 v1 (wr .i64 (blockSize6 * 2)) u0 u1))
noncomputable def DL94c87io101_3 (n : Nat × Nat) (f1 : Int → Int → List Int → (List (Int × Int)) → Option R94c87io101) (m : Nat) : Int → Int → Int → Int → List Int → (List (Int × Int)) → Option R94c87io101 := Nat.rec (motive := fun _ => Int → Int → Int → Int → List Int → (List (Int × Int)) → Option R94c87io101) (fun _ _ _ _ _ _ => none) (fun _ ih => DF94c87io101_3 n f1 ih) m
theorem DL94c87io101_3_succ (n : Nat × Nat) (f1 : Int → Int → List Int → (List (Int × Int)) → Option R94c87io101) (m : Nat) : DL94c87io101_3 n f1 (m + 1) = DF94c87io101_3 n f1 (DL94c87io101_3 n f1 m) := rfl
theorem DL94c87io101_3_eq (n : Nat × Nat) (hn : n.2 = 1) (m1 : Nat) : ∀ m, L94c87io101_3 n m1 m = DL94c87io101_3 n (L94c87io101_2 n m1) m
  | 0 => by funext v1 blockSize6 a7 b8 u0 u1; kernel_rfl
  | m + 1 => by
    have ih := DL94c87io101_3_eq n hn m1 m
    funext v1 blockSize6 a7 b8 u0 u1; refine (L94c87io101_3_eq n m1 m v1 blockSize6 a7 b8 u0 u1).trans ?_
    rw [DL94c87io101_3_succ]
    unfold DF94c87io101_3
    (try simp only [ih, S95c87io1001_D n hn, S96c87io10001_D n hn]) <;> first | with_reducible rfl | rfl
noncomputable def DF94c87io101_2 (n : Nat × Nat) (f1 : Int → Int → List Int → (List (Int × Int)) → Option R94c87io101) (v1 : Int) (blockSize6 : Int) (u0 : List Int) (u1 : List (Int × Int)) : Option R94c87io101 :=
 (bif decide (blockSize6 < v1) then DL94c87io101_3 n f1 n.1 v1 blockSize6 0 (wr .i64 (2 * blockSize6)) u0 u1
 else some ((), u0, u1, ()))
noncomputable def DL94c87io101_2 (n : Nat × Nat) (m : Nat) : Int → Int → List Int → (List (Int × Int)) → Option R94c87io101 := Nat.rec (motive := fun _ => Int → Int → List Int → (List (Int × Int)) → Option R94c87io101) (fun _ _ _ _ => none) (fun _ ih => DF94c87io101_2 n ih) m
theorem DL94c87io101_2_succ (n : Nat × Nat) (m : Nat) : DL94c87io101_2 n (m + 1) = DF94c87io101_2 n (DL94c87io101_2 n m) := rfl
theorem DL94c87io101_2_eq (n : Nat × Nat) (hn : n.2 = 1) : ∀ m, L94c87io101_2 n m = DL94c87io101_2 n m
  | 0 => by funext v1 blockSize6 u0 u1; kernel_rfl
  | m + 1 => by
    have ih := DL94c87io101_2_eq n hn m
    funext v1 blockSize6 u0 u1; refine (L94c87io101_2_eq n m v1 blockSize6 u0 u1).trans ?_
    rw [DL94c87io101_2_succ]
    unfold DF94c87io101_2
    (try simp only [ih, DL94c87io101_3_eq n hn, S95c87io1001_D n hn, S96c87io10001_D n hn]) <;> first | with_reducible rfl | rfl
noncomputable def DF94c87io101_1 (n : Nat × Nat) (f1 : Int → Int → Int → Int → List Int → (List (Int × Int)) → Option R94c87io101) (v1 : Int) (blockSize6 : Int) (a7 : Int) (b8 : Int) (u0 : List Int) (u1 : List (Int × Int)) : Option R94c87io101 :=
 (bif decide (b8 ≤ v1) then (D95c87io1001 n u0 a7 b8 u1).bind fun r1' =>
 (bif Nat.beq r1'.2.1.length u0.length then f1 v1 blockSize6 b8 (wr .i64 (b8 + blockSize6)) r1'.2.1 r1'.2.2.1
 else none)
 else (D95c87io1001 n u0 a7 v1 u1).bind fun r2' =>
 (bif Nat.beq r2'.2.1.length u0.length then DL94c87io101_2 n n.1 v1 blockSize6 r2'.2.1 r2'.2.2.1
 else none))
noncomputable def DL94c87io101_1 (n : Nat × Nat) (m : Nat) : Int → Int → Int → Int → List Int → (List (Int × Int)) → Option R94c87io101 := Nat.rec (motive := fun _ => Int → Int → Int → Int → List Int → (List (Int × Int)) → Option R94c87io101) (fun _ _ _ _ _ _ => none) (fun _ ih => DF94c87io101_1 n ih) m
theorem DL94c87io101_1_succ (n : Nat × Nat) (m : Nat) : DL94c87io101_1 n (m + 1) = DF94c87io101_1 n (DL94c87io101_1 n m) := rfl
theorem DL94c87io101_1_eq (n : Nat × Nat) (hn : n.2 = 1) : ∀ m, L94c87io101_1 n m = DL94c87io101_1 n m
  | 0 => by funext v1 blockSize6 a7 b8 u0 u1; kernel_rfl
  | m + 1 => by
    have ih := DL94c87io101_1_eq n hn m
    funext v1 blockSize6 a7 b8 u0 u1; refine (L94c87io101_1_eq n m v1 blockSize6 a7 b8 u0 u1).trans ?_
    rw [DL94c87io101_1_succ]
    unfold DF94c87io101_1
    (try simp only [ih, DL94c87io101_3_eq n hn, DL94c87io101_2_eq n hn, S95c87io1001_D n hn, S96c87io10001_D n hn]) <;> first | with_reducible rfl | rfl
noncomputable def D94c87io101 (n : Nat × Nat) (data0 : List Int) (v1 : Int) (cp_2_0 : List (Int × Int)) : Option R94c87io101 :=
    DL94c87io101_1 n n.1 v1 20 0 20 data0 cp_2_0
theorem S94c87io101_D (n : Nat × Nat) (hn : n.2 = 1) : S94c87io101 n = D94c87io101 n := by
  funext data0 v1 cp_2_0; refine (S94c87io101_eq n data0 v1 cp_2_0).trans ?_
  unfold D94c87io101
  (try simp only [DL94c87io101_3_eq n hn, DL94c87io101_2_eq n hn, DL94c87io101_1_eq n hn, S95c87io1001_D n hn, S96c87io10001_D n hn]) <;> first | with_reducible rfl | rfl
/-D 85c87io11 -/
noncomputable def D85c87io11 (n : Nat × Nat) (x0 : List Int) (cp_1_0 : List (Int × Int)) : Option R85c87io11 :=
 (D94c87io101 n x0 (x0.length : Int) cp_1_0).bind fun r1' =>
 (bif Nat.beq r1'.2.1.length x0.length then some ((), r1'.2.1, r1'.2.2.1, ())
 else none)
theorem S85c87io11_D (n : Nat × Nat) (hn : n.2 = 1) : S85c87io11 n = D85c87io11 n := by
  funext x0 cp_1_0; refine (S85c87io11_eq n x0 cp_1_0).trans ?_
  unfold D85c87io11
  (try simp only [S94c87io101_D n hn]) <;> first | with_reducible rfl | rfl
/-D 69 -/
noncomputable def DL69_2 (n : Nat × Nat) (f1 : (List (Int × Int)) → Int → Int → (List (Int × Int)) → List Int → List Int → Option R69) (v7 : List (Int × Int)) (v8 : Int) (v9 : Int) (sheets1 : List (Int × Int)) (front3 : List Int) (back4 : List Int) : Option R69 :=
    f1 v7 v8 (wr .i64 (v9 + 1)) sheets1 front3 back4
theorem DL69_2_eq (n : Nat × Nat) (hn : n.2 = 1) (m1 : Nat) : L69_2 n m1 = DL69_2 n (L69_1 n m1) := by
  funext v7 v8 v9 sheets1 front3 back4; refine ((held_eq hn _).trans (L69_2_raw n m1 v7 v8 v9 sheets1 front3 back4)).trans ?_
  unfold DL69_2
  (try simp only [S85c86io11_D n hn, S85c87io11_D n hn]) <;> first | with_reducible rfl | rfl
noncomputable def DF69_1 (n : Nat × Nat) (f1 : (List (Int × Int)) → Int → Int → (List (Int × Int)) → List Int → List Int → Option R69) (v7 : List (Int × Int)) (v8 : Int) (v9 : Int) (sheets1 : List (Int × Int)) (front3 : List Int) (back4 : List Int) : Option R69 :=
 (bif decide (v9 < v8) then (idx v7 v9).bind fun x1' =>
 (bif decide (x1'.1 < x1'.2) then (bif decide (front3.length + [v9].length ≤ lim) then DL69_2 n f1 v7 v8 v9 sheets1 (front3 ++ [v9]) back4
 else none)
 else (bif decide (back4.length + [v9].length ≤ lim) then DL69_2 n f1 v7 v8 v9 sheets1 front3 (back4 ++ [v9])
 else none))
 else (D85c86io11 n front3 sheets1).bind fun r2' =>
 (bif Nat.beq r2'.2.1.length front3.length then (D85c87io11 n back4 r2'.2.2.1).bind fun r3' =>
 (bif Nat.beq r3'.2.1.length back4.length then (bif decide (r2'.2.1.length + r3'.2.1.length ≤ lim) then some (r2'.2.1 ++ r3'.2.1)
 else none)
 else none)
 else none))
noncomputable def DL69_1 (n : Nat × Nat) (m : Nat) : (List (Int × Int)) → Int → Int → (List (Int × Int)) → List Int → List Int → Option R69 := Nat.rec (motive := fun _ => (List (Int × Int)) → Int → Int → (List (Int × Int)) → List Int → List Int → Option R69) (fun _ _ _ _ _ _ => none) (fun _ ih => DF69_1 n ih) m
theorem DL69_1_succ (n : Nat × Nat) (m : Nat) : DL69_1 n (m + 1) = DF69_1 n (DL69_1 n m) := rfl
theorem DL69_1_eq (n : Nat × Nat) (hn : n.2 = 1) : ∀ m, L69_1 n m = DL69_1 n m
  | 0 => by funext v7 v8 v9 sheets1 front3 back4; kernel_rfl
  | m + 1 => by
    have ih := DL69_1_eq n hn m
    funext v7 v8 v9 sheets1 front3 back4; refine (L69_1_eq n m v7 v8 v9 sheets1 front3 back4).trans ?_
    rw [DL69_1_succ]
    unfold DF69_1
    (try simp only [ih, DL69_2_eq n hn, S85c86io11_D n hn, S85c87io11_D n hn]) <;> first | with_reducible rfl | rfl
noncomputable def D69 (n : Nat × Nat) (sheets0 : List (Int × Int)) : Option R69 :=
    DL69_1 n n.1 sheets0 (sheets0.length : Int) 0 sheets0 [] []
theorem S69_D (n : Nat × Nat) (hn : n.2 = 1) : S69 n = D69 n := by
  funext sheets0; refine (S69_eq n sheets0).trans ?_
  unfold D69
  (try simp only [DL69_2_eq n hn, DL69_1_eq n hn, S85c86io11_D n hn, S85c87io11_D n hn]) <;> first | with_reducible rfl | rfl
/-D 27 -/
noncomputable def D27 (n : Nat × Nat) (sheets0 : List (Int × Int)) : Option R27 :=
 (D25 n sheets0).bind fun r1' =>
 (bif (r1' != 0) then some ([], r1')
 else (D69 n sheets0).bind fun r2' =>
 some (r2', 0))
theorem S27_D (n : Nat × Nat) (hn : n.2 = 1) : S27 n = D27 n := by
  funext sheets0; refine (S27_eq n sheets0).trans ?_
  unfold D27
  (try simp only [S25_D n hn, S69_D n hn]) <;> first | with_reducible rfl | rfl
/-D 88 -/
noncomputable def D88 (n : Nat × Nat) (sheets0 : List (Int × Int)) : Option R88 :=
 (D69 n sheets0).bind fun r1' =>
 (D58 n sheets0 r1').bind fun r2' =>
 (D61 n r2'.1).bind fun r3' =>
 some r3'
theorem S88_D (n : Nat × Nat) (hn : n.2 = 1) : S88 n = D88 n := by
  funext sheets0; refine (S88_eq n sheets0).trans ?_
  unfold D88
  (try simp only [S58_D n hn, S61_D n hn, S69_D n hn]) <;> first | with_reducible rfl | rfl
/-D 72io01 -/
noncomputable def D72io01 (n : Nat × Nat) (order0 : List Int) (v1 : List Int) : Option R72io01 :=
 some (false, order0, ())
theorem S72io01_D (n : Nat × Nat) (hn : n.2 = 1) : S72io01 n = D72io01 n := by
  funext order0 v1; refine (S72io01_eq n order0 v1).trans ?_
  unfold D72io01
  first | with_reducible rfl | rfl
/-D 89f72io0001110 -/
noncomputable def DL89f72io0001110_2 (n : Nat × Nat) (SS : List Int → Int → Int → (List (Int × Int)) → List Int → Int → Option R89f72io0001110) (f1 : List Int → Int → Int → (List (Int × Int)) → Int → Int → Int → (List (Int × Int)) → List Int → Option R89f72io0001110) (order0 : List Int) (a1 : Int) (b2 : Int) (v23 : List (Int × Int)) (v24 : Int) (v25 : Int) (u2 : Int) (u0 : List (Int × Int)) (u1 : List Int) : Option R89f72io0001110 :=
    f1 order0 a1 b2 v23 v24 (wr .i64 (v25 + 1)) u2 u0 u1
theorem DL89f72io0001110_2_eq (n : Nat × Nat) (hn : n.2 = 1) (SS : List Int → Int → Int → (List (Int × Int)) → List Int → Int → Option R89f72io0001110) (m1 : Nat) : L89f72io0001110_2 n SS m1 = DL89f72io0001110_2 n SS (L89f72io0001110_1 n SS m1) := by
  funext order0 a1 b2 v23 v24 v25 u2 u0 u1; refine ((held_eq hn _).trans (L89f72io0001110_2_raw n SS m1 order0 a1 b2 v23 v24 v25 u2 u0 u1)).trans ?_
  unfold DL89f72io0001110_2
  (try simp only [S80_D n hn, S72io01_D n hn]) <;> first | with_reducible rfl | rfl
noncomputable def DF89f72io0001110_1 (n : Nat × Nat) (SS : List Int → Int → Int → (List (Int × Int)) → List Int → Int → Option R89f72io0001110) (f1 : List Int → Int → Int → (List (Int × Int)) → Int → Int → Int → (List (Int × Int)) → List Int → Option R89f72io0001110) (order0 : List Int) (a1 : Int) (b2 : Int) (v23 : List (Int × Int)) (v24 : Int) (v25 : Int) (u2 : Int) (u0 : List (Int × Int)) (u1 : List Int) : Option R89f72io0001110 :=
 (bif decide (v25 < v24) then (idx v23 v25).bind fun x2' =>
 (D80 n order0 v25).bind fun r3' =>
 (bif r3' then DL89f72io0001110_2 n SS f1 order0 a1 b2 v23 v24 v25 u2 u0 u1
 else (bif (decide (wr .i64 ((if b2 > (wr .i64 (a1 + x2'.1)) then b2 else (wr .i64 (a1 + x2'.1))) + x2'.2) ≤ u2) == true) then (bif ((order0.length : Int) == (order0.length : Int)) && bounds none (some (order0.length : Int)) (some (order0.length : Int)) order0.length then (bif decide ((order0.take (Int.toNat (order0.length : Int))).length + [v25].length ≤ lim) && ((order0.take (Int.toNat (order0.length : Int))).isEmpty || ![v25].isEmpty) then (SS ((order0.take (Int.toNat (order0.length : Int))) ++ [v25]) (wr .i64 (a1 + x2'.1)) (wr .i64 ((if b2 > (wr .i64 (a1 + x2'.1)) then b2 else (wr .i64 (a1 + x2'.1))) + x2'.2)) u0 u1 u2).bind fun r5' =>
 (bif (!r5'.1) then some (false, r5'.2.1, r5'.2.2.1, r5'.2.2.2.1, ())
 else DL89f72io0001110_2 n SS f1 order0 a1 b2 v23 v24 v25 r5'.2.2.2.1 r5'.2.1 r5'.2.2.1)
 else none)
 else none)
 else (bif false then some (false, u0, u1, u2, ())
 else DL89f72io0001110_2 n SS f1 order0 a1 b2 v23 v24 v25 u2 u0 u1)))
 else some (true, u0, u1, u2, ()))
noncomputable def DL89f72io0001110_1 (n : Nat × Nat) (SS : List Int → Int → Int → (List (Int × Int)) → List Int → Int → Option R89f72io0001110) (m : Nat) : List Int → Int → Int → (List (Int × Int)) → Int → Int → Int → (List (Int × Int)) → List Int → Option R89f72io0001110 := Nat.rec (motive := fun _ => List Int → Int → Int → (List (Int × Int)) → Int → Int → Int → (List (Int × Int)) → List Int → Option R89f72io0001110) (fun _ _ _ _ _ _ _ _ _ => none) (fun _ ih => DF89f72io0001110_1 n SS ih) m
theorem DL89f72io0001110_1_succ (n : Nat × Nat) (SS : List Int → Int → Int → (List (Int × Int)) → List Int → Int → Option R89f72io0001110) (m : Nat) : DL89f72io0001110_1 n SS (m + 1) = DF89f72io0001110_1 n SS (DL89f72io0001110_1 n SS m) := rfl
theorem DL89f72io0001110_1_eq (n : Nat × Nat) (hn : n.2 = 1) (SS : List Int → Int → Int → (List (Int × Int)) → List Int → Int → Option R89f72io0001110) : ∀ m, L89f72io0001110_1 n SS m = DL89f72io0001110_1 n SS m
  | 0 => by funext order0 a1 b2 v23 v24 v25 u2 u0 u1; kernel_rfl
  | m + 1 => by
    have ih := DL89f72io0001110_1_eq n hn SS m
    funext order0 a1 b2 v23 v24 v25 u2 u0 u1; refine (L89f72io0001110_1_eq n SS m order0 a1 b2 v23 v24 v25 u2 u0 u1).trans ?_
    rw [DL89f72io0001110_1_succ]
    unfold DF89f72io0001110_1
    (try simp only [ih, DL89f72io0001110_2_eq n hn SS, S80_D n hn, S72io01_D n hn]) <;> first | with_reducible rfl | rfl
noncomputable def DB89f72io0001110 (n : Nat × Nat) (SS : List Int → Int → Int → (List (Int × Int)) → List Int → Int → Option R89f72io0001110) (order0 : List Int) (a1 : Int) (b2 : Int) (v3 : List (Int × Int)) (cp_4_0 : List Int) (v5 : Int) : Option R89f72io0001110 :=
 (bif ((order0.length : Int) == (v3.length : Int)) then (D72io01 n order0 cp_4_0).bind fun r1' =>
 some (r1'.1, v3, r1'.2.1, v5, ())
 else DL89f72io0001110_1 n SS n.1 order0 a1 b2 v3 (v3.length : Int) 0 v5 v3 cp_4_0)
theorem DB89f72io0001110_eq (n : Nat × Nat) (hn : n.2 = 1) (SS : List Int → Int → Int → (List (Int × Int)) → List Int → Int → Option R89f72io0001110) : B89f72io0001110 n SS = DB89f72io0001110 n SS := by
  funext order0 a1 b2 v3 cp_4_0 v5; refine (B89f72io0001110_eq n SS order0 a1 b2 v3 cp_4_0 v5).trans ?_
  unfold DB89f72io0001110
  (try simp only [DL89f72io0001110_2_eq n hn SS, DL89f72io0001110_1_eq n hn SS, S80_D n hn, S72io01_D n hn]) <;> first | with_reducible rfl | rfl
noncomputable def DT89f72io0001110 (n : Nat × Nat) (d : Nat) : List Int → Int → Int → (List (Int × Int)) → List Int → Int → Option R89f72io0001110 := Nat.rec (motive := fun _ => List Int → Int → Int → (List (Int × Int)) → List Int → Int → Option R89f72io0001110) (fun _ _ _ _ _ _ => none) (fun _ ih => DB89f72io0001110 n ih) d
theorem DT89f72io0001110_succ (n : Nat × Nat) (d : Nat) : DT89f72io0001110 n (d + 1) = DB89f72io0001110 n (DT89f72io0001110 n d) := rfl
theorem DT89f72io0001110_eq (n : Nat × Nat) (hn : n.2 = 1) : ∀ d, T89f72io0001110 n d = DT89f72io0001110 n d
  | 0 => rfl
  | d + 1 => by
    funext order0 a1 b2 v3 cp_4_0 v5
    rw [T89f72io0001110_eq, DT89f72io0001110_eq n hn d, DB89f72io0001110_eq n hn, DT89f72io0001110_succ]
noncomputable def D89f72io0001110 (n : Nat × Nat) (order0 : List Int) (a1 : Int) (b2 : Int) (v3 : List (Int × Int)) (cp_4_0 : List Int) (v5 : Int) : Option R89f72io0001110 := DT89f72io0001110 n n.1 order0 a1 b2 v3 cp_4_0 v5
theorem S89f72io0001110_D (n : Nat × Nat) (hn : n.2 = 1) : S89f72io0001110 n = D89f72io0001110 n := by
  funext order0 a1 b2 v3 cp_4_0 v5; unfold S89f72io0001110 D89f72io0001110; rw [DT89f72io0001110_eq n hn]
/-D 71c72io01 -/
noncomputable def D71c72io01 (n : Nat × Nat) (sheets0 : List (Int × Int)) (cp_1_0 : List Int) : Option R71c72io01 :=
 (D88 n sheets0).bind fun r1' =>
 (D89f72io0001110 n [] 0 0 sheets0 cp_1_0 r1').bind fun r2' =>
 some ((), r2'.2.2.1, ())
theorem S71c72io01_D (n : Nat × Nat) (hn : n.2 = 1) : S71c72io01 n = D71c72io01 n := by
  funext sheets0 cp_1_0; refine (S71c72io01_eq n sheets0 cp_1_0).trans ?_
  unfold D71c72io01
  (try simp only [S88_D n hn, S89f72io0001110_D n hn]) <;> first | with_reducible rfl | rfl
/-D 29 -/
noncomputable def D29 (n : Nat × Nat) (sheets0 : List (Int × Int)) : Option R29 :=
 (D25 n sheets0).bind fun r1' =>
 (bif (r1' != 0) then some ([], r1')
 else (D71c72io01 n sheets0 []).bind fun r2' =>
 some (r2'.2.1, 0))
theorem S29_D (n : Nat × Nat) (hn : n.2 = 1) : S29 n = D29 n := by
  funext sheets0; refine (S29_eq n sheets0).trans ?_
  unfold D29
  (try simp only [S25_D n hn, S71c72io01_D n hn]) <;> first | with_reducible rfl | rfl
/-D 74io01 -/
noncomputable def D74io01 (n : Nat × Nat) (v0 : List Int) (v1 : Int) : Option R74io01 :=
 some (true, wr .i64 (v1 + 1), ())
theorem S74io01_D (n : Nat × Nat) (hn : n.2 = 1) : S74io01 n = D74io01 n := by
  funext v0 v1; refine (S74io01_eq n v0 v1).trans ?_
  unfold D74io01
  first | with_reducible rfl | rfl
/-D 89f74io0001110 -/
noncomputable def DL89f74io0001110_2 (n : Nat × Nat) (SS : List Int → Int → Int → (List (Int × Int)) → Int → Int → Option R89f74io0001110) (f1 : List Int → Int → Int → (List (Int × Int)) → Int → Int → Int → (List (Int × Int)) → Int → Option R89f74io0001110) (order0 : List Int) (a1 : Int) (b2 : Int) (v23 : List (Int × Int)) (v24 : Int) (v25 : Int) (u2 : Int) (u0 : List (Int × Int)) (u1 : Int) : Option R89f74io0001110 :=
    f1 order0 a1 b2 v23 v24 (wr .i64 (v25 + 1)) u2 u0 u1
theorem DL89f74io0001110_2_eq (n : Nat × Nat) (hn : n.2 = 1) (SS : List Int → Int → Int → (List (Int × Int)) → Int → Int → Option R89f74io0001110) (m1 : Nat) : L89f74io0001110_2 n SS m1 = DL89f74io0001110_2 n SS (L89f74io0001110_1 n SS m1) := by
  funext order0 a1 b2 v23 v24 v25 u2 u0 u1; refine ((held_eq hn _).trans (L89f74io0001110_2_raw n SS m1 order0 a1 b2 v23 v24 v25 u2 u0 u1)).trans ?_
  unfold DL89f74io0001110_2
  (try simp only [S80_D n hn, S74io01_D n hn]) <;> first | with_reducible rfl | rfl
noncomputable def DF89f74io0001110_1 (n : Nat × Nat) (SS : List Int → Int → Int → (List (Int × Int)) → Int → Int → Option R89f74io0001110) (f1 : List Int → Int → Int → (List (Int × Int)) → Int → Int → Int → (List (Int × Int)) → Int → Option R89f74io0001110) (order0 : List Int) (a1 : Int) (b2 : Int) (v23 : List (Int × Int)) (v24 : Int) (v25 : Int) (u2 : Int) (u0 : List (Int × Int)) (u1 : Int) : Option R89f74io0001110 :=
 (bif decide (v25 < v24) then (idx v23 v25).bind fun x2' =>
 (D80 n order0 v25).bind fun r3' =>
 (bif r3' then DL89f74io0001110_2 n SS f1 order0 a1 b2 v23 v24 v25 u2 u0 u1
 else (bif (decide (wr .i64 ((if b2 > (wr .i64 (a1 + x2'.1)) then b2 else (wr .i64 (a1 + x2'.1))) + x2'.2) ≤ u2) == true) then (bif ((order0.length : Int) == (order0.length : Int)) && bounds none (some (order0.length : Int)) (some (order0.length : Int)) order0.length then (bif decide ((order0.take (Int.toNat (order0.length : Int))).length + [v25].length ≤ lim) && ((order0.take (Int.toNat (order0.length : Int))).isEmpty || ![v25].isEmpty) then (SS ((order0.take (Int.toNat (order0.length : Int))) ++ [v25]) (wr .i64 (a1 + x2'.1)) (wr .i64 ((if b2 > (wr .i64 (a1 + x2'.1)) then b2 else (wr .i64 (a1 + x2'.1))) + x2'.2)) u0 u1 u2).bind fun r5' =>
 (bif (!r5'.1) then some (false, r5'.2.1, r5'.2.2.1, r5'.2.2.2.1, ())
 else DL89f74io0001110_2 n SS f1 order0 a1 b2 v23 v24 v25 r5'.2.2.2.1 r5'.2.1 r5'.2.2.1)
 else none)
 else none)
 else (bif false then some (false, u0, u1, u2, ())
 else DL89f74io0001110_2 n SS f1 order0 a1 b2 v23 v24 v25 u2 u0 u1)))
 else some (true, u0, u1, u2, ()))
noncomputable def DL89f74io0001110_1 (n : Nat × Nat) (SS : List Int → Int → Int → (List (Int × Int)) → Int → Int → Option R89f74io0001110) (m : Nat) : List Int → Int → Int → (List (Int × Int)) → Int → Int → Int → (List (Int × Int)) → Int → Option R89f74io0001110 := Nat.rec (motive := fun _ => List Int → Int → Int → (List (Int × Int)) → Int → Int → Int → (List (Int × Int)) → Int → Option R89f74io0001110) (fun _ _ _ _ _ _ _ _ _ => none) (fun _ ih => DF89f74io0001110_1 n SS ih) m
theorem DL89f74io0001110_1_succ (n : Nat × Nat) (SS : List Int → Int → Int → (List (Int × Int)) → Int → Int → Option R89f74io0001110) (m : Nat) : DL89f74io0001110_1 n SS (m + 1) = DF89f74io0001110_1 n SS (DL89f74io0001110_1 n SS m) := rfl
theorem DL89f74io0001110_1_eq (n : Nat × Nat) (hn : n.2 = 1) (SS : List Int → Int → Int → (List (Int × Int)) → Int → Int → Option R89f74io0001110) : ∀ m, L89f74io0001110_1 n SS m = DL89f74io0001110_1 n SS m
  | 0 => by funext order0 a1 b2 v23 v24 v25 u2 u0 u1; kernel_rfl
  | m + 1 => by
    have ih := DL89f74io0001110_1_eq n hn SS m
    funext order0 a1 b2 v23 v24 v25 u2 u0 u1; refine (L89f74io0001110_1_eq n SS m order0 a1 b2 v23 v24 v25 u2 u0 u1).trans ?_
    rw [DL89f74io0001110_1_succ]
    unfold DF89f74io0001110_1
    (try simp only [ih, DL89f74io0001110_2_eq n hn SS, S80_D n hn, S74io01_D n hn]) <;> first | with_reducible rfl | rfl
noncomputable def DB89f74io0001110 (n : Nat × Nat) (SS : List Int → Int → Int → (List (Int × Int)) → Int → Int → Option R89f74io0001110) (order0 : List Int) (a1 : Int) (b2 : Int) (v3 : List (Int × Int)) (cp_4_0 : Int) (v5 : Int) : Option R89f74io0001110 :=
 (bif ((order0.length : Int) == (v3.length : Int)) then (D74io01 n order0 cp_4_0).bind fun r1' =>
 some (r1'.1, v3, r1'.2.1, v5, ())
 else DL89f74io0001110_1 n SS n.1 order0 a1 b2 v3 (v3.length : Int) 0 v5 v3 cp_4_0)
theorem DB89f74io0001110_eq (n : Nat × Nat) (hn : n.2 = 1) (SS : List Int → Int → Int → (List (Int × Int)) → Int → Int → Option R89f74io0001110) : B89f74io0001110 n SS = DB89f74io0001110 n SS := by
  funext order0 a1 b2 v3 cp_4_0 v5; refine (B89f74io0001110_eq n SS order0 a1 b2 v3 cp_4_0 v5).trans ?_
  unfold DB89f74io0001110
  (try simp only [DL89f74io0001110_2_eq n hn SS, DL89f74io0001110_1_eq n hn SS, S80_D n hn, S74io01_D n hn]) <;> first | with_reducible rfl | rfl
noncomputable def DT89f74io0001110 (n : Nat × Nat) (d : Nat) : List Int → Int → Int → (List (Int × Int)) → Int → Int → Option R89f74io0001110 := Nat.rec (motive := fun _ => List Int → Int → Int → (List (Int × Int)) → Int → Int → Option R89f74io0001110) (fun _ _ _ _ _ _ => none) (fun _ ih => DB89f74io0001110 n ih) d
theorem DT89f74io0001110_succ (n : Nat × Nat) (d : Nat) : DT89f74io0001110 n (d + 1) = DB89f74io0001110 n (DT89f74io0001110 n d) := rfl
theorem DT89f74io0001110_eq (n : Nat × Nat) (hn : n.2 = 1) : ∀ d, T89f74io0001110 n d = DT89f74io0001110 n d
  | 0 => rfl
  | d + 1 => by
    funext order0 a1 b2 v3 cp_4_0 v5
    rw [T89f74io0001110_eq, DT89f74io0001110_eq n hn d, DB89f74io0001110_eq n hn, DT89f74io0001110_succ]
noncomputable def D89f74io0001110 (n : Nat × Nat) (order0 : List Int) (a1 : Int) (b2 : Int) (v3 : List (Int × Int)) (cp_4_0 : Int) (v5 : Int) : Option R89f74io0001110 := DT89f74io0001110 n n.1 order0 a1 b2 v3 cp_4_0 v5
theorem S89f74io0001110_D (n : Nat × Nat) (hn : n.2 = 1) : S89f74io0001110 n = D89f74io0001110 n := by
  funext order0 a1 b2 v3 cp_4_0 v5; unfold S89f74io0001110 D89f74io0001110; rw [DT89f74io0001110_eq n hn]
/-D 71c74io01 -/
noncomputable def D71c74io01 (n : Nat × Nat) (sheets0 : List (Int × Int)) (cp_1_0 : Int) : Option R71c74io01 :=
 (D88 n sheets0).bind fun r1' =>
 (D89f74io0001110 n [] 0 0 sheets0 cp_1_0 r1').bind fun r2' =>
 some ((), r2'.2.2.1, ())
theorem S71c74io01_D (n : Nat × Nat) (hn : n.2 = 1) : S71c74io01 n = D71c74io01 n := by
  funext sheets0 cp_1_0; refine (S71c74io01_eq n sheets0 cp_1_0).trans ?_
  unfold D71c74io01
  (try simp only [S88_D n hn, S89f74io0001110_D n hn]) <;> first | with_reducible rfl | rfl
/-D 31 -/
noncomputable def D31 (n : Nat × Nat) (sheets0 : List (Int × Int)) : Option R31 :=
 (D25 n sheets0).bind fun r1' =>
 (bif (r1' != 0) then some (0, r1')
 else (D71c74io01 n sheets0 0).bind fun r2' =>
 some (r2'.2.1, 0))
theorem S31_D (n : Nat × Nat) (hn : n.2 = 1) : S31 n = D31 n := by
  funext sheets0; refine (S31_eq n sheets0).trans ?_
  unfold D31
  (try simp only [S25_D n hn, S71c74io01_D n hn]) <;> first | with_reducible rfl | rfl
/-D 33 -/
noncomputable def D33 (n : Nat × Nat) (sheets0 : List (Int × Int)) (i1 : Int) (j2 : Int) : Option R33 :=
 (D25 n sheets0).bind fun r1' =>
 (bif (r1' != 0) then some (false, r1')
 else ((bif (decide ((if j2 < i1 then j2 else i1) < 0) == false) then some (decide ((if j2 > i1 then j2 else i1) ≥ (sheets0.length : Int)))
 else some true)).bind fun b2' =>
 (bif b2' then some (false, 2)
 else (idx sheets0 i1).bind fun x3' =>
 (idx sheets0 j2).bind fun x4' =>
 some (decide ((if x4'.2 < x3'.1 then x4'.2 else x3'.1) ≤ (if x3'.2 < x4'.1 then x3'.2 else x4'.1)), 0)))
theorem S33_D (n : Nat × Nat) (hn : n.2 = 1) : S33 n = D33 n := by
  funext sheets0 i1 j2; refine (S33_eq n sheets0 i1 j2).trans ?_
  unfold D33
  (try simp only [S25_D n hn]) <;> first | with_reducible rfl | rfl
/-D 75 -/
noncomputable def DL75_2 (n : Nat × Nat) (f1 : Int → Int → Int → Int → List Int → List Int → Option R75) (k2 : Int) (v9 : Int) (v24 : Int) (v25 : Int) (own7 : List Int) (other8 : List Int) : Option R75 :=
    f1 k2 v9 v24 (wr .i64 (v25 + 1)) own7 other8
theorem DL75_2_eq (n : Nat × Nat) (hn : n.2 = 1) (m1 : Nat) : L75_2 n m1 = DL75_2 n (L75_1 n m1) := by
  funext k2 v9 v24 v25 own7 other8; refine ((held_eq hn _).trans (L75_2_raw n m1 k2 v9 v24 v25 own7 other8)).trans ?_
  unfold DL75_2
  (try simp only [S64_D n hn]) <;> first | with_reducible rfl | rfl
noncomputable def DF75_1 (n : Nat × Nat) (f1 : Int → Int → Int → Int → List Int → List Int → Option R75) (k2 : Int) (v9 : Int) (v24 : Int) (v25 : Int) (own7 : List Int) (other8 : List Int) : Option R75 :=
 (bif decide (v25 < v24) then (bif inB v25 own7.length then (idx own7 v25).bind fun x4' =>
 (bif inB k2 own7.length then (idx own7 k2).bind fun x5' =>
 (bif decide (x4' < x5') then (bif inB v25 other8.length then (idx other8 v25).bind fun x6' =>
              DL75_2 n f1 k2 (wr .i64 (v9 + (if x6' < x4' then x6' else x4'))) v24 v25 own7 other8
 else none)
 else (bif inB v25 other8.length then (idx other8 v25).bind fun x7' =>
              DL75_2 n f1 k2 (wr .i64 (v9 + x7')) v24 v25 own7 other8
 else none))
 else none)
 else none)
 else some v9)
noncomputable def DL75_1 (n : Nat × Nat) (m : Nat) : Int → Int → Int → Int → List Int → List Int → Option R75 := Nat.rec (motive := fun _ => Int → Int → Int → Int → List Int → List Int → Option R75) (fun _ _ _ _ _ _ => none) (fun _ ih => DF75_1 n ih) m
theorem DL75_1_succ (n : Nat × Nat) (m : Nat) : DL75_1 n (m + 1) = DF75_1 n (DL75_1 n m) := rfl
theorem DL75_1_eq (n : Nat × Nat) (hn : n.2 = 1) : ∀ m, L75_1 n m = DL75_1 n m
  | 0 => by funext k2 v9 v24 v25 own7 other8; kernel_rfl
  | m + 1 => by
    have ih := DL75_1_eq n hn m
    funext k2 v9 v24 v25 own7 other8; refine (L75_1_eq n m k2 v9 v24 v25 own7 other8).trans ?_
    rw [DL75_1_succ]
    unfold DF75_1
    (try simp only [ih, DL75_2_eq n hn, S64_D n hn]) <;> first | with_reducible rfl | rfl
noncomputable def D75 (n : Nat × Nat) (sheets0 : List (Int × Int)) (machine1 : Int) (k2 : Int) : Option R75 :=
 (D64 n sheets0 machine1).bind fun r1' =>
 (D64 n sheets0 (wr .i64 (1 - machine1))).bind fun r2' =>
 (bif inB k2 r1'.length then (idx r1' k2).bind fun x3' =>
      DL75_1 n n.1 k2 x3' (r1'.length : Int) 0 r1' r2'
 else none)
theorem S75_D (n : Nat × Nat) (hn : n.2 = 1) : S75 n = D75 n := by
  funext sheets0 machine1 k2; refine (S75_eq n sheets0 machine1 k2).trans ?_
  unfold D75
  (try simp only [DL75_2_eq n hn, DL75_1_eq n hn, S64_D n hn]) <;> first | with_reducible rfl | rfl
/-D 35 -/
noncomputable def D35 (n : Nat × Nat) (sheets0 : List (Int × Int)) (machine1 : Int) (k2 : Int) : Option R35 :=
 (D25 n sheets0).bind fun r1' =>
 (bif (r1' != 0) then some (0, r1')
 else ((bif (decide (machine1 < 0) == false) then some (decide (machine1 > 1))
 else some true)).bind fun b2' =>
 ((bif (b2' == false) then some (decide (k2 < 0))
 else some true)).bind fun b3' =>
 ((bif (b3' == false) then some (decide (k2 ≥ (sheets0.length : Int)))
 else some true)).bind fun b4' =>
 (bif b4' then some (0, 2)
 else (D75 n sheets0 machine1 k2).bind fun r5' =>
 some (r5', 0)))
theorem S35_D (n : Nat × Nat) (hn : n.2 = 1) : S35 n = D35 n := by
  funext sheets0 machine1 k2; refine (S35_eq n sheets0 machine1 k2).trans ?_
  unfold D35
  (try simp only [S25_D n hn, S75_D n hn]) <;> first | with_reducible rfl | rfl
/-D 37 -/
noncomputable def DL37_3 (n : Nat × Nat) (f1 : (List (Int × Int)) → Int → Int → Int → Int → Option R37) (f2 : (List (Int × Int)) → Int → Int → Int → Int → Int → Int → Int → Option R37) (sheets0 : List (Int × Int)) (machine2 : Int) (k3 : Int) (best6 : Int) (m7 : Int) (v15 : Int) (v19 : Int) (v20 : Int) : Option R37 :=
    f2 sheets0 machine2 k3 best6 m7 v15 v19 (wr .i64 (v20 + 1))
theorem DL37_3_eq (n : Nat × Nat) (hn : n.2 = 1) (m1 m2 : Nat) : L37_3 n m1 m2 = DL37_3 n (L37_1 n m1) (L37_2 n m1 m2) := by
  funext sheets0 machine2 k3 best6 m7 v15 v19 v20; refine ((held_eq hn _).trans (L37_3_raw n m1 m2 sheets0 machine2 k3 best6 m7 v15 v19 v20)).trans ?_
  unfold DL37_3
  (try simp only [S25_D n hn, S75_D n hn]) <;> first | with_reducible rfl | rfl
noncomputable def DF37_2 (n : Nat × Nat) (f1 : (List (Int × Int)) → Int → Int → Int → Int → Option R37) (f2 : (List (Int × Int)) → Int → Int → Int → Int → Int → Int → Int → Option R37) (sheets0 : List (Int × Int)) (machine2 : Int) (k3 : Int) (best6 : Int) (m7 : Int) (v15 : Int) (v19 : Int) (v20 : Int) : Option R37 :=
 (bif decide (v20 < v19) then (D75 n sheets0 m7 v20).bind fun r2' =>
 (bif decide (r2' > best6) then DL37_3 n f1 f2 sheets0 m7 v20 r2' m7 v15 v19 v20
 else DL37_3 n f1 f2 sheets0 machine2 k3 best6 m7 v15 v19 v20)
 else f1 sheets0 machine2 k3 best6 (wr .i64 (v15 + 1)))
noncomputable def DL37_2 (n : Nat × Nat) (f1 : (List (Int × Int)) → Int → Int → Int → Int → Option R37) (m : Nat) : (List (Int × Int)) → Int → Int → Int → Int → Int → Int → Int → Option R37 := Nat.rec (motive := fun _ => (List (Int × Int)) → Int → Int → Int → Int → Int → Int → Int → Option R37) (fun _ _ _ _ _ _ _ _ => none) (fun _ ih => DF37_2 n f1 ih) m
theorem DL37_2_succ (n : Nat × Nat) (f1 : (List (Int × Int)) → Int → Int → Int → Int → Option R37) (m : Nat) : DL37_2 n f1 (m + 1) = DF37_2 n f1 (DL37_2 n f1 m) := rfl
theorem DL37_2_eq (n : Nat × Nat) (hn : n.2 = 1) (m1 : Nat) : ∀ m, L37_2 n m1 m = DL37_2 n (L37_1 n m1) m
  | 0 => by funext sheets0 machine2 k3 best6 m7 v15 v19 v20; kernel_rfl
  | m + 1 => by
    have ih := DL37_2_eq n hn m1 m
    funext sheets0 machine2 k3 best6 m7 v15 v19 v20; refine (L37_2_eq n m1 m sheets0 machine2 k3 best6 m7 v15 v19 v20).trans ?_
    rw [DL37_2_succ]
    unfold DF37_2
    (try simp only [ih, DL37_3_eq n hn, S25_D n hn, S75_D n hn]) <;> first | with_reducible rfl | rfl
noncomputable def DF37_1 (n : Nat × Nat) (f1 : (List (Int × Int)) → Int → Int → Int → Int → Option R37) (sheets0 : List (Int × Int)) (machine2 : Int) (k3 : Int) (best6 : Int) (v15 : Int) : Option R37 :=
 (bif decide (v15 < 2) then DL37_2 n f1 n.1 sheets0 machine2 k3 best6 v15 v15 (sheets0.length : Int) 0
 else some (machine2, k3, 0))
noncomputable def DL37_1 (n : Nat × Nat) (m : Nat) : (List (Int × Int)) → Int → Int → Int → Int → Option R37 := Nat.rec (motive := fun _ => (List (Int × Int)) → Int → Int → Int → Int → Option R37) (fun _ _ _ _ _ => none) (fun _ ih => DF37_1 n ih) m
theorem DL37_1_succ (n : Nat × Nat) (m : Nat) : DL37_1 n (m + 1) = DF37_1 n (DL37_1 n m) := rfl
theorem DL37_1_eq (n : Nat × Nat) (hn : n.2 = 1) : ∀ m, L37_1 n m = DL37_1 n m
  | 0 => by funext sheets0 machine2 k3 best6 v15; kernel_rfl
  | m + 1 => by
    have ih := DL37_1_eq n hn m
    funext sheets0 machine2 k3 best6 v15; refine (L37_1_eq n m sheets0 machine2 k3 best6 v15).trans ?_
    rw [DL37_1_succ]
    unfold DF37_1
    (try simp only [ih, DL37_3_eq n hn, DL37_2_eq n hn, S25_D n hn, S75_D n hn]) <;> first | with_reducible rfl | rfl
noncomputable def D37 (n : Nat × Nat) (sheets0 : List (Int × Int)) : Option R37 :=
 (D25 n sheets0).bind fun r1' =>
 (bif (r1' != 0) then some (0, 0, r1')
 else DL37_1 n n.1 sheets0 0 0 (-1) 0)
theorem S37_D (n : Nat × Nat) (hn : n.2 = 1) : S37 n = D37 n := by
  funext sheets0; refine (S37_eq n sheets0).trans ?_
  unfold D37
  (try simp only [DL37_3_eq n hn, DL37_2_eq n hn, DL37_1_eq n hn, S25_D n hn, S75_D n hn]) <;> first | with_reducible rfl | rfl
/-D 39 -/
noncomputable def D39 (n : Nat × Nat) (sheets0 : List (Int × Int)) : Option R39 := HF39 (D25 n) sheets0
theorem S39_D (n : Nat × Nat) (hn : n.2 = 1) : S39 n = D39 n := by unfold S39 D39; rw [S25_D n hn]
/-D 18 -/
noncomputable def DF18_1 (n : Nat × Nat) (f1 : List Int → List Int → Int → Option R18) (a0 : List Int) (b1 : List Int) (i5 : Int) : Option R18 :=
 (bif decide (i5 < (a0.length : Int)) then (idx a0 i5).bind fun x1' =>
 (idx b1 i5).bind fun x2' =>
 (bif (x1' != x2') then some false
 else f1 a0 b1 (wr .i64 (i5 + 1)))
 else some true)
noncomputable def DL18_1 (n : Nat × Nat) (m : Nat) : List Int → List Int → Int → Option R18 := Nat.rec (motive := fun _ => List Int → List Int → Int → Option R18) (fun _ _ _ => none) (fun _ ih => DF18_1 n ih) m
theorem DL18_1_succ (n : Nat × Nat) (m : Nat) : DL18_1 n (m + 1) = DF18_1 n (DL18_1 n m) := rfl
theorem DL18_1_eq (n : Nat × Nat) (hn : n.2 = 1) : ∀ m, L18_1 n m = DL18_1 n m
  | 0 => by funext a0 b1 i5; kernel_rfl
  | m + 1 => by
    have ih := DL18_1_eq n hn m
    funext a0 b1 i5; refine (L18_1_eq n m a0 b1 i5).trans ?_
    rw [DL18_1_succ]
    unfold DF18_1
    (try simp only [ih]) <;> first | with_reducible rfl | rfl
noncomputable def D18 (n : Nat × Nat) (a0 : List Int) (b1 : List Int) : Option R18 :=
 (bif ((a0.length : Int) != (b1.length : Int)) then some false
 else DL18_1 n n.1 a0 b1 0)
theorem S18_D (n : Nat × Nat) (hn : n.2 = 1) : S18 n = D18 n := by
  funext a0 b1; refine (S18_eq n a0 b1).trans ?_
  unfold D18
  (try simp only [DL18_1_eq n hn]) <;> first | with_reducible rfl | rfl
/-D 51 -/
noncomputable def DF51_1 (n : Nat × Nat) (f1 : (List (Int × Int)) → (List (Int × Int)) → Int → Option R51) (a0 : List (Int × Int)) (b1 : List (Int × Int)) (i5 : Int) : Option R51 :=
 (bif decide (i5 < (a0.length : Int)) then (idx a0 i5).bind fun x1' =>
 (idx b1 i5).bind fun x2' =>
 (bif (!((x1'.1 == x2'.1) && ((x1'.2 == x2'.2) && true))) then some false
 else f1 a0 b1 (wr .i64 (i5 + 1)))
 else some true)
noncomputable def DL51_1 (n : Nat × Nat) (m : Nat) : (List (Int × Int)) → (List (Int × Int)) → Int → Option R51 := Nat.rec (motive := fun _ => (List (Int × Int)) → (List (Int × Int)) → Int → Option R51) (fun _ _ _ => none) (fun _ ih => DF51_1 n ih) m
theorem DL51_1_succ (n : Nat × Nat) (m : Nat) : DL51_1 n (m + 1) = DF51_1 n (DL51_1 n m) := rfl
theorem DL51_1_eq (n : Nat × Nat) (hn : n.2 = 1) : ∀ m, L51_1 n m = DL51_1 n m
  | 0 => by funext a0 b1 i5; kernel_rfl
  | m + 1 => by
    have ih := DL51_1_eq n hn m
    funext a0 b1 i5; refine (L51_1_eq n m a0 b1 i5).trans ?_
    rw [DL51_1_succ]
    unfold DF51_1
    (try simp only [ih]) <;> first | with_reducible rfl | rfl
noncomputable def D51 (n : Nat × Nat) (a0 : List (Int × Int)) (b1 : List (Int × Int)) : Option R51 :=
 (bif ((a0.length : Int) != (b1.length : Int)) then some false
 else DL51_1 n n.1 a0 b1 0)
theorem S51_D (n : Nat × Nat) (hn : n.2 = 1) : S51 n = D51 n := by
  funext a0 b1; refine (S51_eq n a0 b1).trans ?_
  unfold D51
  (try simp only [DL51_1_eq n hn]) <;> first | with_reducible rfl | rfl
/-D 41 -/
noncomputable def D41 (n : Nat × Nat) (sheets0 : List (Int × Int)) (order1 : List Int) (machine2 : Int) (k3 : Int) : Option R41 :=
 (D58 n sheets0 order1).bind fun r1' =>
 (bif (r1'.2 != 0) then some r1'.2
 else (D35 n sheets0 machine2 k3).bind fun r2' =>
 (bif (r2'.2 != 0) then some r2'.2
 else (D61 n r1'.1).bind fun r3' =>
 (bif (r2'.1 != r3') then some 14
 else some 0)))
theorem S41_D (n : Nat × Nat) (hn : n.2 = 1) : S41 n = D41 n := by
  funext sheets0 order1 machine2 k3; refine (S41_eq n sheets0 order1 machine2 k3).trans ?_
  unfold D41
  (try simp only [S35_D n hn, S58_D n hn, S61_D n hn]) <;> first | with_reducible rfl | rfl
/-D 14 -/
noncomputable def D14 (n : Nat × Nat) : Option R14 :=
 (D52 n).bind fun r1' =>
 (D16 n r1' [1, 0, 2]).bind fun r2' =>
 (D52 n).bind fun r3' =>
 (D19 n r3' [0, 1, 2]).bind fun r4' =>
 (D52 n).bind fun r5' =>
 (D21 n r5' [0, 1, 2]).bind fun r6' =>
 (D52 n).bind fun r7' =>
 (D23 n r7' [1, 0, 2]).bind fun r8' =>
 (D52 n).bind fun r9' =>
 (D27 n r9').bind fun r10' =>
 (D52 n).bind fun r11' =>
 (D29 n r11').bind fun r12' =>
 (D52 n).bind fun r13' =>
 (D31 n r13').bind fun r14' =>
 ((bif ((r2'.2.2 != 0) == false) then some (r4'.2 != 0)
 else some true)).bind fun b15' =>
 ((bif (b15' == false) then some (r6'.2 != 0)
 else some true)).bind fun b16' =>
 ((bif (b16' == false) then some (r8'.2 != 0)
 else some true)).bind fun b17' =>
 ((bif (b17' == false) then some (r10'.2 != 0)
 else some true)).bind fun b18' =>
 ((bif (b18' == false) then some (r12'.2 != 0)
 else some true)).bind fun b19' =>
 ((bif (b19' == false) then some (r14'.2 != 0)
 else some true)).bind fun b20' =>
 (bif b20' then some false
 else (D52 n).bind fun r21' =>
 (D33 n r21' 1 0).bind fun r22' =>
 (D52 n).bind fun r23' =>
 (D33 n r23' 0 1).bind fun r24' =>
 (D52 n).bind fun r25' =>
 (D35 n r25' 1 2).bind fun r26' =>
 (D52 n).bind fun r27' =>
 (D37 n r27').bind fun r28' =>
 (D52 n).bind fun r29' =>
 (D39 n r29').bind fun r30' =>
 (D52 n).bind fun r31' =>
 (D19 n r31' [0, 1, 1]).bind fun r32' =>
 ((bif ((r22'.2 == 0) == true) then some (r24'.2 == 0)
 else some false)).bind fun b33' =>
 ((bif (b33' == true) then some (r26'.2 == 0)
 else some false)).bind fun b34' =>
 ((bif (b34' == true) then some (r28'.2.2 == 0)
 else some false)).bind fun b35' =>
 ((bif (b35' == true) then some (r30'.2 == 0)
 else some false)).bind fun b36' =>
 ((bif (b36' == true) then some (r32'.2 == 6)
 else some false)).bind fun b37' =>
 ((bif (b37' == true) then (D18 n r2'.1 [1, 4, 9]).bind fun r38' =>
 some r38'
 else some false)).bind fun b39' =>
 ((bif (b39' == true) then (D18 n r2'.2.1 [5, 7, 10]).bind fun r40' =>
 some r40'
 else some false)).bind fun b41' =>
 ((bif (b41' == true) then some (r4'.1 == 10)
 else some false)).bind fun b42' =>
 ((bif (b42' == true) then some (r6'.1 == 3)
 else some false)).bind fun b43' =>
 ((bif (b43' == true) then some (r8'.1 == 2)
 else some false)).bind fun b44' =>
 ((bif (b44' == true) then (D18 n r10'.1 [1, 0, 2]).bind fun r45' =>
 some r45'
 else some false)).bind fun b46' =>
 ((bif (b46' == true) then (D18 n r12'.1 [0, 1, 2]).bind fun r47' =>
 some r47'
 else some false)).bind fun b48' =>
 ((bif (b48' == true) then some (r14'.1 == 2)
 else some false)).bind fun b49' =>
 ((bif (b49' == true) then some r22'.1
 else some false)).bind fun b50' =>
 ((bif (b50' == true) then some (!r24'.1)
 else some false)).bind fun b51' =>
 ((bif (b51' == true) then some (r26'.1 == 10)
 else some false)).bind fun b52' =>
 ((bif (b52' == true) then some (r28'.1 == 1)
 else some false)).bind fun b53' =>
 ((bif (b53' == true) then some (r28'.2.1 == 2)
 else some false)).bind fun b54' =>
 ((bif (b54' == true) then (D55 n [1, 5, 4, 1, 2, 3]).bind fun r55' =>
 (D51 n r30'.1 r55').bind fun r56' =>
 some r56'
 else some false)).bind fun b57' =>
 ((bif (b57' == true) then (D52 n).bind fun r58' =>
 (D41 n r58' [0, 1, 2] 1 2).bind fun r59' =>
 some (r59' == 0)
 else some false)).bind fun b60' =>
 ((bif (b60' == true) then (D52 n).bind fun r61' =>
 (D41 n r61' [2, 1, 0] 1 2).bind fun r62' =>
 some (r62' == 14)
 else some false)).bind fun b63' =>
 some b63')
theorem S14_D (n : Nat × Nat) (hn : n.2 = 1) : S14 n = D14 n := by
  refine (S14_eq n).trans ?_
  unfold D14
  (try simp only [S16_D n hn, S18_D n hn, S19_D n hn, S21_D n hn, S23_D n hn, S27_D n hn, S29_D n hn, S31_D n hn, S33_D n hn, S35_D n hn, S37_D n hn, S39_D n hn, S41_D n hn, S51_D n hn, S52_D n hn, S55_D n hn]) <;> first | with_reducible rfl | rfl
/-D 54 -/
/-D 11 -/
end Go.Proofs.Ytnlbhjmbaedadaa
set_option linter.unusedVariables false
set_option maxRecDepth 100000
namespace Go.Proofs.Ytnlbhjmbaedadaa
open Go.Vi
abbrev N : Nat × Nat := (10000, 1)
theorem works_eq : D14 N = some true := by kernel_rfl
end Go.Proofs.Ytnlbhjmbaedadaa
