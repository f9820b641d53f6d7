/- Texts of this claim, joined: D22 to Zb. -/
import Derived.KernelRfl
import Derived.Test.YtkfkbebinhkdlaaGreatDoorProg
import Derived.WalkKit
import Derived.Test.YtkfkbebinhkdlaaGreatDoorQTopChainsCard7
set_option linter.unusedVariables false
set_option linter.unusedSimpArgs false
set_option maxRecDepth 100000
namespace Go.Proofs.YtkfkbebinhkdlaaGreatDoor
open Go.Vi
/-D 22 -/
noncomputable def D22 (n : Nat × Nat) (size0 : Int) (pieces1 : List Int) : Option R22 :=
 ((bif (decide (size0 < 1) == false) then some (decide (size0 > 24))
 else some true)).bind fun b1' =>
 (bif b1' then some 1
 else (bif decide ((pieces1.length : Int) > 8) then some 3
 else (D34c35 n pieces1 size0).bind fun r2' =>
 (bif r2' then some 1
 else some 0)))
theorem S22_D (n : Nat × Nat) (hn : n.2 = 1) : S22 n = D22 n := by
  funext size0 pieces1; refine (S22_eq n size0 pieces1).trans ?_
  unfold D22
  (try simp only [S34c35_D n hn]) <;> first | with_reducible rfl | rfl
/-D 60 -/
noncomputable def D60 (n : Nat × Nat) (x0 : Int) (y1 : Int) : Option R60 :=
 (bif decide (32 < 0) then none
 else (bif decide (32 < 0) then none
 else (bif decide (32 < 0) then none
 else (bif decide (32 < 0) then none
 else (bif decide (32 < 0) then none
 else some (wr .u64 ((wr .u64 ((wr .u64 ((Int.fdiv x0 (2 ^ (min (Int.toNat 32) (IntKind.bits .u64)))) * (Int.fdiv y1 (2 ^ (min (Int.toNat 32) (IntKind.bits .u64)))))) + (Int.fdiv (wr .u64 ((wr .u64 ((Int.fdiv x0 (2 ^ (min (Int.toNat 32) (IntKind.bits .u64)))) * (wr .u64 (BitVec.ofInt (IntKind.bits .u64) y1 &&& BitVec.ofInt (IntKind.bits .u64) 4294967295).toNat))) + (Int.fdiv (wr .u64 ((wr .u64 (BitVec.ofInt (IntKind.bits .u64) x0 &&& BitVec.ofInt (IntKind.bits .u64) 4294967295).toNat) * (wr .u64 (BitVec.ofInt (IntKind.bits .u64) y1 &&& BitVec.ofInt (IntKind.bits .u64) 4294967295).toNat))) (2 ^ (min (Int.toNat 32) (IntKind.bits .u64)))))) (2 ^ (min (Int.toNat 32) (IntKind.bits .u64)))))) + (Int.fdiv (wr .u64 ((wr .u64 (BitVec.ofInt (IntKind.bits .u64) (wr .u64 ((wr .u64 ((Int.fdiv x0 (2 ^ (min (Int.toNat 32) (IntKind.bits .u64)))) * (wr .u64 (BitVec.ofInt (IntKind.bits .u64) y1 &&& BitVec.ofInt (IntKind.bits .u64) 4294967295).toNat))) + (Int.fdiv (wr .u64 ((wr .u64 (BitVec.ofInt (IntKind.bits .u64) x0 &&& BitVec.ofInt (IntKind.bits .u64) 4294967295).toNat) * (wr .u64 (BitVec.ofInt (IntKind.bits .u64) y1 &&& BitVec.ofInt (IntKind.bits .u64) 4294967295).toNat))) (2 ^ (min (Int.toNat 32) (IntKind.bits .u64)))))) &&& BitVec.ofInt (IntKind.bits .u64) 4294967295).toNat) + (wr .u64 ((wr .u64 (BitVec.ofInt (IntKind.bits .u64) x0 &&& BitVec.ofInt (IntKind.bits .u64) 4294967295).toNat) * (Int.fdiv y1 (2 ^ (min (Int.toNat 32) (IntKind.bits .u64)))))))) (2 ^ (min (Int.toNat 32) (IntKind.bits .u64))))), wr .u64 (x0 * y1)))))))
theorem S60_D (n : Nat × Nat) (hn : n.2 = 1) : S60 n = D60 n := by
  funext x0 y1; refine (S60_eq n x0 y1).trans ?_
  unfold D60
  first | with_reducible rfl | rfl
/-D 51 -/
noncomputable def D51 (n : Nat × Nat) (x0 : Int) (y1 : Int) : Option R51 :=
 (D60 n x0 y1).bind fun r1' =>
 some (r1'.1, r1'.2)
theorem S51_D (n : Nat × Nat) (hn : n.2 = 1) : S51 n = D51 n := by
  funext x0 y1; refine (S51_eq n x0 y1).trans ?_
  unfold D51
  (try simp only [S60_D n hn]) <;> first | with_reducible rfl | rfl
/-D 44 -/
noncomputable def DF44_1 (n : Nat × Nat) (f1 : Int → List Int → Option R44) (v8 : Int) (newslice7 : List Int) : Option R44 :=
 (bif decide (v8 < (newslice7.length : Int)) then (bif bounds (some v8) none none newslice7.length then (bif bounds none (some v8) none newslice7.length then f1 (wr .i64 (v8 + ((min ((newslice7.drop (0 + 0)).take ((Int.toNat v8) - 0)).length ((newslice7.drop (0 + (Int.toNat v8))).take (newslice7.length - (Int.toNat v8))).length : Nat) : Int))) (newslice7.take (0 + (Int.toNat v8)) ++ ((newslice7.drop (0 + 0)).take ((Int.toNat v8) - 0)).take (min ((newslice7.drop (0 + 0)).take ((Int.toNat v8) - 0)).length ((newslice7.drop (0 + (Int.toNat v8))).take (newslice7.length - (Int.toNat v8))).length) ++ newslice7.drop ((0 + (Int.toNat v8)) + min ((newslice7.drop (0 + 0)).take ((Int.toNat v8) - 0)).length ((newslice7.drop (0 + (Int.toNat v8))).take (newslice7.length - (Int.toNat v8))).length))
 else none)
 else none)
 else some newslice7)
noncomputable def DL44_1 (n : Nat × Nat) (m : Nat) : Int → List Int → Option R44 := Nat.rec (motive := fun _ => Int → List Int → Option R44) (fun _ _ => none) (fun _ ih => DF44_1 n ih) m
theorem DL44_1_succ (n : Nat × Nat) (m : Nat) : DL44_1 n (m + 1) = DF44_1 n (DL44_1 n m) := rfl
theorem DL44_1_eq (n : Nat × Nat) (hn : n.2 = 1) : ∀ m, L44_1 n m = DL44_1 n m
  | 0 => by funext v8 newslice7; kernel_rfl
  | m + 1 => by
    have ih := DL44_1_eq n hn m
    funext v8 newslice7; refine (L44_1_eq n m v8 newslice7).trans ?_
    rw [DL44_1_succ]
    unfold DF44_1
    (try simp only [ih, S51_D n hn]) <;> first | with_reducible rfl | rfl
noncomputable def D44 (n : Nat × Nat) (x0 : List Int) (count1 : Int) : Option R44 :=
 (bif decide (count1 < 0) then none
 else (D51 n (wr .u64 (x0.length : Int)) (wr .u64 count1)).bind fun r1' =>
 ((bif (decide (r1'.1 > 0) == false) then some (decide (r1'.2 > 9223372036854775807))
 else some true)).bind fun b2' =>
 (bif b2' then none
 else (bif decide (0 ≤ wr .i64 r1'.2) && decide (wr .i64 r1'.2 ≤ wr .i64 r1'.2) && decide (wr .i64 r1'.2 ≤ lim) then DL44_1 n n.1 ((min x0.length (List.replicate (Int.toNat (wr .i64 r1'.2)) (0 : Int)).length : Nat) : Int) ((List.replicate (Int.toNat (wr .i64 r1'.2)) (0 : Int)).take 0 ++ x0.take (min x0.length (List.replicate (Int.toNat (wr .i64 r1'.2)) (0 : Int)).length) ++ (List.replicate (Int.toNat (wr .i64 r1'.2)) (0 : Int)).drop (0 + min x0.length (List.replicate (Int.toNat (wr .i64 r1'.2)) (0 : Int)).length))
 else none)))
theorem S44_D (n : Nat × Nat) (hn : n.2 = 1) : S44 n = D44 n := by
  funext x0 count1; refine (S44_eq n x0 count1).trans ?_
  unfold D44
  (try simp only [DL44_1_eq n hn, S51_D n hn]) <;> first | with_reducible rfl | rfl
/-D 37io11 -/
noncomputable def D37io11 (n : Nat × Nat) (v0 : List Int) (v1 : Bool) : Option R37io11 :=
 some (false, v0, true, ())
theorem S37io11_D (n : Nat × Nat) (hn : n.2 = 1) : S37io11 n = D37io11 n := by
  funext v0 v1; refine (S37io11_eq n v0 v1).trans ?_
  unfold D37io11
  first | with_reducible rfl | rfl
/-D 36c37io0001 -/
noncomputable def DF36c37io0001_4 (n : Nat × Nat) (f1 : (Int → List Int → Int → Int → Bool → List Int → List Int → Option R36c37io0001) × (Int → List Int → Int → Int → Bool → List Int → List Int → Option R36c37io0001)) (f2 : Int → List Int → Int → Int → Bool → List Int → List Int → Option R36c37io0001) (size0 : Int) (pieces1 : List Int) (most2 : Int) (i10 : Int) (v1000000000000 : Bool) (plan8 : List Int) (left9 : List Int) : Option R36c37io0001 :=
 (bif inB i10 plan8.length then (idx plan8 i10).bind fun x21' =>
 (bif inB i10 plan8.length then (idx plan8 i10).bind fun x22' =>
 (bif inB i10 (plan8.set (Int.toNat i10) (wr .i64 (x21' + 1))).length then (idx (plan8.set (Int.toNat i10) (wr .i64 (x21' + 1))) i10).bind fun x23' =>
 ((bif (decide (x23' ≥ most2) == false) then ((bif (decide (x23' > 0) == true) then (bif inB (wr .i64 (x23' - 1)) left9.length then (idx left9 (wr .i64 (x23' - 1))).bind fun x24' =>
 some (x24' == size0)
 else none)
 else some false)).bind fun b25' =>
 some b25'
 else some true)).bind fun b26' =>
 (bif b26' then (bif inB i10 (plan8.set (Int.toNat i10) (wr .i64 (x21' + 1))).length then (idx (plan8.set (Int.toNat i10) (wr .i64 (x21' + 1))) i10).bind fun x27' =>
              f1.1 size0 pieces1 most2 i10 v1000000000000 ((plan8.set (Int.toNat i10) (wr .i64 (x21' + 1))).set (Int.toNat i10) (-1)) left9
 else none)
 else (bif inB x23' left9.length then (idx left9 x23').bind fun x28' =>
 (idx pieces1 i10).bind fun x29' =>
 (bif decide (x28' ≥ x29') then (bif inB x23' left9.length then (idx left9 x23').bind fun x30' =>
 (idx pieces1 i10).bind fun x31' =>
 (bif inB x23' left9.length then (idx left9 x23').bind fun x32' =>
                    f1.2 size0 pieces1 most2 (wr .i64 (i10 + 1)) v1000000000000 (plan8.set (Int.toNat i10) (wr .i64 (x21' + 1))) (left9.set (Int.toNat x23') (wr .i64 (x30' - x31')))
 else none)
 else none)
 else f2 size0 pieces1 most2 i10 v1000000000000 (plan8.set (Int.toNat i10) (wr .i64 (x21' + 1))) left9)
 else none))
 else none)
 else none)
 else none)
noncomputable def DL36c37io0001_4 (n : Nat × Nat) (f1 : (Int → List Int → Int → Int → Bool → List Int → List Int → Option R36c37io0001) × (Int → List Int → Int → Int → Bool → List Int → List Int → Option R36c37io0001)) (m : Nat) : Int → List Int → Int → Int → Bool → List Int → List Int → Option R36c37io0001 := Nat.rec (motive := fun _ => Int → List Int → Int → Int → Bool → List Int → List Int → Option R36c37io0001) (fun _ _ _ _ _ _ _ => none) (fun _ ih => DF36c37io0001_4 n f1 ih) m
theorem DL36c37io0001_4_succ (n : Nat × Nat) (f1 : (Int → List Int → Int → Int → Bool → List Int → List Int → Option R36c37io0001) × (Int → List Int → Int → Int → Bool → List Int → List Int → Option R36c37io0001)) (m : Nat) : DL36c37io0001_4 n f1 (m + 1) = DF36c37io0001_4 n f1 (DL36c37io0001_4 n f1 m) := rfl
theorem DL36c37io0001_4_eq (n : Nat × Nat) (hn : n.2 = 1) (m1 : Nat) : ∀ m, L36c37io0001_4 n m1 m = DL36c37io0001_4 n (L36c37io0001_1 n m1, L36c37io0001_3 n m1) m
  | 0 => by funext size0 pieces1 most2 i10 v1000000000000 plan8 left9; kernel_rfl
  | m + 1 => by
    have ih := DL36c37io0001_4_eq n hn m1 m
    funext size0 pieces1 most2 i10 v1000000000000 plan8 left9; refine (L36c37io0001_4_eq n m1 m size0 pieces1 most2 i10 v1000000000000 plan8 left9).trans ?_
    rw [DL36c37io0001_4_succ]
    unfold DF36c37io0001_4
    (try simp only [ih, S44_D n hn, S37io11_D n hn]) <;> first | with_reducible rfl | rfl
noncomputable def DF36c37io0001_1 (n : Nat × Nat) (f1 : (Int → List Int → Int → Int → Bool → List Int → List Int → Option R36c37io0001) × (Int → List Int → Int → Int → Bool → List Int → List Int → Option R36c37io0001)) (size0 : Int) (pieces1 : List Int) (most2 : Int) (i10 : Int) (v1000000000000 : Bool) (plan8 : List Int) (left9 : List Int) : Option R36c37io0001 :=
 (bif decide (wr .i64 (i10 - 1) < 0) then some ((), v1000000000000, ())
 else (bif inB (wr .i64 (i10 - 1)) plan8.length then (idx plan8 (wr .i64 (i10 - 1))).bind fun x4' =>
 (bif inB x4' left9.length then (idx left9 x4').bind fun x5' =>
 (idx pieces1 (wr .i64 (i10 - 1))).bind fun x6' =>
 (bif inB x4' left9.length then (idx left9 x4').bind fun x7' =>
            f1.2 size0 pieces1 most2 (wr .i64 (i10 - 1)) v1000000000000 plan8 (left9.set (Int.toNat x4') (wr .i64 (x5' + x6')))
 else none)
 else none)
 else none))
noncomputable def DF36c37io0001_3 (n : Nat × Nat) (f1 : (Int → List Int → Int → Int → Bool → List Int → List Int → Option R36c37io0001) × (Int → List Int → Int → Int → Bool → List Int → List Int → Option R36c37io0001)) (size0 : Int) (pieces1 : List Int) (most2 : Int) (i10 : Int) (v1000000000000 : Bool) (plan8 : List Int) (left9 : List Int) : Option R36c37io0001 :=
 (bif (i10 == (pieces1.length : Int)) then (D37io11 n plan8 v1000000000000).bind fun r20' =>
 (bif Nat.beq r20'.2.1.length plan8.length then (bif (!r20'.1) then some ((), r20'.2.2.1, ())
 else f1.1 size0 pieces1 most2 i10 r20'.2.2.1 r20'.2.1 left9)
 else none)
 else DL36c37io0001_4 n f1 n.1 size0 pieces1 most2 i10 v1000000000000 plan8 left9)
noncomputable def DG36c37io0001_1 (n : Nat × Nat) (m : Nat) : (Int → List Int → Int → Int → Bool → List Int → List Int → Option R36c37io0001) × (Int → List Int → Int → Int → Bool → List Int → List Int → Option R36c37io0001) := Nat.rec (motive := fun _ => (Int → List Int → Int → Int → Bool → List Int → List Int → Option R36c37io0001) × (Int → List Int → Int → Int → Bool → List Int → List Int → Option R36c37io0001)) ((fun _ _ _ _ _ _ _ => none), (fun _ _ _ _ _ _ _ => none)) (fun _ ih => (DF36c37io0001_1 n ih, DF36c37io0001_3 n ih)) m
theorem DG36c37io0001_1_succ (n : Nat × Nat) (m : Nat) : DG36c37io0001_1 n (m + 1) = (DF36c37io0001_1 n (DG36c37io0001_1 n m), DF36c37io0001_3 n (DG36c37io0001_1 n m)) := rfl
noncomputable def DL36c37io0001_1 (n : Nat × Nat) (m : Nat) : Int → List Int → Int → Int → Bool → List Int → List Int → Option R36c37io0001 := (DG36c37io0001_1 n m).1
noncomputable def DL36c37io0001_3 (n : Nat × Nat) (m : Nat) : Int → List Int → Int → Int → Bool → List Int → List Int → Option R36c37io0001 := (DG36c37io0001_1 n m).2
theorem DG36c37io0001_1_eq (n : Nat × Nat) (hn : n.2 = 1) : ∀ m, (L36c37io0001_1 n m, L36c37io0001_3 n m) = DG36c37io0001_1 n m
  | 0 => by
    have z1 : L36c37io0001_1 n 0 = (fun _ _ _ _ _ _ _ => none) := by funext size0 pieces1 most2 i10 v1000000000000 plan8 left9; kernel_rfl
    have z3 : L36c37io0001_3 n 0 = (fun _ _ _ _ _ _ _ => none) := by funext size0 pieces1 most2 i10 v1000000000000 plan8 left9; kernel_rfl
    rw [z1, z3]
    rfl
  | m + 1 => by
    have ih := DG36c37io0001_1_eq n hn m
    have ih1 : L36c37io0001_1 n m = (DG36c37io0001_1 n m).1 := congrArg (fun p => p.1) ih; have ih3 : L36c37io0001_3 n m = (DG36c37io0001_1 n m).2 := congrArg (fun p => p.2) ih
    have e1 : L36c37io0001_1 n (m + 1) = DF36c37io0001_1 n (DG36c37io0001_1 n m) := by
      funext size0 pieces1 most2 i10 v1000000000000 plan8 left9; refine (L36c37io0001_1_eq n m size0 pieces1 most2 i10 v1000000000000 plan8 left9).trans ?_
      unfold DF36c37io0001_1
      (try simp only [ih1, ih3, DL36c37io0001_4_eq n hn, S44_D n hn, S37io11_D n hn]) <;> first | with_reducible rfl | rfl
    have e3 : L36c37io0001_3 n (m + 1) = DF36c37io0001_3 n (DG36c37io0001_1 n m) := by
      funext size0 pieces1 most2 i10 v1000000000000 plan8 left9; refine (L36c37io0001_3_eq n m size0 pieces1 most2 i10 v1000000000000 plan8 left9).trans ?_
      unfold DF36c37io0001_3
      (try simp only [ih1, ih3, DL36c37io0001_4_eq n hn, S44_D n hn, S37io11_D n hn]) <;> first | with_reducible rfl | rfl
    rw [DG36c37io0001_1_succ, e1, e3]
theorem DL36c37io0001_1_eq (n : Nat × Nat) (hn : n.2 = 1) (m : Nat) : L36c37io0001_1 n m = DL36c37io0001_1 n m := congrArg (fun p => p.1) (DG36c37io0001_1_eq n hn m)
theorem DL36c37io0001_3_eq (n : Nat × Nat) (hn : n.2 = 1) (m : Nat) : L36c37io0001_3 n m = DL36c37io0001_3 n m := congrArg (fun p => p.2) (DG36c37io0001_1_eq n hn m)
noncomputable def DF36c37io0001_2 (n : Nat × Nat) (f1 : Int → List Int → Int → Int → Bool → List Int → List Int → Option R36c37io0001) (size0 : Int) (pieces1 : List Int) (most2 : Int) (i10 : Int) (v1000000000000 : Bool) (plan8 : List Int) (left9 : List Int) : Option R36c37io0001 :=
 (bif inB i10 plan8.length then (idx plan8 i10).bind fun x8' =>
 (bif inB i10 plan8.length then (idx plan8 i10).bind fun x9' =>
 (bif inB i10 (plan8.set (Int.toNat i10) (wr .i64 (x8' + 1))).length then (idx (plan8.set (Int.toNat i10) (wr .i64 (x8' + 1))) i10).bind fun x10' =>
 ((bif (decide (x10' ≥ most2) == false) then ((bif (decide (x10' > 0) == true) then (bif inB (wr .i64 (x10' - 1)) left9.length then (idx left9 (wr .i64 (x10' - 1))).bind fun x11' =>
 some (x11' == size0)
 else none)
 else some false)).bind fun b12' =>
 some b12'
 else some true)).bind fun b13' =>
 (bif b13' then (bif inB i10 (plan8.set (Int.toNat i10) (wr .i64 (x8' + 1))).length then (idx (plan8.set (Int.toNat i10) (wr .i64 (x8' + 1))) i10).bind fun x14' =>
              DL36c37io0001_1 n n.1 size0 pieces1 most2 i10 v1000000000000 ((plan8.set (Int.toNat i10) (wr .i64 (x8' + 1))).set (Int.toNat i10) (-1)) left9
 else none)
 else (bif inB x10' left9.length then (idx left9 x10').bind fun x15' =>
 (idx pieces1 i10).bind fun x16' =>
 (bif decide (x15' ≥ x16') then (bif inB x10' left9.length then (idx left9 x10').bind fun x17' =>
 (idx pieces1 i10).bind fun x18' =>
 (bif inB x10' left9.length then (idx left9 x10').bind fun x19' =>
                    DL36c37io0001_3 n n.1 size0 pieces1 most2 (wr .i64 (i10 + 1)) v1000000000000 (plan8.set (Int.toNat i10) (wr .i64 (x8' + 1))) (left9.set (Int.toNat x10') (wr .i64 (x17' - x18')))
 else none)
 else none)
 else f1 size0 pieces1 most2 i10 v1000000000000 (plan8.set (Int.toNat i10) (wr .i64 (x8' + 1))) left9)
 else none))
 else none)
 else none)
 else none)
noncomputable def DL36c37io0001_2 (n : Nat × Nat) (m : Nat) : Int → List Int → Int → Int → Bool → List Int → List Int → Option R36c37io0001 := Nat.rec (motive := fun _ => Int → List Int → Int → Int → Bool → List Int → List Int → Option R36c37io0001) (fun _ _ _ _ _ _ _ => none) (fun _ ih => DF36c37io0001_2 n ih) m
theorem DL36c37io0001_2_succ (n : Nat × Nat) (m : Nat) : DL36c37io0001_2 n (m + 1) = DF36c37io0001_2 n (DL36c37io0001_2 n m) := rfl
theorem DL36c37io0001_2_eq (n : Nat × Nat) (hn : n.2 = 1) : ∀ m, L36c37io0001_2 n m = DL36c37io0001_2 n m
  | 0 => by funext size0 pieces1 most2 i10 v1000000000000 plan8 left9; kernel_rfl
  | m + 1 => by
    have ih := DL36c37io0001_2_eq n hn m
    funext size0 pieces1 most2 i10 v1000000000000 plan8 left9; refine (L36c37io0001_2_eq n m size0 pieces1 most2 i10 v1000000000000 plan8 left9).trans ?_
    rw [DL36c37io0001_2_succ]
    unfold DF36c37io0001_2
    (try simp only [ih, DL36c37io0001_4_eq n hn, DL36c37io0001_1_eq n hn, DL36c37io0001_3_eq n hn, S44_D n hn, S37io11_D n hn]) <;> first | with_reducible rfl | rfl
noncomputable def D36c37io0001 (n : Nat × Nat) (size0 : Int) (pieces1 : List Int) (most2 : Int) (cp_3_0 : Bool) : Option R36c37io0001 :=
 (D44 n [-1] (pieces1.length : Int)).bind fun r1' =>
 (D44 n [size0] most2).bind fun r2' =>
 (bif (0 == (pieces1.length : Int)) then (D37io11 n r1' cp_3_0).bind fun r3' =>
 (bif Nat.beq r3'.2.1.length r1'.length then (bif (!r3'.1) then some ((), r3'.2.2.1, ())
 else DL36c37io0001_1 n n.1 size0 pieces1 most2 0 r3'.2.2.1 r3'.2.1 r2')
 else none)
 else DL36c37io0001_2 n n.1 size0 pieces1 most2 0 cp_3_0 r1' r2')
theorem S36c37io0001_D (n : Nat × Nat) (hn : n.2 = 1) : S36c37io0001 n = D36c37io0001 n := by
  funext size0 pieces1 most2 cp_3_0; refine (S36c37io0001_eq n size0 pieces1 most2 cp_3_0).trans ?_
  unfold D36c37io0001
  (try simp only [DL36c37io0001_4_eq n hn, DL36c37io0001_1_eq n hn, DL36c37io0001_3_eq n hn, DL36c37io0001_2_eq n hn, S44_D n hn, S37io11_D n hn]) <;> first | with_reducible rfl | rfl
/-D 23 -/
noncomputable def DF23_1 (n : Nat × Nat) (f1 : Int → List Int → Int → Option R23) (size0 : Int) (pieces1 : List Int) (most5 : Int) : Option R23 :=
 (D36c37io0001 n size0 pieces1 most5 false).bind fun r1' =>
 ((bif (r1'.2.1 == false) then some (most5 == (pieces1.length : Int))
 else some true)).bind fun b2' =>
 (bif b2' then some most5
 else f1 size0 pieces1 (wr .i64 (most5 + 1)))
noncomputable def DL23_1 (n : Nat × Nat) (m : Nat) : Int → List Int → Int → Option R23 := Nat.rec (motive := fun _ => Int → List Int → Int → Option R23) (fun _ _ _ => none) (fun _ ih => DF23_1 n ih) m
theorem DL23_1_succ (n : Nat × Nat) (m : Nat) : DL23_1 n (m + 1) = DF23_1 n (DL23_1 n m) := rfl
theorem DL23_1_eq (n : Nat × Nat) (hn : n.2 = 1) : ∀ m, L23_1 n m = DL23_1 n m
  | 0 => by funext size0 pieces1 most5; kernel_rfl
  | m + 1 => by
    have ih := DL23_1_eq n hn m
    funext size0 pieces1 most5; refine (L23_1_eq n m size0 pieces1 most5).trans ?_
    rw [DL23_1_succ]
    unfold DF23_1
    (try simp only [ih, S36c37io0001_D n hn]) <;> first | with_reducible rfl | rfl
noncomputable def D23 (n : Nat × Nat) (size0 : Int) (pieces1 : List Int) : Option R23 :=
    DL23_1 n n.1 size0 pieces1 0
theorem S23_D (n : Nat × Nat) (hn : n.2 = 1) : S23 n = D23 n := by
  funext size0 pieces1; refine (S23_eq n size0 pieces1).trans ?_
  unfold D23
  (try simp only [DL23_1_eq n hn, S36c37io0001_D n hn]) <;> first | with_reducible rfl | rfl
/-D 8 -/
noncomputable def D8 (n : Nat × Nat) (size0 : Int) (pieces1 : List Int) : Option R8 :=
 (D22 n size0 pieces1).bind fun r1' =>
 (bif (r1' != 0) then some (0, r1')
 else (D23 n size0 pieces1).bind fun r2' =>
 some (r2', 0))
theorem S8_D (n : Nat × Nat) (hn : n.2 = 1) : S8 n = D8 n := by
  funext size0 pieces1; refine (S8_eq n size0 pieces1).trans ?_
  unfold D8
  (try simp only [S22_D n hn, S23_D n hn]) <;> first | with_reducible rfl | rfl
/-D 39 -/
noncomputable def D39 (n : Nat × Nat) (i0 : Int) (j1 : Int) (v2 : List Int) : Option R39 :=
 (idx v2 j1).bind fun x1' =>
 (idx v2 i0).bind fun x2' =>
 some (wr .i64 (x1' - x2'))
theorem S39_D (n : Nat × Nat) (hn : n.2 = 1) : S39 n = D39 n := by
  funext i0 j1 v2; refine (S39_eq n i0 j1 v2).trans ?_
  unfold D39
  first | with_reducible rfl | rfl
/-D 52c39io1001 -/
noncomputable def DF52c39io1001_2 (n : Nat × Nat) (f1 : Int → Int → Int → List Int → List Int → Option R52c39io1001) (f2 : Int → Int → Int → Int → List Int → List Int → Option R52c39io1001) (a1 : Int) (b2 : Int) (i8 : Int) (j9 : Int) (v1000000000000 : List Int) (v1000000000001 : List Int) : Option R52c39io1001 :=
 ((bif (decide (j9 > a1) == true) then (bif inB j9 v1000000000000.length then (idx v1000000000000 j9).bind fun x1' =>
 (bif inB (wr .i64 (j9 - 1)) v1000000000000.length then (idx v1000000000000 (wr .i64 (j9 - 1))).bind fun x2' =>
 (D39 n x1' x2' v1000000000001).bind fun r3' =>
 some (decide (r3' < 0))
 else none)
 else none)
 else some false)).bind fun b4' =>
 (bif b4' then (bif inB (wr .i64 (j9 - 1)) v1000000000000.length then (idx v1000000000000 (wr .i64 (j9 - 1))).bind fun x5' =>
 (bif inB j9 v1000000000000.length then (idx v1000000000000 j9).bind fun x6' =>
 (bif inB j9 v1000000000000.length then (idx v1000000000000 j9).bind fun x7' =>
 (bif inB (wr .i64 (j9 - 1)) (v1000000000000.set (Int.toNat j9) x5').length then (idx (v1000000000000.set (Int.toNat j9) x5') (wr .i64 (j9 - 1))).bind fun x8' =>
              f2 a1 b2 i8 (wr .i64 (j9 - 1)) ((v1000000000000.set (Int.toNat j9) x5').set (Int.toNat (wr .i64 (j9 - 1))) x6') v1000000000001
 else none)
 else none)
 else none)
 else none)
 else f1 a1 b2 (wr .i64 (i8 + 1)) v1000000000000 v1000000000001)
noncomputable def DL52c39io1001_2 (n : Nat × Nat) (f1 : Int → Int → Int → List Int → List Int → Option R52c39io1001) (m : Nat) : Int → Int → Int → Int → List Int → List Int → Option R52c39io1001 := Nat.rec (motive := fun _ => Int → Int → Int → Int → List Int → List Int → Option R52c39io1001) (fun _ _ _ _ _ _ => none) (fun _ ih => DF52c39io1001_2 n f1 ih) m
theorem DL52c39io1001_2_succ (n : Nat × Nat) (f1 : Int → Int → Int → List Int → List Int → Option R52c39io1001) (m : Nat) : DL52c39io1001_2 n f1 (m + 1) = DF52c39io1001_2 n f1 (DL52c39io1001_2 n f1 m) := rfl
theorem DL52c39io1001_2_eq (n : Nat × Nat) (hn : n.2 = 1) (m1 : Nat) : ∀ m, L52c39io1001_2 n m1 m = DL52c39io1001_2 n (L52c39io1001_1 n m1) m
  | 0 => by funext a1 b2 i8 j9 v1000000000000 v1000000000001; kernel_rfl
  | m + 1 => by
    have ih := DL52c39io1001_2_eq n hn m1 m
    funext a1 b2 i8 j9 v1000000000000 v1000000000001; refine (L52c39io1001_2_eq n m1 m a1 b2 i8 j9 v1000000000000 v1000000000001).trans ?_
    rw [DL52c39io1001_2_succ]
    unfold DF52c39io1001_2
    (try simp only [ih, S39_D n hn]) <;> first | with_reducible rfl | rfl
noncomputable def DF52c39io1001_1 (n : Nat × Nat) (f1 : Int → Int → Int → List Int → List Int → Option R52c39io1001) (a1 : Int) (b2 : Int) (i8 : Int) (v1000000000000 : List Int) (v1000000000001 : List Int) : Option R52c39io1001 :=
 (bif decide (i8 < b2) then DL52c39io1001_2 n f1 n.1 a1 b2 i8 i8 v1000000000000 v1000000000001
 else some ((), v1000000000000, v1000000000001, ()))
noncomputable def DL52c39io1001_1 (n : Nat × Nat) (m : Nat) : Int → Int → Int → List Int → List Int → Option R52c39io1001 := Nat.rec (motive := fun _ => Int → Int → Int → List Int → List Int → Option R52c39io1001) (fun _ _ _ _ _ => none) (fun _ ih => DF52c39io1001_1 n ih) m
theorem DL52c39io1001_1_succ (n : Nat × Nat) (m : Nat) : DL52c39io1001_1 n (m + 1) = DF52c39io1001_1 n (DL52c39io1001_1 n m) := rfl
theorem DL52c39io1001_1_eq (n : Nat × Nat) (hn : n.2 = 1) : ∀ m, L52c39io1001_1 n m = DL52c39io1001_1 n m
  | 0 => by funext a1 b2 i8 v1000000000000 v1000000000001; kernel_rfl
  | m + 1 => by
    have ih := DL52c39io1001_1_eq n hn m
    funext a1 b2 i8 v1000000000000 v1000000000001; refine (L52c39io1001_1_eq n m a1 b2 i8 v1000000000000 v1000000000001).trans ?_
    rw [DL52c39io1001_1_succ]
    unfold DF52c39io1001_1
    (try simp only [ih, DL52c39io1001_2_eq n hn, S39_D n hn]) <;> first | with_reducible rfl | rfl
noncomputable def D52c39io1001 (n : Nat × Nat) (data0 : List Int) (a1 : Int) (b2 : Int) (cp_3_0 : List Int) : Option R52c39io1001 :=
    DL52c39io1001_1 n n.1 a1 b2 (wr .i64 (a1 + 1)) data0 cp_3_0
theorem S52c39io1001_D (n : Nat × Nat) (hn : n.2 = 1) : S52c39io1001 n = D52c39io1001 n := by
  funext data0 a1 b2 cp_3_0; refine (S52c39io1001_eq n data0 a1 b2 cp_3_0).trans ?_
  unfold D52c39io1001
  (try simp only [DL52c39io1001_2_eq n hn, DL52c39io1001_1_eq n hn, S39_D n hn]) <;> first | with_reducible rfl | rfl
noncomputable def D53c39io10001 (n : Nat × Nat) (data0 : List Int) (a1 : Int) (m2 : Int) (b3 : Int) (cp_4_0 : List Int) : Option R53c39io10001 := none
theorem S53c39io10001_D (n : Nat × Nat) (hn : n.2 = 1) : S53c39io10001 n = D53c39io10001 n := by funext data0 a1 m2 b3 cp_4_0; exact S53c39io10001_none n data0 a1 m2 b3 cp_4_0
/-D 45c39io101 -/
noncomputable def DF45c39io101_3 (n : Nat × Nat) (f1 : Int → Int → List Int → List Int → Option R45c39io101) (f2 : Int → Int → Int → Int → List Int → List Int → Option R45c39io101) (v1 : Int) (blockSize6 : Int) (a7 : Int) (b8 : Int) (v1000000000000 : List Int) (v1000000000001 : List Int) : Option R45c39io101 :=
 (bif decide (b8 ≤ v1) then (D53c39io10001 n v1000000000000 a7 (wr .i64 (a7 + blockSize6)) b8 v1000000000001).bind fun r3' =>
 (bif Nat.beq r3'.2.1.length v1000000000000.length then f2 v1 blockSize6 b8 (wr .i64 (b8 + (wr .i64 (2 * blockSize6)))) r3'.2.1 r3'.2.2.1
 else none)
 else (bif decide (wr .i64 (a7 + blockSize6) < v1) then (D53c39io10001 n v1000000000000 a7 (wr .i64 (a7 + blockSize6)) v1 v1000000000001).bind fun r4' =>
 (bif Nat.beq r4'.2.1.length v1000000000000.length then f1 v1 (wr .i64 (blockSize6 * 2)) r4'.2.1 r4'.2.2.1
 else none)
 else f1 v1 (wr .i64 (blockSize6 * 2)) v1000000000000 v1000000000001))
noncomputable def DL45c39io101_3 (n : Nat × Nat) (f1 : Int → Int → List Int → List Int → Option R45c39io101) (m : Nat) : Int → Int → Int → Int → List Int → List Int → Option R45c39io101 := Nat.rec (motive := fun _ => Int → Int → Int → Int → List Int → List Int → Option R45c39io101) (fun _ _ _ _ _ _ => none) (fun _ ih => DF45c39io101_3 n f1 ih) m
theorem DL45c39io101_3_succ (n : Nat × Nat) (f1 : Int → Int → List Int → List Int → Option R45c39io101) (m : Nat) : DL45c39io101_3 n f1 (m + 1) = DF45c39io101_3 n f1 (DL45c39io101_3 n f1 m) := rfl
theorem DL45c39io101_3_eq (n : Nat × Nat) (hn : n.2 = 1) (m1 : Nat) : ∀ m, L45c39io101_3 n m1 m = DL45c39io101_3 n (L45c39io101_2 n m1) m
  | 0 => by funext v1 blockSize6 a7 b8 v1000000000000 v1000000000001; kernel_rfl
  | m + 1 => by
    have ih := DL45c39io101_3_eq n hn m1 m
    funext v1 blockSize6 a7 b8 v1000000000000 v1000000000001; refine (L45c39io101_3_eq n m1 m v1 blockSize6 a7 b8 v1000000000000 v1000000000001).trans ?_
    rw [DL45c39io101_3_succ]
    unfold DF45c39io101_3
    (try simp only [ih, S52c39io1001_D n hn, S53c39io10001_D n hn]) <;> first | with_reducible rfl | rfl
noncomputable def DF45c39io101_2 (n : Nat × Nat) (f1 : Int → Int → List Int → List Int → Option R45c39io101) (v1 : Int) (blockSize6 : Int) (v1000000000000 : List Int) (v1000000000001 : List Int) : Option R45c39io101 :=
 (bif decide (blockSize6 < v1) then DL45c39io101_3 n f1 n.1 v1 blockSize6 0 (wr .i64 (2 * blockSize6)) v1000000000000 v1000000000001
 else some ((), v1000000000000, v1000000000001, ()))
noncomputable def DL45c39io101_2 (n : Nat × Nat) (m : Nat) : Int → Int → List Int → List Int → Option R45c39io101 := Nat.rec (motive := fun _ => Int → Int → List Int → List Int → Option R45c39io101) (fun _ _ _ _ => none) (fun _ ih => DF45c39io101_2 n ih) m
theorem DL45c39io101_2_succ (n : Nat × Nat) (m : Nat) : DL45c39io101_2 n (m + 1) = DF45c39io101_2 n (DL45c39io101_2 n m) := rfl
theorem DL45c39io101_2_eq (n : Nat × Nat) (hn : n.2 = 1) : ∀ m, L45c39io101_2 n m = DL45c39io101_2 n m
  | 0 => by funext v1 blockSize6 v1000000000000 v1000000000001; kernel_rfl
  | m + 1 => by
    have ih := DL45c39io101_2_eq n hn m
    funext v1 blockSize6 v1000000000000 v1000000000001; refine (L45c39io101_2_eq n m v1 blockSize6 v1000000000000 v1000000000001).trans ?_
    rw [DL45c39io101_2_succ]
    unfold DF45c39io101_2
    (try simp only [ih, DL45c39io101_3_eq n hn, S52c39io1001_D n hn, S53c39io10001_D n hn]) <;> first | with_reducible rfl | rfl
noncomputable def DF45c39io101_1 (n : Nat × Nat) (f1 : Int → Int → Int → Int → List Int → List Int → Option R45c39io101) (v1 : Int) (blockSize6 : Int) (a7 : Int) (b8 : Int) (v1000000000000 : List Int) (v1000000000001 : List Int) : Option R45c39io101 :=
 (bif decide (b8 ≤ v1) then (D52c39io1001 n v1000000000000 a7 b8 v1000000000001).bind fun r1' =>
 (bif Nat.beq r1'.2.1.length v1000000000000.length then f1 v1 blockSize6 b8 (wr .i64 (b8 + blockSize6)) r1'.2.1 r1'.2.2.1
 else none)
 else (D52c39io1001 n v1000000000000 a7 v1 v1000000000001).bind fun r2' =>
 (bif Nat.beq r2'.2.1.length v1000000000000.length then DL45c39io101_2 n n.1 v1 blockSize6 r2'.2.1 r2'.2.2.1
 else none))
noncomputable def DL45c39io101_1 (n : Nat × Nat) (m : Nat) : Int → Int → Int → Int → List Int → List Int → Option R45c39io101 := Nat.rec (motive := fun _ => Int → Int → Int → Int → List Int → List Int → Option R45c39io101) (fun _ _ _ _ _ _ => none) (fun _ ih => DF45c39io101_1 n ih) m
theorem DL45c39io101_1_succ (n : Nat × Nat) (m : Nat) : DL45c39io101_1 n (m + 1) = DF45c39io101_1 n (DL45c39io101_1 n m) := rfl
theorem DL45c39io101_1_eq (n : Nat × Nat) (hn : n.2 = 1) : ∀ m, L45c39io101_1 n m = DL45c39io101_1 n m
  | 0 => by funext v1 blockSize6 a7 b8 v1000000000000 v1000000000001; kernel_rfl
  | m + 1 => by
    have ih := DL45c39io101_1_eq n hn m
    funext v1 blockSize6 a7 b8 v1000000000000 v1000000000001; refine (L45c39io101_1_eq n m v1 blockSize6 a7 b8 v1000000000000 v1000000000001).trans ?_
    rw [DL45c39io101_1_succ]
    unfold DF45c39io101_1
    (try simp only [ih, DL45c39io101_3_eq n hn, DL45c39io101_2_eq n hn, S52c39io1001_D n hn, S53c39io10001_D n hn]) <;> first | with_reducible rfl | rfl
noncomputable def D45c39io101 (n : Nat × Nat) (data0 : List Int) (v1 : Int) (cp_2_0 : List Int) : Option R45c39io101 :=
    DL45c39io101_1 n n.1 v1 20 0 20 data0 cp_2_0
theorem S45c39io101_D (n : Nat × Nat) (hn : n.2 = 1) : S45c39io101 n = D45c39io101 n := by
  funext data0 v1 cp_2_0; refine (S45c39io101_eq n data0 v1 cp_2_0).trans ?_
  unfold D45c39io101
  (try simp only [DL45c39io101_3_eq n hn, DL45c39io101_2_eq n hn, DL45c39io101_1_eq n hn, S52c39io1001_D n hn, S53c39io10001_D n hn]) <;> first | with_reducible rfl | rfl
/-D 38c39io11 -/
noncomputable def D38c39io11 (n : Nat × Nat) (x0 : List Int) (cp_1_0 : List Int) : Option R38c39io11 :=
 (D45c39io101 n x0 (x0.length : Int) cp_1_0).bind fun r1' =>
 (bif Nat.beq r1'.2.1.length x0.length then some ((), r1'.2.1, r1'.2.2.1, ())
 else none)
theorem S38c39io11_D (n : Nat × Nat) (hn : n.2 = 1) : S38c39io11 n = D38c39io11 n := by
  funext x0 cp_1_0; refine (S38c39io11_eq n x0 cp_1_0).trans ?_
  unfold D38c39io11
  (try simp only [S45c39io101_D n hn]) <;> first | with_reducible rfl | rfl
/-D 24 -/
noncomputable def DF24_1 (n : Nat × Nat) (f1 : Int → Int → List Int → List Int → Option R24) (v9 : Int) (v10 : Int) (pieces1 : List Int) (out3 : List Int) : Option R24 :=
 (bif decide (v10 < v9) then (bif inB v10 out3.length then (idx out3 v10).bind fun x1' =>
        f1 v9 (wr .i64 (v10 + 1)) pieces1 (out3.set (Int.toNat v10) v10)
 else none)
 else (D38c39io11 n out3 pieces1).bind fun r2' =>
 (bif Nat.beq r2'.2.1.length out3.length then some r2'.2.1
 else none))
noncomputable def DL24_1 (n : Nat × Nat) (m : Nat) : Int → Int → List Int → List Int → Option R24 := Nat.rec (motive := fun _ => Int → Int → List Int → List Int → Option R24) (fun _ _ _ _ => none) (fun _ ih => DF24_1 n ih) m
theorem DL24_1_succ (n : Nat × Nat) (m : Nat) : DL24_1 n (m + 1) = DF24_1 n (DL24_1 n m) := rfl
theorem DL24_1_eq (n : Nat × Nat) (hn : n.2 = 1) : ∀ m, L24_1 n m = DL24_1 n m
  | 0 => by funext v9 v10 pieces1 out3; kernel_rfl
  | m + 1 => by
    have ih := DL24_1_eq n hn m
    funext v9 v10 pieces1 out3; refine (L24_1_eq n m v9 v10 pieces1 out3).trans ?_
    rw [DL24_1_succ]
    unfold DF24_1
    (try simp only [ih, S38c39io11_D n hn]) <;> first | with_reducible rfl | rfl
noncomputable def D24 (n : Nat × Nat) (pieces0 : List Int) : Option R24 :=
 (bif decide (0 ≤ (pieces0.length : Int)) && decide ((pieces0.length : Int) ≤ (pieces0.length : Int)) && decide ((pieces0.length : Int) ≤ lim) then DL24_1 n n.1 ((List.replicate (Int.toNat (pieces0.length : Int)) (0 : Int)).length : Int) 0 pieces0 (List.replicate (Int.toNat (pieces0.length : Int)) (0 : Int))
 else none)
theorem S24_D (n : Nat × Nat) (hn : n.2 = 1) : S24 n = D24 n := by
  funext pieces0; refine (S24_eq n pieces0).trans ?_
  unfold D24
  (try simp only [DL24_1_eq n hn, S38c39io11_D n hn]) <;> first | with_reducible rfl | rfl
/-D 9 -/
noncomputable def DF9_1 (n : Nat × Nat) (f1 : Int → List Int → Int → Int → List Int → Option R9) (size0 : Int) (pieces1 : List Int) (v17 : Int) (v18 : Int) (v16 : List Int) : Option R9 :=
 (bif decide (v18 < v17) then (bif inB v18 v16.length then (idx v16 v18).bind fun x3' =>
 (idx ([0, 2, 6, 10, 22, 34, 78, 130, 278, 522, 1062, 2050, 4190, 8194, 16518, 32810, 65814, 131074, 262734, 524290, 1049654, 2097290, 4196358, 8388610, 16781662] : List Int) size0).bind fun x4' =>
 (idx pieces1 x3').bind fun x5' =>
 (bif decide (x5' < 0) then none
 else (bif ((wr .u32 (BitVec.ofInt (IntKind.bits .u32) (Int.fdiv x4' (2 ^ (min (Int.toNat x5') (IntKind.bits .u32)))) &&& BitVec.ofInt (IntKind.bits .u32) 1).toNat) == 0) then some (false, 0)
 else (idx pieces1 x3').bind fun x6' =>
            f1 x6' pieces1 v17 (wr .i64 (v18 + 1)) v16))
 else none)
 else some (true, 0))
noncomputable def DL9_1 (n : Nat × Nat) (m : Nat) : Int → List Int → Int → Int → List Int → Option R9 := Nat.rec (motive := fun _ => Int → List Int → Int → Int → List Int → Option R9) (fun _ _ _ _ _ => none) (fun _ ih => DF9_1 n ih) m
theorem DL9_1_succ (n : Nat × Nat) (m : Nat) : DL9_1 n (m + 1) = DF9_1 n (DL9_1 n m) := rfl
theorem DL9_1_eq (n : Nat × Nat) (hn : n.2 = 1) : ∀ m, L9_1 n m = DL9_1 n m
  | 0 => by funext size0 pieces1 v17 v18 v16; kernel_rfl
  | m + 1 => by
    have ih := DL9_1_eq n hn m
    funext size0 pieces1 v17 v18 v16; refine (L9_1_eq n m size0 pieces1 v17 v18 v16).trans ?_
    rw [DL9_1_succ]
    unfold DF9_1
    (try simp only [ih, S22_D n hn, S24_D n hn]) <;> first | with_reducible rfl | rfl
noncomputable def D9 (n : Nat × Nat) (size0 : Int) (pieces1 : List Int) : Option R9 :=
 (D22 n size0 pieces1).bind fun r1' =>
 (bif (r1' != 0) then some (false, r1')
 else (D24 n pieces1).bind fun r2' =>
      DL9_1 n n.1 size0 pieces1 (r2'.length : Int) 0 r2')
theorem S9_D (n : Nat × Nat) (hn : n.2 = 1) : S9 n = D9 n := by
  funext size0 pieces1; refine (S9_eq n size0 pieces1).trans ?_
  unfold D9
  (try simp only [DL9_1_eq n hn, S22_D n hn, S24_D n hn]) <;> first | with_reducible rfl | rfl
/-D 16 -/
noncomputable def DF16_1 (n : Nat × Nat) (f1 : List Int → List Int → Int → Int → Option R16) (a0 : List Int) (b1 : List Int) (v12 : Int) (v13 : Int) : Option R16 :=
 (bif decide (v13 < v12) then (idx a0 v13).bind fun x1' =>
 (idx b1 v13).bind fun x2' =>
 (bif (x1' != x2') then some false
 else f1 a0 b1 v12 (wr .i64 (v13 + 1)))
 else some true)
noncomputable def DL16_1 (n : Nat × Nat) (m : Nat) : List Int → List Int → Int → Int → Option R16 := Nat.rec (motive := fun _ => List Int → List Int → Int → Int → Option R16) (fun _ _ _ _ => none) (fun _ ih => DF16_1 n ih) m
theorem DL16_1_succ (n : Nat × Nat) (m : Nat) : DL16_1 n (m + 1) = DF16_1 n (DL16_1 n m) := rfl
theorem DL16_1_eq (n : Nat × Nat) (hn : n.2 = 1) : ∀ m, L16_1 n m = DL16_1 n m
  | 0 => by funext a0 b1 v12 v13; kernel_rfl
  | m + 1 => by
    have ih := DL16_1_eq n hn m
    funext a0 b1 v12 v13; refine (L16_1_eq n m a0 b1 v12 v13).trans ?_
    rw [DL16_1_succ]
    unfold DF16_1
    (try simp only [ih]) <;> first | with_reducible rfl | rfl
noncomputable def D16 (n : Nat × Nat) (a0 : List Int) (b1 : List Int) : Option R16 :=
 (bif ((a0.length : Int) != (b1.length : Int)) then some false
 else DL16_1 n n.1 a0 b1 (a0.length : Int) 0)
theorem S16_D (n : Nat × Nat) (hn : n.2 = 1) : S16 n = D16 n := by
  funext a0 b1; refine (S16_eq n a0 b1).trans ?_
  unfold D16
  (try simp only [DL16_1_eq n hn]) <;> first | with_reducible rfl | rfl
/-D 27 -/
noncomputable def DF27_1 (n : Nat × Nat) (f1 : List Int → List Int → Int → Int → Option R27) (coins0 : List Int) (v13 : List Int) (v14 : Int) (v15 : Int) : Option R27 :=
 (bif decide (v15 < v14) then (idx v13 v15).bind fun x1' =>
 ((bif (decide (x1' < 1) == false) then some (decide (x1' > 40))
 else some true)).bind fun b2' =>
 (bif b2' then some 1
 else ((bif (decide (v15 > 0) == true) then (idx coins0 (wr .i64 (v15 - 1))).bind fun x3' =>
 some (decide (x1' ≤ x3'))
 else some false)).bind fun b4' =>
 (bif b4' then some 7
 else f1 coins0 v13 v14 (wr .i64 (v15 + 1))))
 else (idx coins0 0).bind fun x5' =>
 (bif decide (x5' > 1) then some 5
 else some 0))
noncomputable def DL27_1 (n : Nat × Nat) (m : Nat) : List Int → List Int → Int → Int → Option R27 := Nat.rec (motive := fun _ => List Int → List Int → Int → Int → Option R27) (fun _ _ _ _ => none) (fun _ ih => DF27_1 n ih) m
theorem DL27_1_succ (n : Nat × Nat) (m : Nat) : DL27_1 n (m + 1) = DF27_1 n (DL27_1 n m) := rfl
theorem DL27_1_eq (n : Nat × Nat) (hn : n.2 = 1) : ∀ m, L27_1 n m = DL27_1 n m
  | 0 => by funext coins0 v13 v14 v15; kernel_rfl
  | m + 1 => by
    have ih := DL27_1_eq n hn m
    funext coins0 v13 v14 v15; refine (L27_1_eq n m coins0 v13 v14 v15).trans ?_
    rw [DL27_1_succ]
    unfold DF27_1
    (try simp only [ih]) <;> first | with_reducible rfl | rfl
noncomputable def D27 (n : Nat × Nat) (coins0 : List Int) : Option R27 :=
 (bif ((coins0.length : Int) == 0) then some 4
 else (bif decide ((coins0.length : Int) > 6) then some 3
 else DL27_1 n n.1 coins0 coins0 (coins0.length : Int) 0))
theorem S27_D (n : Nat × Nat) (hn : n.2 = 1) : S27 n = D27 n := by
  funext coins0; refine (S27_eq n coins0).trans ?_
  unfold D27
  (try simp only [DL27_1_eq n hn]) <;> first | with_reducible rfl | rfl
/-D 30 -/
noncomputable def DL30_3 (n : Nat × Nat) (f1 : List Int → Int → Int → List Int → Option R30) (f2 : List Int → Int → Int → Int → List Int → Int → Int → List Int → Option R30) (coins0 : List Int) (most1 : Int) (sum6 : Int) (v7 : Int) (v17 : List Int) (v18 : Int) (v19 : Int) (out5 : List Int) : Option R30 :=
    f2 coins0 most1 sum6 v7 v17 v18 (wr .i64 (v19 + 1)) out5
theorem DL30_3_eq (n : Nat × Nat) (hn : n.2 = 1) (m1 m2 : Nat) : L30_3 n m1 m2 = DL30_3 n (L30_1 n m1) (L30_2 n m1 m2) := by
  funext coins0 most1 sum6 v7 v17 v18 v19 out5; refine ((held_eq hn _).trans (L30_3_raw n m1 m2 coins0 most1 sum6 v7 v17 v18 v19 out5)).trans ?_
  unfold DL30_3
  first | with_reducible rfl | rfl
noncomputable def DF30_2 (n : Nat × Nat) (f1 : List Int → Int → Int → List Int → Option R30) (f2 : List Int → Int → Int → Int → List Int → Int → Int → List Int → Option R30) (coins0 : List Int) (most1 : Int) (sum6 : Int) (v7 : Int) (v17 : List Int) (v18 : Int) (v19 : Int) (out5 : List Int) : Option R30 :=
 (bif decide (v19 < v18) then (idx v17 v19).bind fun x1' =>
 (bif decide (x1' ≤ sum6) then (bif inB (wr .i64 (sum6 - x1')) out5.length then (idx out5 (wr .i64 (sum6 - x1'))).bind fun x2' =>
          DL30_3 n f1 f2 coins0 most1 sum6 (if (wr .i64 (1 + x2')) < v7 then (wr .i64 (1 + x2')) else v7) v17 v18 v19 out5
 else none)
 else DL30_3 n f1 f2 coins0 most1 sum6 v7 v17 v18 v19 out5)
 else (bif decide (out5.length + [v7].length ≤ lim) then f1 coins0 most1 (wr .i64 (sum6 + 1)) (out5 ++ [v7])
 else none))
noncomputable def DL30_2 (n : Nat × Nat) (f1 : List Int → Int → Int → List Int → Option R30) (m : Nat) : List Int → Int → Int → Int → List Int → Int → Int → List Int → Option R30 := Nat.rec (motive := fun _ => List Int → Int → Int → Int → List Int → Int → Int → List Int → Option R30) (fun _ _ _ _ _ _ _ _ => none) (fun _ ih => DF30_2 n f1 ih) m
theorem DL30_2_succ (n : Nat × Nat) (f1 : List Int → Int → Int → List Int → Option R30) (m : Nat) : DL30_2 n f1 (m + 1) = DF30_2 n f1 (DL30_2 n f1 m) := rfl
theorem DL30_2_eq (n : Nat × Nat) (hn : n.2 = 1) (m1 : Nat) : ∀ m, L30_2 n m1 m = DL30_2 n (L30_1 n m1) m
  | 0 => by funext coins0 most1 sum6 v7 v17 v18 v19 out5; kernel_rfl
  | m + 1 => by
    have ih := DL30_2_eq n hn m1 m
    funext coins0 most1 sum6 v7 v17 v18 v19 out5; refine (L30_2_eq n m1 m coins0 most1 sum6 v7 v17 v18 v19 out5).trans ?_
    rw [DL30_2_succ]
    unfold DF30_2
    (try simp only [ih, DL30_3_eq n hn]) <;> first | with_reducible rfl | rfl
noncomputable def DF30_1 (n : Nat × Nat) (f1 : List Int → Int → Int → List Int → Option R30) (coins0 : List Int) (most1 : Int) (sum6 : Int) (out5 : List Int) : Option R30 :=
 (bif decide (sum6 ≤ most1) then DL30_2 n f1 n.1 coins0 most1 sum6 sum6 coins0 (coins0.length : Int) 0 out5
 else some out5)
noncomputable def DL30_1 (n : Nat × Nat) (m : Nat) : List Int → Int → Int → List Int → Option R30 := Nat.rec (motive := fun _ => List Int → Int → Int → List Int → Option R30) (fun _ _ _ _ => none) (fun _ ih => DF30_1 n ih) m
theorem DL30_1_succ (n : Nat × Nat) (m : Nat) : DL30_1 n (m + 1) = DF30_1 n (DL30_1 n m) := rfl
theorem DL30_1_eq (n : Nat × Nat) (hn : n.2 = 1) : ∀ m, L30_1 n m = DL30_1 n m
  | 0 => by funext coins0 most1 sum6 out5; kernel_rfl
  | m + 1 => by
    have ih := DL30_1_eq n hn m
    funext coins0 most1 sum6 out5; refine (L30_1_eq n m coins0 most1 sum6 out5).trans ?_
    rw [DL30_1_succ]
    unfold DF30_1
    (try simp only [ih, DL30_3_eq n hn, DL30_2_eq n hn]) <;> first | with_reducible rfl | rfl
noncomputable def D30 (n : Nat × Nat) (coins0 : List Int) (most1 : Int) : Option R30 :=
    DL30_1 n n.1 coins0 most1 1 [0]
theorem S30_D (n : Nat × Nat) (hn : n.2 = 1) : S30 n = D30 n := by
  funext coins0 most1; refine (S30_eq n coins0 most1).trans ?_
  unfold D30
  (try simp only [DL30_3_eq n hn, DL30_2_eq n hn, DL30_1_eq n hn]) <;> first | with_reducible rfl | rfl
/-D 32 -/
noncomputable def D32 (n : Nat × Nat) (coins0 : List Int) (sum1 : Int) : Option R32 := HF32 coins0 sum1
theorem S32_D (n : Nat × Nat) (hn : n.2 = 1) : S32 n = D32 n := by unfold S32 D32; rfl
/-D 28 -/
noncomputable def DF28_1 (n : Nat × Nat) (f1 : List Int → Int → Int → List Int → Option R28) (coins0 : List Int) (v18 : Int) (v19 : Int) (v17 : List Int) : Option R28 :=
 (bif decide (v19 < v18) then (bif inB v19 v17.length then (idx v17 v19).bind fun x3' =>
 (D32 n coins0 v19).bind fun r4' =>
 (bif decide (r4'.2 > x3') then some v19
 else f1 coins0 v18 (wr .i64 (v19 + 1)) v17)
 else none)
 else some 0)
noncomputable def DL28_1 (n : Nat × Nat) (m : Nat) : List Int → Int → Int → List Int → Option R28 := Nat.rec (motive := fun _ => List Int → Int → Int → List Int → Option R28) (fun _ _ _ _ => none) (fun _ ih => DF28_1 n ih) m
theorem DL28_1_succ (n : Nat × Nat) (m : Nat) : DL28_1 n (m + 1) = DF28_1 n (DL28_1 n m) := rfl
theorem DL28_1_eq (n : Nat × Nat) (hn : n.2 = 1) : ∀ m, L28_1 n m = DL28_1 n m
  | 0 => by funext coins0 v18 v19 v17; kernel_rfl
  | m + 1 => by
    have ih := DL28_1_eq n hn m
    funext coins0 v18 v19 v17; refine (L28_1_eq n m coins0 v18 v19 v17).trans ?_
    rw [DL28_1_succ]
    unfold DF28_1
    (try simp only [ih, S30_D n hn, S32_D n hn]) <;> first | with_reducible rfl | rfl
noncomputable def D28 (n : Nat × Nat) (coins0 : List Int) : Option R28 :=
 (idx coins0 (wr .i64 ((coins0.length : Int) - 1))).bind fun x1' =>
 (D30 n coins0 (wr .i64 (2 * x1'))).bind fun r2' =>
    DL28_1 n n.1 coins0 (r2'.length : Int) 0 r2'
theorem S28_D (n : Nat × Nat) (hn : n.2 = 1) : S28 n = D28 n := by
  funext coins0; refine (S28_eq n coins0).trans ?_
  unfold D28
  (try simp only [DL28_1_eq n hn, S30_D n hn, S32_D n hn]) <;> first | with_reducible rfl | rfl
/-D 12 -/
noncomputable def D12 (n : Nat × Nat) (coins0 : List Int) : Option R12 :=
 (D27 n coins0).bind fun r1' =>
 (bif (r1' != 0) then some (false, r1')
 else (D28 n coins0).bind fun r2' =>
 some ((r2' == 0), 0))
theorem S12_D (n : Nat × Nat) (hn : n.2 = 1) : S12 n = D12 n := by
  funext coins0; refine (S12_eq n coins0).trans ?_
  unfold D12
  (try simp only [S27_D n hn, S28_D n hn]) <;> first | with_reducible rfl | rfl
/-D 29 -/
noncomputable def D29 (n : Nat × Nat) (coins0 : List Int) (sum1 : Int) : Option R29 :=
 (D27 n coins0).bind fun r1' =>
 ((bif ((r1' == 0) == true) then ((bif (decide (sum1 < 0) == false) then some (decide (sum1 > 200))
 else some true)).bind fun b2' =>
 some b2'
 else some false)).bind fun b3' =>
 (bif b3' then some 1
 else some r1')
theorem S29_D (n : Nat × Nat) (hn : n.2 = 1) : S29 n = D29 n := by
  funext coins0 sum1; refine (S29_eq n coins0 sum1).trans ?_
  unfold D29
  (try simp only [S27_D n hn]) <;> first | with_reducible rfl | rfl
/-D 31 -/
noncomputable def DF31_1 (n : Nat × Nat) (SS : List Int → Int → Int → Option R31) (f1 : List Int → Int → Int → Int → Int → Option R31) (coins0 : List Int) (sum1 : Int) (many2 : Int) (v7 : Int) (v8 : Int) : Option R31 :=
 ((bif (decide (v8 ≤ many2) == true) then (idx coins0 v7).bind fun x2' =>
 some (decide (wr .i64 (v8 * x2') ≤ sum1))
 else some false)).bind fun b3' =>
 (bif b3' then (bif bounds none (some v7) none coins0.length then (idx coins0 v7).bind fun x4' =>
 (SS (coins0.take (Int.toNat v7)) (wr .i64 (sum1 - (wr .i64 (v8 * x4')))) (wr .i64 (many2 - v8))).bind fun r5' =>
 (bif r5' then some true
 else f1 coins0 sum1 many2 v7 (wr .i64 (v8 + 1)))
 else none)
 else some false)
noncomputable def DL31_1 (n : Nat × Nat) (SS : List Int → Int → Int → Option R31) (m : Nat) : List Int → Int → Int → Int → Int → Option R31 := Nat.rec (motive := fun _ => List Int → Int → Int → Int → Int → Option R31) (fun _ _ _ _ _ => none) (fun _ ih => DF31_1 n SS ih) m
theorem DL31_1_succ (n : Nat × Nat) (SS : List Int → Int → Int → Option R31) (m : Nat) : DL31_1 n SS (m + 1) = DF31_1 n SS (DL31_1 n SS m) := rfl
theorem DL31_1_eq (n : Nat × Nat) (hn : n.2 = 1) (SS : List Int → Int → Int → Option R31) : ∀ m, L31_1 n SS m = DL31_1 n SS m
  | 0 => by funext coins0 sum1 many2 v7 v8; kernel_rfl
  | m + 1 => by
    have ih := DL31_1_eq n hn SS m
    funext coins0 sum1 many2 v7 v8; refine (L31_1_eq n SS m coins0 sum1 many2 v7 v8).trans ?_
    rw [DL31_1_succ]
    unfold DF31_1
    (try simp only [ih]) <;> first | with_reducible rfl | rfl
noncomputable def DB31 (n : Nat × Nat) (SS : List Int → Int → Int → Option R31) (coins0 : List Int) (sum1 : Int) (many2 : Int) : Option R31 :=
 (bif ((coins0.length : Int) == 0) then ((bif ((sum1 == 0) == true) then some (many2 == 0)
 else some false)).bind fun b1' =>
 some b1'
 else DL31_1 n SS n.1 coins0 sum1 many2 (wr .i64 ((coins0.length : Int) - 1)) 0)
theorem DB31_eq (n : Nat × Nat) (hn : n.2 = 1) (SS : List Int → Int → Int → Option R31) : B31 n SS = DB31 n SS := by
  funext coins0 sum1 many2; refine (B31_eq n SS coins0 sum1 many2).trans ?_
  unfold DB31
  (try simp only [DL31_1_eq n hn SS]) <;> first | with_reducible rfl | rfl
noncomputable def DT31 (n : Nat × Nat) (d : Nat) : List Int → Int → Int → Option R31 := Nat.rec (motive := fun _ => List Int → Int → Int → Option R31) (fun _ _ _ => none) (fun _ ih => DB31 n ih) d
theorem DT31_succ (n : Nat × Nat) (d : Nat) : DT31 n (d + 1) = DB31 n (DT31 n d) := rfl
theorem DT31_eq (n : Nat × Nat) (hn : n.2 = 1) : ∀ d, T31 n d = DT31 n d
  | 0 => rfl
  | d + 1 => by
    funext coins0 sum1 many2
    rw [T31_eq, DT31_eq n hn d, DB31_eq n hn, DT31_succ]
noncomputable def D31 (n : Nat × Nat) (coins0 : List Int) (sum1 : Int) (many2 : Int) : Option R31 := DT31 n n.1 coins0 sum1 many2
theorem S31_D (n : Nat × Nat) (hn : n.2 = 1) : S31 n = D31 n := by
  funext coins0 sum1 many2; unfold S31 D31; rw [DT31_eq n hn]
/-D 13 -/
noncomputable def DF13_2 (n : Nat × Nat) (f1 : List Int → Int → Int → List Int → Int → Int → List Int → Option R13) (f2 : List Int → Int → Int → Int → List Int → Int → List Int → Int → Int → List Int → Option R13) (coins0 : List Int) (sum1 : Int) (left7 : Int) (c10 : Int) (v11 : List Int) (v12 : Int) (v25 : List Int) (v26 : Int) (v27 : Int) (out8 : List Int) : Option R13 :=
 ((bif (decide (v12 < left7) == true) then (D31 n v11 (wr .i64 (sum1 - (wr .i64 (v12 * c10)))) (wr .i64 (left7 - v12))).bind fun r5' =>
 some (!r5')
 else some false)).bind fun b6' =>
 (bif b6' then f2 coins0 sum1 left7 c10 v11 (wr .i64 (v12 + 1)) v25 v26 v27 out8
 else (bif decide (out8.length + [v12].length ≤ lim) then f1 coins0 (wr .i64 (sum1 - (wr .i64 (v12 * c10)))) (wr .i64 (left7 - v12)) v25 v26 (wr .i64 (v27 + 1)) (out8 ++ [v12])
 else none))
noncomputable def DL13_2 (n : Nat × Nat) (f1 : List Int → Int → Int → List Int → Int → Int → List Int → Option R13) (m : Nat) : List Int → Int → Int → Int → List Int → Int → List Int → Int → Int → List Int → Option R13 := Nat.rec (motive := fun _ => List Int → Int → Int → Int → List Int → Int → List Int → Int → Int → List Int → Option R13) (fun _ _ _ _ _ _ _ _ _ _ => none) (fun _ ih => DF13_2 n f1 ih) m
theorem DL13_2_succ (n : Nat × Nat) (f1 : List Int → Int → Int → List Int → Int → Int → List Int → Option R13) (m : Nat) : DL13_2 n f1 (m + 1) = DF13_2 n f1 (DL13_2 n f1 m) := rfl
theorem DL13_2_eq (n : Nat × Nat) (hn : n.2 = 1) (m1 : Nat) : ∀ m, L13_2 n m1 m = DL13_2 n (L13_1 n m1) m
  | 0 => by funext coins0 sum1 left7 c10 v11 v12 v25 v26 v27 out8; kernel_rfl
  | m + 1 => by
    have ih := DL13_2_eq n hn m1 m
    funext coins0 sum1 left7 c10 v11 v12 v25 v26 v27 out8; refine (L13_2_eq n m1 m coins0 sum1 left7 c10 v11 v12 v25 v26 v27 out8).trans ?_
    rw [DL13_2_succ]
    unfold DF13_2
    (try simp only [ih, S29_D n hn, S30_D n hn, S31_D n hn]) <;> first | with_reducible rfl | rfl
noncomputable def DF13_1 (n : Nat × Nat) (f1 : List Int → Int → Int → List Int → Int → Int → List Int → Option R13) (coins0 : List Int) (sum1 : Int) (left7 : Int) (v25 : List Int) (v26 : Int) (v27 : Int) (out8 : List Int) : Option R13 :=
 (bif decide (v27 < v26) then (idx v25 v27).bind fun x4' =>
 (bif bounds (some (wr .i64 (v27 + 1))) none none coins0.length then DL13_2 n f1 n.1 coins0 sum1 left7 x4' (coins0.drop (Int.toNat (wr .i64 (v27 + 1)))) 0 v25 v26 v27 out8
 else none)
 else some (out8, 0))
noncomputable def DL13_1 (n : Nat × Nat) (m : Nat) : List Int → Int → Int → List Int → Int → Int → List Int → Option R13 := Nat.rec (motive := fun _ => List Int → Int → Int → List Int → Int → Int → List Int → Option R13) (fun _ _ _ _ _ _ _ => none) (fun _ ih => DF13_1 n ih) m
theorem DL13_1_succ (n : Nat × Nat) (m : Nat) : DL13_1 n (m + 1) = DF13_1 n (DL13_1 n m) := rfl
theorem DL13_1_eq (n : Nat × Nat) (hn : n.2 = 1) : ∀ m, L13_1 n m = DL13_1 n m
  | 0 => by funext coins0 sum1 left7 v25 v26 v27 out8; kernel_rfl
  | m + 1 => by
    have ih := DL13_1_eq n hn m
    funext coins0 sum1 left7 v25 v26 v27 out8; refine (L13_1_eq n m coins0 sum1 left7 v25 v26 v27 out8).trans ?_
    rw [DL13_1_succ]
    unfold DF13_1
    (try simp only [ih, DL13_2_eq n hn, S29_D n hn, S30_D n hn, S31_D n hn]) <;> first | with_reducible rfl | rfl
noncomputable def D13 (n : Nat × Nat) (coins0 : List Int) (sum1 : Int) : Option R13 :=
 (D29 n coins0 sum1).bind fun r1' =>
 (bif (r1' != 0) then some ([], r1')
 else (D30 n coins0 sum1).bind fun r2' =>
 (bif inB sum1 r2'.length then (idx r2' sum1).bind fun x3' =>
        DL13_1 n n.1 coins0 sum1 x3' coins0 (coins0.length : Int) 0 []
 else none))
theorem S13_D (n : Nat × Nat) (hn : n.2 = 1) : S13 n = D13 n := by
  funext coins0 sum1; refine (S13_eq n coins0 sum1).trans ?_
  unfold D13
  (try simp only [DL13_2_eq n hn, DL13_1_eq n hn, S29_D n hn, S30_D n hn, S31_D n hn]) <;> first | with_reducible rfl | rfl
/-D 14 -/
noncomputable def D14 (n : Nat × Nat) (coins0 : List Int) (sum1 : Int) : Option R14 :=
 (D29 n coins0 sum1).bind fun r1' =>
 (bif (r1' != 0) then some ([], r1')
 else (D32 n coins0 sum1).bind fun r2' =>
 some (r2'.1, 0))
theorem S14_D (n : Nat × Nat) (hn : n.2 = 1) : S14 n = D14 n := by
  funext coins0 sum1; refine (S14_eq n coins0 sum1).trans ?_
  unfold D14
  (try simp only [S29_D n hn, S32_D n hn]) <;> first | with_reducible rfl | rfl
/-D 15 -/
noncomputable def D15 (n : Nat × Nat) (coins0 : List Int) (sum1 : Int) : Option R15 :=
 (D29 n coins0 sum1).bind fun r1' =>
 (bif (r1' != 0) then some (0, r1')
 else (D30 n coins0 sum1).bind fun r2' =>
 (bif inB sum1 r2'.length then (idx r2' sum1).bind fun x3' =>
 some (x3', 0)
 else none))
theorem S15_D (n : Nat × Nat) (hn : n.2 = 1) : S15 n = D15 n := by
  funext coins0 sum1; refine (S15_eq n coins0 sum1).trans ?_
  unfold D15
  (try simp only [S29_D n hn, S30_D n hn]) <;> first | with_reducible rfl | rfl
/-D 18 -/
noncomputable def DF18_1 (n : Nat × Nat) (f1 : (List (Int × Int)) → Int → Int → (List (Int × Int)) → Int → Int → Option R18) (v16 : List (Int × Int)) (v17 : Int) (v18 : Int) (b1_0 : List (Int × Int)) (b1_1 : Int) (b1_2 : Int) : Option R18 :=
 (bif decide (v18 < v17) then (idx v16 v18).bind fun x1' =>
 ((bif (decide ((if x1'.2 < x1'.1 then x1'.2 else x1'.1) < 1) == false) then some (decide ((if x1'.2 > x1'.1 then x1'.2 else x1'.1) > 30))
 else some true)).bind fun b2' =>
 (bif b2' then some 1
 else (bif decide (x1'.1 > x1'.2) then some 7
 else f1 v16 v17 (wr .i64 (v18 + 1)) b1_0 b1_1 b1_2))
 else ((bif (decide (b1_1 < 1) == false) then some (decide (b1_1 > 100))
 else some true)).bind fun b3' =>
 ((bif (b3' == false) then some (decide (b1_2 < 0))
 else some true)).bind fun b4' =>
 ((bif (b4' == false) then some (decide (b1_2 > b1_1))
 else some true)).bind fun b5' =>
 (bif b5' then some 1
 else some 0))
noncomputable def DL18_1 (n : Nat × Nat) (m : Nat) : (List (Int × Int)) → Int → Int → (List (Int × Int)) → Int → Int → Option R18 := Nat.rec (motive := fun _ => (List (Int × Int)) → Int → Int → (List (Int × Int)) → Int → Int → Option R18) (fun _ _ _ _ _ _ => none) (fun _ ih => DF18_1 n ih) m
theorem DL18_1_succ (n : Nat × Nat) (m : Nat) : DL18_1 n (m + 1) = DF18_1 n (DL18_1 n m) := rfl
theorem DL18_1_eq (n : Nat × Nat) (hn : n.2 = 1) : ∀ m, L18_1 n m = DL18_1 n m
  | 0 => by funext v16 v17 v18 b1_0 b1_1 b1_2; kernel_rfl
  | m + 1 => by
    have ih := DL18_1_eq n hn m
    funext v16 v17 v18 b1_0 b1_1 b1_2; refine (L18_1_eq n m v16 v17 v18 b1_0 b1_1 b1_2).trans ?_
    rw [DL18_1_succ]
    unfold DF18_1
    (try simp only [ih]) <;> first | with_reducible rfl | rfl
noncomputable def D18 (n : Nat × Nat) (b0 : (List (Int × Int)) × Int × Int) : Option R18 :=
 (bif ((b0.1.length : Int) == 0) then some 4
 else (bif decide ((b0.1.length : Int) > 12) then some 3
 else DL18_1 n n.1 b0.1 (b0.1.length : Int) 0 b0.1 b0.2.1 b0.2.2))
theorem S18_D (n : Nat × Nat) (hn : n.2 = 1) : S18 n = D18 n := by
  funext b0; refine (S18_eq n b0).trans ?_
  unfold D18
  (try simp only [DL18_1_eq n hn]) <;> first | with_reducible rfl | rfl
/-D 20 -/
noncomputable def D20 (n : Nat × Nat) (a0 : Int × Int) : Option R20 :=
 some a0.2
theorem S20_D (n : Nat × Nat) (hn : n.2 = 1) : S20 n = D20 n := by
  funext a0; refine (S20_eq n a0).trans ?_
  unfold D20
  first | with_reducible rfl | rfl
/-D 19c20 -/
noncomputable def DF19c20_1 (n : Nat × Nat) (f1 : (List (Int × Int)) → Int → Int → List Int → Option R19c20) (v10 : List (Int × Int)) (v11 : Int) (v12 : Int) (out5 : List Int) : Option R19c20 :=
 (bif decide (v12 < v11) then (idx v10 v12).bind fun x1' =>
 (bif inB (wr .i64 ((out5.length : Int) - 1)) out5.length then (idx out5 (wr .i64 ((out5.length : Int) - 1))).bind fun x2' =>
 (D20 n x1').bind fun r3' =>
 (bif decide (out5.length + [wr .i64 (x2' + r3')].length ≤ lim) then f1 v10 v11 (wr .i64 (v12 + 1)) (out5 ++ [wr .i64 (x2' + r3')])
 else none)
 else none)
 else some out5)
noncomputable def DL19c20_1 (n : Nat × Nat) (m : Nat) : (List (Int × Int)) → Int → Int → List Int → Option R19c20 := Nat.rec (motive := fun _ => (List (Int × Int)) → Int → Int → List Int → Option R19c20) (fun _ _ _ _ => none) (fun _ ih => DF19c20_1 n ih) m
theorem DL19c20_1_succ (n : Nat × Nat) (m : Nat) : DL19c20_1 n (m + 1) = DF19c20_1 n (DL19c20_1 n m) := rfl
theorem DL19c20_1_eq (n : Nat × Nat) (hn : n.2 = 1) : ∀ m, L19c20_1 n m = DL19c20_1 n m
  | 0 => by funext v10 v11 v12 out5; kernel_rfl
  | m + 1 => by
    have ih := DL19c20_1_eq n hn m
    funext v10 v11 v12 out5; refine (L19c20_1_eq n m v10 v11 v12 out5).trans ?_
    rw [DL19c20_1_succ]
    unfold DF19c20_1
    (try simp only [ih, S20_D n hn]) <;> first | with_reducible rfl | rfl
noncomputable def D19c20 (n : Nat × Nat) (b0 : (List (Int × Int)) × Int × Int) : Option R19c20 :=
    DL19c20_1 n n.1 b0.1 (b0.1.length : Int) 0 [0]
theorem S19c20_D (n : Nat × Nat) (hn : n.2 = 1) : S19c20 n = D19c20 n := by
  funext b0; refine (S19c20_eq n b0).trans ?_
  unfold D19c20
  (try simp only [DL19c20_1_eq n hn, S20_D n hn]) <;> first | with_reducible rfl | rfl
/-D 33 -/
noncomputable def D33 (n : Nat × Nat) (l0 : List Int) (begin1 : Int) (v2 : Int) : Option R33 :=
 (idx l0 v2).bind fun x1' =>
 (idx l0 begin1).bind fun x2' =>
 some (wr .i64 (x1' - x2'))
theorem S33_D (n : Nat × Nat) (hn : n.2 = 1) : S33 n = D33 n := by
  funext l0 begin1 v2; refine (S33_eq n l0 begin1 v2).trans ?_
  unfold D33
  first | with_reducible rfl | rfl
/-D 21 -/
noncomputable def DL21_2 (n : Nat × Nat) (f1 : List Int → Int → Int → Int → List Int → Option R21) (l0 : List Int) (room1 : Int) (begin6 : Int) (v7 : Int) (out5 : List Int) : Option R21 :=
    f1 l0 room1 begin6 (wr .i64 (v7 + 1)) out5
theorem DL21_2_eq (n : Nat × Nat) (hn : n.2 = 1) (m1 : Nat) : L21_2 n m1 = DL21_2 n (L21_1 n m1) := by
  funext l0 room1 begin6 v7 out5; refine ((held_eq hn _).trans (L21_2_raw n m1 l0 room1 begin6 v7 out5)).trans ?_
  unfold DL21_2
  (try simp only [S33_D n hn]) <;> first | with_reducible rfl | rfl
noncomputable def DF21_1 (n : Nat × Nat) (f1 : List Int → Int → Int → Int → List Int → Option R21) (l0 : List Int) (room1 : Int) (begin6 : Int) (v7 : Int) (out5 : List Int) : Option R21 :=
 (bif decide (v7 < (l0.length : Int)) then (D33 n l0 (wr .i64 (v7 - 1)) v7).bind fun r1' =>
 (bif decide (r1' > room1) then some []
 else (D33 n l0 begin6 v7).bind fun r2' =>
 (bif decide (r2' > room1) then (bif decide (out5.length + [wr .i64 (v7 - 1)].length ≤ lim) then DL21_2 n f1 l0 room1 (wr .i64 (v7 - 1)) v7 (out5 ++ [wr .i64 (v7 - 1)])
 else none)
 else DL21_2 n f1 l0 room1 begin6 v7 out5))
 else (bif decide (out5.length + [wr .i64 ((l0.length : Int) - 1)].length ≤ lim) then some (out5 ++ [wr .i64 ((l0.length : Int) - 1)])
 else none))
noncomputable def DL21_1 (n : Nat × Nat) (m : Nat) : List Int → Int → Int → Int → List Int → Option R21 := Nat.rec (motive := fun _ => List Int → Int → Int → Int → List Int → Option R21) (fun _ _ _ _ _ => none) (fun _ ih => DF21_1 n ih) m
theorem DL21_1_succ (n : Nat × Nat) (m : Nat) : DL21_1 n (m + 1) = DF21_1 n (DL21_1 n m) := rfl
theorem DL21_1_eq (n : Nat × Nat) (hn : n.2 = 1) : ∀ m, L21_1 n m = DL21_1 n m
  | 0 => by funext l0 room1 begin6 v7 out5; kernel_rfl
  | m + 1 => by
    have ih := DL21_1_eq n hn m
    funext l0 room1 begin6 v7 out5; refine (L21_1_eq n m l0 room1 begin6 v7 out5).trans ?_
    rw [DL21_1_succ]
    unfold DF21_1
    (try simp only [ih, DL21_2_eq n hn, S33_D n hn]) <;> first | with_reducible rfl | rfl
noncomputable def D21 (n : Nat × Nat) (l0 : List Int) (room1 : Int) : Option R21 :=
    DL21_1 n n.1 l0 room1 0 1 []
theorem S21_D (n : Nat × Nat) (hn : n.2 = 1) : S21 n = D21 n := by
  funext l0 room1; refine (S21_eq n l0 room1).trans ?_
  unfold D21
  (try simp only [DL21_2_eq n hn, DL21_1_eq n hn, S33_D n hn]) <;> first | with_reducible rfl | rfl
/-D 25 -/
noncomputable def DF25_1 (n : Nat × Nat) (f1 : Int → Int → Int → List Int → Option R25) (volumes1 : Int) (low8 : Int) (high9 : Int) (l7 : List Int) : Option R25 :=
 (bif decide (low8 < high9) then (bif 2 == 0 then none
 else (D21 n l7 (wr .i64 (Int.tdiv (wr .i64 (low8 + high9)) 2))).bind fun r5' =>
 ((bif ((!r5'.isEmpty) == true) then some (decide ((r5'.length : Int) ≤ volumes1))
 else some false)).bind fun b6' =>
 (bif b6' then f1 volumes1 low8 (wr .i64 (Int.tdiv (wr .i64 (low8 + high9)) 2)) l7
 else f1 volumes1 (wr .i64 ((wr .i64 (Int.tdiv (wr .i64 (low8 + high9)) 2)) + 1)) high9 l7))
 else some (low8, 0))
noncomputable def DL25_1 (n : Nat × Nat) (m : Nat) : Int → Int → Int → List Int → Option R25 := Nat.rec (motive := fun _ => Int → Int → Int → List Int → Option R25) (fun _ _ _ _ => none) (fun _ ih => DF25_1 n ih) m
theorem DL25_1_succ (n : Nat × Nat) (m : Nat) : DL25_1 n (m + 1) = DF25_1 n (DL25_1 n m) := rfl
theorem DL25_1_eq (n : Nat × Nat) (hn : n.2 = 1) : ∀ m, L25_1 n m = DL25_1 n m
  | 0 => by funext volumes1 low8 high9 l7; kernel_rfl
  | m + 1 => by
    have ih := DL25_1_eq n hn m
    funext volumes1 low8 high9 l7; refine (L25_1_eq n m volumes1 low8 high9 l7).trans ?_
    rw [DL25_1_succ]
    unfold DF25_1
    (try simp only [ih, S18_D n hn, S19c20_D n hn, S21_D n hn]) <;> first | with_reducible rfl | rfl
noncomputable def D25 (n : Nat × Nat) (b0 : (List (Int × Int)) × Int × Int) (volumes1 : Int) : Option R25 :=
 (D18 n b0).bind fun r1' =>
 (bif (r1' != 0) then some (0, r1')
 else ((bif (decide (volumes1 < 1) == false) then some (decide (volumes1 > (b0.1.length : Int)))
 else some true)).bind fun b2' =>
 (bif b2' then some (0, 1)
 else (D19c20 n b0).bind fun r3' =>
 (bif inB (wr .i64 ((r3'.length : Int) - 1)) r3'.length then (idx r3' (wr .i64 ((r3'.length : Int) - 1))).bind fun x4' =>
          DL25_1 n n.1 volumes1 1 x4' r3'
 else none)))
theorem S25_D (n : Nat × Nat) (hn : n.2 = 1) : S25 n = D25 n := by
  funext b0 volumes1; refine (S25_eq n b0 volumes1).trans ?_
  unfold D25
  (try simp only [DL25_1_eq n hn, S18_D n hn, S19c20_D n hn, S21_D n hn]) <;> first | with_reducible rfl | rfl
/-D 46 -/
noncomputable def DF46_1 (n : Nat × Nat) (f1 : (List (Int × Int)) → Int → Int → Option R46) (v13 : List (Int × Int)) (v14 : Int) (v15 : Int) : Option R46 :=
 (bif decide (v15 < v14) then (idx v13 v15).bind fun x1' =>
 ((bif (decide (x1'.1 < 0) == false) then some (decide (x1'.1 > 100))
 else some true)).bind fun b2' =>
 ((bif (b2' == false) then some (decide (x1'.2 < 1))
 else some true)).bind fun b3' =>
 ((bif (b3' == false) then some (decide (x1'.2 > 9))
 else some true)).bind fun b4' =>
 (bif b4' then some 1
 else f1 v13 v14 (wr .i64 (v15 + 1)))
 else some 0)
noncomputable def DL46_1 (n : Nat × Nat) (m : Nat) : (List (Int × Int)) → Int → Int → Option R46 := Nat.rec (motive := fun _ => (List (Int × Int)) → Int → Int → Option R46) (fun _ _ _ => none) (fun _ ih => DF46_1 n ih) m
theorem DL46_1_succ (n : Nat × Nat) (m : Nat) : DL46_1 n (m + 1) = DF46_1 n (DL46_1 n m) := rfl
theorem DL46_1_eq (n : Nat × Nat) (hn : n.2 = 1) : ∀ m, L46_1 n m = DL46_1 n m
  | 0 => by funext v13 v14 v15; kernel_rfl
  | m + 1 => by
    have ih := DL46_1_eq n hn m
    funext v13 v14 v15; refine (L46_1_eq n m v13 v14 v15).trans ?_
    rw [DL46_1_succ]
    unfold DF46_1
    (try simp only [ih]) <;> first | with_reducible rfl | rfl
noncomputable def D46 (n : Nat × Nat) (l0 : List (Int × Int)) : Option R46 :=
 (bif ((l0.length : Int) == 0) then some 4
 else (bif decide ((l0.length : Int) > 8) then some 3
 else DL46_1 n n.1 l0 (l0.length : Int) 0))
theorem S46_D (n : Nat × Nat) (hn : n.2 = 1) : S46 n = D46 n := by
  funext l0; refine (S46_eq n l0).trans ?_
  unfold D46
  (try simp only [DL46_1_eq n hn]) <;> first | with_reducible rfl | rfl
/-D 62 -/
noncomputable def D62 (n : Nat × Nat) (x0 : Int) : Option R62 :=
 some (x0 != x0)
theorem S62_D (n : Nat × Nat) (hn : n.2 = 1) : S62 n = D62 n := by
  funext x0; refine (S62_eq n x0).trans ?_
  unfold D62
  first | with_reducible rfl | rfl
/-D 54 -/
noncomputable def D54 (n : Nat × Nat) (x0 : Int) (y1 : Int) : Option R54 :=
 (D62 n x0).bind fun r1' =>
 (D62 n y1).bind fun r2' =>
 (bif r1' then (bif r2' then some 0
 else some (-1))
 else (bif r2' then some 1
 else (bif decide (x0 < y1) then some (-1)
 else (bif decide (x0 > y1) then some 1
 else some 0))))
theorem S54_D (n : Nat × Nat) (hn : n.2 = 1) : S54 n = D54 n := by
  funext x0 y1; refine (S54_eq n x0 y1).trans ?_
  unfold D54
  (try simp only [S62_D n hn]) <;> first | with_reducible rfl | rfl
/-D 47 -/
noncomputable def DF47_1 (n : Nat × Nat) (f1 : List Int → List Int → List Int → Int → Int → Option R47) (s10 : List Int) (s21 : List Int) (v9 : List Int) (v10 : Int) (v11 : Int) : Option R47 :=
 (bif decide (v11 < v10) then (idx v9 v11).bind fun x1' =>
 (bif decide (v11 ≥ (s21.length : Int)) then some 1
 else (idx s21 v11).bind fun x2' =>
 (D54 n x1' x2').bind fun r3' =>
 (bif (r3' != 0) then some r3'
 else f1 s10 s21 v9 v10 (wr .i64 (v11 + 1))))
 else (bif decide ((s10.length : Int) < (s21.length : Int)) then some (-1)
 else some 0))
noncomputable def DL47_1 (n : Nat × Nat) (m : Nat) : List Int → List Int → List Int → Int → Int → Option R47 := Nat.rec (motive := fun _ => List Int → List Int → List Int → Int → Int → Option R47) (fun _ _ _ _ _ => none) (fun _ ih => DF47_1 n ih) m
theorem DL47_1_succ (n : Nat × Nat) (m : Nat) : DL47_1 n (m + 1) = DF47_1 n (DL47_1 n m) := rfl
theorem DL47_1_eq (n : Nat × Nat) (hn : n.2 = 1) : ∀ m, L47_1 n m = DL47_1 n m
  | 0 => by funext s10 s21 v9 v10 v11; kernel_rfl
  | m + 1 => by
    have ih := DL47_1_eq n hn m
    funext s10 s21 v9 v10 v11; refine (L47_1_eq n m s10 s21 v9 v10 v11).trans ?_
    rw [DL47_1_succ]
    unfold DF47_1
    (try simp only [ih, S54_D n hn]) <;> first | with_reducible rfl | rfl
noncomputable def D47 (n : Nat × Nat) (s10 : List Int) (s21 : List Int) : Option R47 :=
    DL47_1 n n.1 s10 s21 s10 (s10.length : Int) 0
theorem S47_D (n : Nat × Nat) (hn : n.2 = 1) : S47 n = D47 n := by
  funext s10 s21; refine (S47_eq n s10 s21).trans ?_
  unfold D47
  (try simp only [DL47_1_eq n hn, S54_D n hn]) <;> first | with_reducible rfl | rfl
/-D 40 -/
noncomputable def DL40_3 (n : Nat × Nat) (f1 : (List (Int × Int)) → Int → Int → List Int → Option R40) (f2 : (List (Int × Int)) → Int → Int → Bool → Int → Int → (List (Int × Int)) → Int → Int → List Int → List Int → Option R40) (l0 : List (Int × Int)) (v6 : Int) (v8 : Int) (good9 : Bool) (v19 : Int) (v20 : Int) (v23 : List (Int × Int)) (v24 : Int) (v25 : Int) (best5 : List Int) (out7 : List Int) : Option R40 :=
    f2 l0 v6 v8 good9 v19 v20 v23 v24 (wr .i64 (v25 + 1)) best5 out7
theorem DL40_3_eq (n : Nat × Nat) (hn : n.2 = 1) (m1 m2 : Nat) : L40_3 n m1 m2 = DL40_3 n (L40_1 n m1) (L40_2 n m1 m2) := by
  funext l0 v6 v8 good9 v19 v20 v23 v24 v25 best5 out7; refine ((held_eq hn _).trans (L40_3_raw n m1 m2 l0 v6 v8 good9 v19 v20 v23 v24 v25 best5 out7)).trans ?_
  unfold DL40_3
  (try simp only [S46_D n hn, S47_D n hn]) <;> first | with_reducible rfl | rfl
noncomputable def DL40_4 (n : Nat × Nat) (f1 : (List (Int × Int)) → Int → Int → List Int → Option R40) (l0 : List (Int × Int)) (v19 : Int) (v20 : Int) (best5 : List Int) : Option R40 :=
    f1 l0 v19 (wr .i64 (v20 + 1)) best5
theorem DL40_4_eq (n : Nat × Nat) (hn : n.2 = 1) (m1 : Nat) : L40_4 n m1 = DL40_4 n (L40_1 n m1) := by
  funext l0 v19 v20 best5; refine ((held_eq hn _).trans (L40_4_raw n m1 l0 v19 v20 best5)).trans ?_
  unfold DL40_4
  (try simp only [DL40_3_eq n hn, S46_D n hn, S47_D n hn]) <;> first | with_reducible rfl | rfl
noncomputable def DF40_2 (n : Nat × Nat) (f1 : (List (Int × Int)) → Int → Int → List Int → Option R40) (f2 : (List (Int × Int)) → Int → Int → Bool → Int → Int → (List (Int × Int)) → Int → Int → List Int → List Int → Option R40) (l0 : List (Int × Int)) (v6 : Int) (v8 : Int) (good9 : Bool) (v19 : Int) (v20 : Int) (v23 : List (Int × Int)) (v24 : Int) (v25 : Int) (best5 : List Int) (out7 : List Int) : Option R40 :=
 (bif decide (v25 < v24) then (idx v23 v25).bind fun x2' =>
 (bif decide (v25 < 0) then none
 else (bif ((wr .i64 (BitVec.ofInt (IntKind.bits .i64) (Int.fdiv v6 (2 ^ (min (Int.toNat v25) (IntKind.bits .i64)))) &&& BitVec.ofInt (IntKind.bits .i64) 1).toNat) == 1) then (bif decide (out7.length + [v25].length ≤ lim) then DL40_3 n f1 f2 l0 v6 v8 good9 v19 v20 v23 v24 v25 best5 (out7 ++ [v25])
 else none)
 else ((bif (good9 == true) then some (decide (x2'.1 ≥ v8))
 else some false)).bind fun b3' =>
          DL40_3 n f1 f2 l0 v6 x2'.1 b3' v19 v20 v23 v24 v25 best5 out7))
 else ((bif (good9 == true) then ((bif (best5.isEmpty == false) then some (decide ((out7.length : Int) < (best5.length : Int)))
 else some true)).bind fun b4' =>
 ((bif (b4' == false) then ((bif (((out7.length : Int) == (best5.length : Int)) == true) then (D47 n out7 best5).bind fun r5' =>
 some (decide (r5' < 0))
 else some false)).bind fun b6' =>
 some b6'
 else some true)).bind fun b7' =>
 some b7'
 else some false)).bind fun b8' =>
 (bif b8' then (bif out7.isEmpty then some ([], 0)
 else DL40_4 n f1 l0 v19 v20 out7)
 else DL40_4 n f1 l0 v19 v20 best5))
noncomputable def DL40_2 (n : Nat × Nat) (f1 : (List (Int × Int)) → Int → Int → List Int → Option R40) (m : Nat) : (List (Int × Int)) → Int → Int → Bool → Int → Int → (List (Int × Int)) → Int → Int → List Int → List Int → Option R40 := Nat.rec (motive := fun _ => (List (Int × Int)) → Int → Int → Bool → Int → Int → (List (Int × Int)) → Int → Int → List Int → List Int → Option R40) (fun _ _ _ _ _ _ _ _ _ _ _ => none) (fun _ ih => DF40_2 n f1 ih) m
theorem DL40_2_succ (n : Nat × Nat) (f1 : (List (Int × Int)) → Int → Int → List Int → Option R40) (m : Nat) : DL40_2 n f1 (m + 1) = DF40_2 n f1 (DL40_2 n f1 m) := rfl
theorem DL40_2_eq (n : Nat × Nat) (hn : n.2 = 1) (m1 : Nat) : ∀ m, L40_2 n m1 m = DL40_2 n (L40_1 n m1) m
  | 0 => by funext l0 v6 v8 good9 v19 v20 v23 v24 v25 best5 out7; kernel_rfl
  | m + 1 => by
    have ih := DL40_2_eq n hn m1 m
    funext l0 v6 v8 good9 v19 v20 v23 v24 v25 best5 out7; refine (L40_2_eq n m1 m l0 v6 v8 good9 v19 v20 v23 v24 v25 best5 out7).trans ?_
    rw [DL40_2_succ]
    unfold DF40_2
    (try simp only [ih, DL40_3_eq n hn, DL40_4_eq n hn, S46_D n hn, S47_D n hn]) <;> first | with_reducible rfl | rfl
noncomputable def DF40_1 (n : Nat × Nat) (f1 : (List (Int × Int)) → Int → Int → List Int → Option R40) (l0 : List (Int × Int)) (v19 : Int) (v20 : Int) (best5 : List Int) : Option R40 :=
 (bif decide (v20 < v19) then DL40_2 n f1 n.1 l0 v20 (-1) true v19 v20 l0 (l0.length : Int) 0 best5 []
 else some (best5, 0))
noncomputable def DL40_1 (n : Nat × Nat) (m : Nat) : (List (Int × Int)) → Int → Int → List Int → Option R40 := Nat.rec (motive := fun _ => (List (Int × Int)) → Int → Int → List Int → Option R40) (fun _ _ _ _ => none) (fun _ ih => DF40_1 n ih) m
theorem DL40_1_succ (n : Nat × Nat) (m : Nat) : DL40_1 n (m + 1) = DF40_1 n (DL40_1 n m) := rfl
theorem DL40_1_eq (n : Nat × Nat) (hn : n.2 = 1) : ∀ m, L40_1 n m = DL40_1 n m
  | 0 => by funext l0 v19 v20 best5; kernel_rfl
  | m + 1 => by
    have ih := DL40_1_eq n hn m
    funext l0 v19 v20 best5; refine (L40_1_eq n m l0 v19 v20 best5).trans ?_
    rw [DL40_1_succ]
    unfold DF40_1
    (try simp only [ih, DL40_3_eq n hn, DL40_4_eq n hn, DL40_2_eq n hn, S46_D n hn, S47_D n hn]) <;> first | with_reducible rfl | rfl
noncomputable def D40 (n : Nat × Nat) (l0 : List (Int × Int)) : Option R40 :=
 (D46 n l0).bind fun r1' =>
 (bif (r1' != 0) then some ([], r1')
 else (bif decide ((l0.length : Int) < 0) then none
 else DL40_1 n n.1 l0 (wr .i64 (1 * 2 ^ (min (Int.toNat (l0.length : Int)) (IntKind.bits .i64)))) 0 []))
theorem S40_D (n : Nat × Nat) (hn : n.2 = 1) : S40 n = D40 n := by
  funext l0; refine (S40_eq n l0).trans ?_
  unfold D40
  (try simp only [DL40_3_eq n hn, DL40_4_eq n hn, DL40_2_eq n hn, DL40_1_eq n hn, S46_D n hn, S47_D n hn]) <;> first | with_reducible rfl | rfl
/-D 48 -/
noncomputable def D48 (n : Nat × Nat) (j0 : Int × List Int) : Option R48 := HF48 j0
theorem S48_D (n : Nat × Nat) (hn : n.2 = 1) : S48 n = D48 n := by unfold S48 D48; rfl
/-D 85 -/
noncomputable def DF85_1 (n : Nat × Nat) (f1 : (List (Int × Int)) → Int → Int → Int → Int → Option R85) (s0 : List (Int × Int)) (v7 : Int) (v8 : Int) (v3_0 : Int) (v3_1 : Int) : Option R85 :=
 (bif decide (v8 < v7) then (idx s0 v8).bind fun x1' =>
 (bif ((v3_0 == x1'.1) && ((v3_1 == x1'.2) && true)) then some v8
 else f1 s0 v7 (wr .i64 (v8 + 1)) v3_0 v3_1)
 else some (-1))
noncomputable def DL85_1 (n : Nat × Nat) (m : Nat) : (List (Int × Int)) → Int → Int → Int → Int → Option R85 := Nat.rec (motive := fun _ => (List (Int × Int)) → Int → Int → Int → Int → Option R85) (fun _ _ _ _ _ => none) (fun _ ih => DF85_1 n ih) m
theorem DL85_1_succ (n : Nat × Nat) (m : Nat) : DL85_1 n (m + 1) = DF85_1 n (DL85_1 n m) := rfl
theorem DL85_1_eq (n : Nat × Nat) (hn : n.2 = 1) : ∀ m, L85_1 n m = DL85_1 n m
  | 0 => by funext s0 v7 v8 v3_0 v3_1; kernel_rfl
  | m + 1 => by
    have ih := DL85_1_eq n hn m
    funext s0 v7 v8 v3_0 v3_1; refine (L85_1_eq n m s0 v7 v8 v3_0 v3_1).trans ?_
    rw [DL85_1_succ]
    unfold DF85_1
    (try simp only [ih]) <;> first | with_reducible rfl | rfl
noncomputable def D85 (n : Nat × Nat) (s0 : List (Int × Int)) (v1 : Int × Int) : Option R85 :=
    DL85_1 n n.1 s0 (s0.length : Int) 0 v1.1 v1.2
theorem S85_D (n : Nat × Nat) (hn : n.2 = 1) : S85 n = D85 n := by
  funext s0 v1; refine (S85_eq n s0 v1).trans ?_
  unfold D85
  (try simp only [DL85_1_eq n hn]) <;> first | with_reducible rfl | rfl
/-D 74 -/
noncomputable def D74 (n : Nat × Nat) (s0 : List (Int × Int)) (v1 : Int × Int) : Option R74 :=
 (D85 n s0 v1).bind fun r1' =>
 some (decide (r1' ≥ 0))
theorem S74_D (n : Nat × Nat) (hn : n.2 = 1) : S74 n = D74 n := by
  funext s0 v1; refine (S74_eq n s0 v1).trans ?_
  unfold D74
  (try simp only [S85_D n hn]) <;> first | with_reducible rfl | rfl
/-D 67 -/
noncomputable def DF67_1 (n : Nat × Nat) (f1 : (List (Int × Int)) → Int → Int → Int → (List (Int × Int)) → Option R67) (v20 : List (Int × Int)) (v21 : Int) (v22 : Int) (b1_0 : Int) (b1_1 : List (Int × Int)) : Option R67 :=
 (bif decide (v22 < v21) then (idx v20 v22).bind fun x2' =>
 (bif inB 0 2 then (idx [x2'.1, x2'.2] 0).bind fun x3' =>
 (bif inB 1 2 then (idx [x2'.1, x2'.2] 1).bind fun x4' =>
 ((bif (decide ((if x4' < x3' then x4' else x3') < 0) == false) then (bif inB 0 2 then (idx [x2'.1, x2'.2] 0).bind fun x5' =>
 (bif inB 1 2 then (idx [x2'.1, x2'.2] 1).bind fun x6' =>
 some (decide ((if x6' > x5' then x6' else x5') ≥ b1_0))
 else none)
 else none)
 else some true)).bind fun b7' =>
 (bif b7' then some 2
 else (bif inB 0 2 then (idx [x2'.1, x2'.2] 0).bind fun x8' =>
 (bif inB 1 2 then (idx [x2'.1, x2'.2] 1).bind fun x9' =>
 (bif decide (x8' ≥ x9') then some 7
 else (bif bounds none (some v22) none b1_1.length then (D74 n (b1_1.take (Int.toNat v22)) x2').bind fun r10' =>
 (bif r10' then some 6
 else f1 v20 v21 (wr .i64 (v22 + 1)) b1_0 b1_1)
 else none))
 else none)
 else none))
 else none)
 else none)
 else some 0)
noncomputable def DL67_1 (n : Nat × Nat) (m : Nat) : (List (Int × Int)) → Int → Int → Int → (List (Int × Int)) → Option R67 := Nat.rec (motive := fun _ => (List (Int × Int)) → Int → Int → Int → (List (Int × Int)) → Option R67) (fun _ _ _ _ _ => none) (fun _ ih => DF67_1 n ih) m
theorem DL67_1_succ (n : Nat × Nat) (m : Nat) : DL67_1 n (m + 1) = DF67_1 n (DL67_1 n m) := rfl
theorem DL67_1_eq (n : Nat × Nat) (hn : n.2 = 1) : ∀ m, L67_1 n m = DL67_1 n m
  | 0 => by funext v20 v21 v22 b1_0 b1_1; kernel_rfl
  | m + 1 => by
    have ih := DL67_1_eq n hn m
    funext v20 v21 v22 b1_0 b1_1; refine (L67_1_eq n m v20 v21 v22 b1_0 b1_1).trans ?_
    rw [DL67_1_succ]
    unfold DF67_1
    (try simp only [ih, S74_D n hn]) <;> first | with_reducible rfl | rfl
noncomputable def D67 (n : Nat × Nat) (b0 : Int × List (Int × Int)) : Option R67 :=
 ((bif (decide (b0.1 < 1) == false) then some (decide (b0.1 > 7))
 else some true)).bind fun b1' =>
 (bif b1' then some 1
 else (bif decide ((b0.2.length : Int) > 10) then some 3
 else DL67_1 n n.1 b0.2 (b0.2.length : Int) 0 b0.1 b0.2))
theorem S67_D (n : Nat × Nat) (hn : n.2 = 1) : S67 n = D67 n := by
  funext b0; refine (S67_eq n b0).trans ?_
  unfold D67
  (try simp only [DL67_1_eq n hn, S74_D n hn]) <;> first | with_reducible rfl | rfl
/-D 75 -/
noncomputable def DF75_1 (n : Nat × Nat) (f1 : Int → List Int → Option R75) (v0 : Int) (out3 : List Int) : Option R75 :=
 (bif (v0 != 0) then (D73 n v0).bind fun r1' =>
 (bif decide (out3.length + [r1'].length ≤ lim) then f1 (wr .u64 (BitVec.ofInt (IntKind.bits .u64) v0 &&& BitVec.ofInt (IntKind.bits .u64) (wr .u64 (v0 - 1))).toNat) (out3 ++ [r1'])
 else none)
 else some out3)
noncomputable def DL75_1 (n : Nat × Nat) (m : Nat) : Int → List Int → Option R75 := Nat.rec (motive := fun _ => Int → List Int → Option R75) (fun _ _ => none) (fun _ ih => DF75_1 n ih) m
theorem DL75_1_succ (n : Nat × Nat) (m : Nat) : DL75_1 n (m + 1) = DF75_1 n (DL75_1 n m) := rfl
theorem DL75_1_eq (n : Nat × Nat) (hn : n.2 = 1) : ∀ m, L75_1 n m = DL75_1 n m
  | 0 => by funext v0 out3; kernel_rfl
  | m + 1 => by
    have ih := DL75_1_eq n hn m
    funext v0 out3; refine (L75_1_eq n m v0 out3).trans ?_
    rw [DL75_1_succ]
    unfold DF75_1
    (try simp only [ih, S73_D n hn]) <;> first | with_reducible rfl | rfl
noncomputable def D75 (n : Nat × Nat) (v0 : Int) : Option R75 :=
    DL75_1 n n.1 v0 []
theorem S75_D (n : Nat × Nat) (hn : n.2 = 1) : S75 n = D75 n := by
  funext v0; refine (S75_eq n v0).trans ?_
  unfold D75
  (try simp only [DL75_1_eq n hn, S73_D n hn]) <;> first | with_reducible rfl | rfl
/-D 87 -/
noncomputable def D87 (n : Nat × Nat) (p0 : Int × Int) (v1 : Int) : Option R87 :=
 (bif inB 0 2 then (idx [p0.1, p0.2] 0).bind fun x1' =>
 (bif decide (x1' < 0) then none
 else ((bif (((wr .u64 (BitVec.ofInt (IntKind.bits .u64) (Int.fdiv v1 (2 ^ (min (Int.toNat x1') (IntKind.bits .u64)))) &&& BitVec.ofInt (IntKind.bits .u64) 1).toNat) == 0) == true) then (bif inB 1 2 then (idx [p0.1, p0.2] 1).bind fun x2' =>
 (bif decide (x2' < 0) then none
 else some ((wr .u64 (BitVec.ofInt (IntKind.bits .u64) (Int.fdiv v1 (2 ^ (min (Int.toNat x2') (IntKind.bits .u64)))) &&& BitVec.ofInt (IntKind.bits .u64) 1).toNat) == 0))
 else none)
 else some false)).bind fun b3' =>
 some b3')
 else none)
theorem S87_D (n : Nat × Nat) (hn : n.2 = 1) : S87 n = D87 n := by
  funext p0 v1; refine (S87_eq n p0 v1).trans ?_
  unfold D87
  first | with_reducible rfl | rfl
/-D 96c87 -/
noncomputable def DF96c87_1 (n : Nat × Nat) (f1 : (List (Int × Int)) → Int → Int → Int → Option R96c87) (s0 : List (Int × Int)) (f1_0 : Int) (v7 : Int) (v8 : Int) : Option R96c87 :=
 (bif decide (v8 < v7) then (idx s0 v8).bind fun x1' =>
 (D87 n x1' f1_0).bind fun r2' =>
 (bif r2' then some v8
 else f1 s0 f1_0 v7 (wr .i64 (v8 + 1)))
 else some (-1))
noncomputable def DL96c87_1 (n : Nat × Nat) (m : Nat) : (List (Int × Int)) → Int → Int → Int → Option R96c87 := Nat.rec (motive := fun _ => (List (Int × Int)) → Int → Int → Int → Option R96c87) (fun _ _ _ _ => none) (fun _ ih => DF96c87_1 n ih) m
theorem DL96c87_1_succ (n : Nat × Nat) (m : Nat) : DL96c87_1 n (m + 1) = DF96c87_1 n (DL96c87_1 n m) := rfl
theorem DL96c87_1_eq (n : Nat × Nat) (hn : n.2 = 1) : ∀ m, L96c87_1 n m = DL96c87_1 n m
  | 0 => by funext s0 f1_0 v7 v8; kernel_rfl
  | m + 1 => by
    have ih := DL96c87_1_eq n hn m
    funext s0 f1_0 v7 v8; refine (L96c87_1_eq n m s0 f1_0 v7 v8).trans ?_
    rw [DL96c87_1_succ]
    unfold DF96c87_1
    (try simp only [ih, S87_D n hn]) <;> first | with_reducible rfl | rfl
noncomputable def D96c87 (n : Nat × Nat) (s0 : List (Int × Int)) (cp_1_0 : Int) : Option R96c87 :=
    DL96c87_1 n n.1 s0 cp_1_0 (s0.length : Int) 0
theorem S96c87_D (n : Nat × Nat) (hn : n.2 = 1) : S96c87 n = D96c87 n := by
  funext s0 cp_1_0; refine (S96c87_eq n s0 cp_1_0).trans ?_
  unfold D96c87
  (try simp only [DL96c87_1_eq n hn, S87_D n hn]) <;> first | with_reducible rfl | rfl
/-D 86c87 -/
noncomputable def D86c87 (n : Nat × Nat) (s0 : List (Int × Int)) (cp_1_0 : Int) : Option R86c87 :=
 (D96c87 n s0 cp_1_0).bind fun r1' =>
 some (decide (r1' ≥ 0))
theorem S86c87_D (n : Nat × Nat) (hn : n.2 = 1) : S86c87 n = D86c87 n := by
  funext s0 cp_1_0; refine (S86c87_eq n s0 cp_1_0).trans ?_
  unfold D86c87
  (try simp only [S96c87_D n hn]) <;> first | with_reducible rfl | rfl
/-D 76 -/
noncomputable def D76 (n : Nat × Nat) (b0 : Int × List (Int × Int)) (v1 : Int) : Option R76 :=
 (D86c87 n b0.2 v1).bind fun r1' =>
 some (!r1')
theorem S76_D (n : Nat × Nat) (hn : n.2 = 1) : S76 n = D76 n := by
  funext b0 v1; refine (S76_eq n b0 v1).trans ?_
  unfold D76
  (try simp only [S86c87_D n hn]) <;> first | with_reducible rfl | rfl
/-D 68 -/
noncomputable def DL68_2 (n : Nat × Nat) (f1 : Int → Int → Int → Int → (List (Int × Int)) → List Int → Option R68) (many5 : Int) (v10 : Int) (v11 : Int) (b1_0 : Int) (b1_1 : List (Int × Int)) (best4 : List Int) : Option R68 :=
    f1 many5 v10 (wr .u64 (v11 + 1)) b1_0 b1_1 best4
theorem DL68_2_eq (n : Nat × Nat) (hn : n.2 = 1) (m1 : Nat) : L68_2 n m1 = DL68_2 n (L68_1 n m1) := by
  funext many5 v10 v11 b1_0 b1_1 best4; refine ((held_eq hn _).trans (L68_2_raw n m1 many5 v10 v11 b1_0 b1_1 best4)).trans ?_
  unfold DL68_2
  (try simp only [S47_D n hn, S75_D n hn, S76_D n hn]) <;> first | with_reducible rfl | rfl
noncomputable def DF68_1 (n : Nat × Nat) (f1 : Int → Int → Int → Int → (List (Int × Int)) → List Int → Option R68) (many5 : Int) (v10 : Int) (v11 : Int) (b1_0 : Int) (b1_1 : List (Int × Int)) (best4 : List Int) : Option R68 :=
 (bif decide (v11 < v10) then (D75 n v11).bind fun r1' =>
 (D76 n (b1_0, b1_1) v11).bind fun r2' =>
 ((bif ((!r2') == false) then ((bif (decide (many5 > 0) == true) then some (decide ((r1'.length : Int) > (best4.length : Int)))
 else some false)).bind fun b3' =>
 some b3'
 else some true)).bind fun b4' =>
 (bif b4' then DL68_2 n f1 many5 v10 v11 b1_0 b1_1 best4
 else ((bif ((many5 == 0) == false) then some (decide ((r1'.length : Int) < (best4.length : Int)))
 else some true)).bind fun b5' =>
 (bif b5' then DL68_2 n f1 1 v10 v11 b1_0 b1_1 r1'
 else (D47 n r1' best4).bind fun r6' =>
 (bif decide (r6' < 0) then DL68_2 n f1 (wr .i64 (many5 + 1)) v10 v11 b1_0 b1_1 r1'
 else DL68_2 n f1 (wr .i64 (many5 + 1)) v10 v11 b1_0 b1_1 best4)))
 else some (best4, many5))
noncomputable def DL68_1 (n : Nat × Nat) (m : Nat) : Int → Int → Int → Int → (List (Int × Int)) → List Int → Option R68 := Nat.rec (motive := fun _ => Int → Int → Int → Int → (List (Int × Int)) → List Int → Option R68) (fun _ _ _ _ _ _ => none) (fun _ ih => DF68_1 n ih) m
theorem DL68_1_succ (n : Nat × Nat) (m : Nat) : DL68_1 n (m + 1) = DF68_1 n (DL68_1 n m) := rfl
theorem DL68_1_eq (n : Nat × Nat) (hn : n.2 = 1) : ∀ m, L68_1 n m = DL68_1 n m
  | 0 => by funext many5 v10 v11 b1_0 b1_1 best4; kernel_rfl
  | m + 1 => by
    have ih := DL68_1_eq n hn m
    funext many5 v10 v11 b1_0 b1_1 best4; refine (L68_1_eq n m many5 v10 v11 b1_0 b1_1 best4).trans ?_
    rw [DL68_1_succ]
    unfold DF68_1
    (try simp only [ih, DL68_2_eq n hn, S47_D n hn, S75_D n hn, S76_D n hn]) <;> first | with_reducible rfl | rfl
noncomputable def D68 (n : Nat × Nat) (b0 : Int × List (Int × Int)) : Option R68 :=
 (bif decide (b0.1 < 0) then none
 else DL68_1 n n.1 0 (wr .u64 (1 * 2 ^ (min (Int.toNat b0.1) (IntKind.bits .u64)))) 0 b0.1 b0.2 [])
theorem S68_D (n : Nat × Nat) (hn : n.2 = 1) : S68 n = D68 n := by
  funext b0; refine (S68_eq n b0).trans ?_
  unfold D68
  (try simp only [DL68_2_eq n hn, DL68_1_eq n hn, S47_D n hn, S75_D n hn, S76_D n hn]) <;> first | with_reducible rfl | rfl
/-D 57 -/
noncomputable def D57 (n : Nat × Nat) (b0 : Int × List (Int × Int)) : Option R57 :=
 (D67 n b0).bind fun r1' =>
 (bif (r1' != 0) then some ([], r1')
 else (D68 n b0).bind fun r2' =>
 some (r2'.1, 0))
theorem S57_D (n : Nat × Nat) (hn : n.2 = 1) : S57 n = D57 n := by
  funext b0; refine (S57_eq n b0).trans ?_
  unfold D57
  (try simp only [S67_D n hn, S68_D n hn]) <;> first | with_reducible rfl | rfl
/-D 97 -/
noncomputable def DF97_1 (n : Nat × Nat) (f1 : (List (Int × Int)) → Int → Int → Int → (List (Int × Int)) → Option R97) (v20 : List (Int × Int)) (v21 : Int) (v22 : Int) (b1_0 : Int) (b1_1 : List (Int × Int)) : Option R97 :=
 (bif decide (v22 < v21) then (idx v20 v22).bind fun x2' =>
 (bif inB 0 2 then (idx [x2'.1, x2'.2] 0).bind fun x3' =>
 (bif inB 1 2 then (idx [x2'.1, x2'.2] 1).bind fun x4' =>
 ((bif (decide ((if x4' < x3' then x4' else x3') < 0) == false) then (bif inB 0 2 then (idx [x2'.1, x2'.2] 0).bind fun x5' =>
 (bif inB 1 2 then (idx [x2'.1, x2'.2] 1).bind fun x6' =>
 some (decide ((if x6' > x5' then x6' else x5') ≥ b1_0))
 else none)
 else none)
 else some true)).bind fun b7' =>
 (bif b7' then some 2
 else (bif inB 0 2 then (idx [x2'.1, x2'.2] 0).bind fun x8' =>
 (bif inB 1 2 then (idx [x2'.1, x2'.2] 1).bind fun x9' =>
 (bif (x8' == x9') then some 5
 else (bif bounds none (some v22) none b1_1.length then (D74 n (b1_1.take (Int.toNat v22)) x2').bind fun r10' =>
 (bif r10' then some 6
 else f1 v20 v21 (wr .i64 (v22 + 1)) b1_0 b1_1)
 else none))
 else none)
 else none))
 else none)
 else none)
 else some 0)
noncomputable def DL97_1 (n : Nat × Nat) (m : Nat) : (List (Int × Int)) → Int → Int → Int → (List (Int × Int)) → Option R97 := Nat.rec (motive := fun _ => (List (Int × Int)) → Int → Int → Int → (List (Int × Int)) → Option R97) (fun _ _ _ _ _ => none) (fun _ ih => DF97_1 n ih) m
theorem DL97_1_succ (n : Nat × Nat) (m : Nat) : DL97_1 n (m + 1) = DF97_1 n (DL97_1 n m) := rfl
theorem DL97_1_eq (n : Nat × Nat) (hn : n.2 = 1) : ∀ m, L97_1 n m = DL97_1 n m
  | 0 => by funext v20 v21 v22 b1_0 b1_1; kernel_rfl
  | m + 1 => by
    have ih := DL97_1_eq n hn m
    funext v20 v21 v22 b1_0 b1_1; refine (L97_1_eq n m v20 v21 v22 b1_0 b1_1).trans ?_
    rw [DL97_1_succ]
    unfold DF97_1
    (try simp only [ih, S74_D n hn]) <;> first | with_reducible rfl | rfl
noncomputable def D97 (n : Nat × Nat) (b0 : Int × List (Int × Int)) : Option R97 :=
 ((bif (decide (b0.1 < 1) == false) then some (decide (b0.1 > 7))
 else some true)).bind fun b1' =>
 (bif b1' then some 1
 else (bif decide ((b0.2.length : Int) > 16) then some 3
 else DL97_1 n n.1 b0.2 (b0.2.length : Int) 0 b0.1 b0.2))
theorem S97_D (n : Nat × Nat) (hn : n.2 = 1) : S97 n = D97 n := by
  funext b0; refine (S97_eq n b0).trans ?_
  unfold D97
  (try simp only [DL97_1_eq n hn, S74_D n hn]) <;> first | with_reducible rfl | rfl
/-D 88 -/
noncomputable def DF88_1 (n : Nat × Nat) (f1 : (List (Int × Int)) → Int → Int → Int → Int → Int → Int → Int → Int → Int → Int → Int → Int → Int → Int → Int → Int → Int → Int → Option R88) (v18 : List (Int × Int)) (v19 : Int) (v20 : Int) (v2_0 : Int) (v2_1 : Int) (v2_2 : Int) (v2_3 : Int) (v2_4 : Int) (v2_5 : Int) (v2_6 : Int) (v2_7 : Int) (w4_0 : Int) (w4_1 : Int) (w4_2 : Int) (w4_3 : Int) (w4_4 : Int) (w4_5 : Int) (w4_6 : Int) (w4_7 : Int) : Option R88 :=
 (bif decide (v20 < v19) then (idx v18 v20).bind fun x2' =>
 (bif inB 0 2 then (idx [x2'.1, x2'.2] 0).bind fun x3' =>
 (bif inB x3' 7 then (idx [w4_1, w4_2, w4_3, w4_4, w4_5, w4_6, w4_7] x3').bind fun x4' =>
 (bif inB 1 2 then (idx [x2'.1, x2'.2] 1).bind fun x5' =>
 (bif decide (x5' < 0) then none
 else (bif inB x3' 7 then f1 v18 v19 (wr .i64 (v20 + 1)) v2_0 v2_1 v2_2 v2_3 v2_4 v2_5 v2_6 v2_7 w4_0 (bif (x3' == 0) then wr .u64 (BitVec.ofInt (IntKind.bits .u64) x4' ||| BitVec.ofInt (IntKind.bits .u64) (wr .u64 (1 * 2 ^ (min (Int.toNat x5') (IntKind.bits .u64))))).toNat else w4_1) (bif (x3' == 1) then wr .u64 (BitVec.ofInt (IntKind.bits .u64) x4' ||| BitVec.ofInt (IntKind.bits .u64) (wr .u64 (1 * 2 ^ (min (Int.toNat x5') (IntKind.bits .u64))))).toNat else w4_2) (bif (x3' == 2) then wr .u64 (BitVec.ofInt (IntKind.bits .u64) x4' ||| BitVec.ofInt (IntKind.bits .u64) (wr .u64 (1 * 2 ^ (min (Int.toNat x5') (IntKind.bits .u64))))).toNat else w4_3) (bif (x3' == 3) then wr .u64 (BitVec.ofInt (IntKind.bits .u64) x4' ||| BitVec.ofInt (IntKind.bits .u64) (wr .u64 (1 * 2 ^ (min (Int.toNat x5') (IntKind.bits .u64))))).toNat else w4_4) (bif (x3' == 4) then wr .u64 (BitVec.ofInt (IntKind.bits .u64) x4' ||| BitVec.ofInt (IntKind.bits .u64) (wr .u64 (1 * 2 ^ (min (Int.toNat x5') (IntKind.bits .u64))))).toNat else w4_5) (bif (x3' == 5) then wr .u64 (BitVec.ofInt (IntKind.bits .u64) x4' ||| BitVec.ofInt (IntKind.bits .u64) (wr .u64 (1 * 2 ^ (min (Int.toNat x5') (IntKind.bits .u64))))).toNat else w4_6) (bif (x3' == 6) then wr .u64 (BitVec.ofInt (IntKind.bits .u64) x4' ||| BitVec.ofInt (IntKind.bits .u64) (wr .u64 (1 * 2 ^ (min (Int.toNat x5') (IntKind.bits .u64))))).toNat else w4_7)
 else none))
 else none)
 else none)
 else none)
 else some ((w4_0, w4_1, w4_2, w4_3, w4_4, w4_5, w4_6, w4_7), 0))
noncomputable def DL88_1 (n : Nat × Nat) (m : Nat) : (List (Int × Int)) → Int → Int → Int → Int → Int → Int → Int → Int → Int → Int → Int → Int → Int → Int → Int → Int → Int → Int → Option R88 := Nat.rec (motive := fun _ => (List (Int × Int)) → Int → Int → Int → Int → Int → Int → Int → Int → Int → Int → Int → Int → Int → Int → Int → Int → Int → Int → Option R88) (fun _ _ _ _ _ _ _ _ _ _ _ _ _ _ _ _ _ _ _ => none) (fun _ ih => DF88_1 n ih) m
theorem DL88_1_succ (n : Nat × Nat) (m : Nat) : DL88_1 n (m + 1) = DF88_1 n (DL88_1 n m) := rfl
theorem DL88_1_eq (n : Nat × Nat) (hn : n.2 = 1) : ∀ m, L88_1 n m = DL88_1 n m
  | 0 => by funext v18 v19 v20 v2_0 v2_1 v2_2 v2_3 v2_4 v2_5 v2_6 v2_7 w4_0 w4_1 w4_2 w4_3 w4_4 w4_5 w4_6 w4_7; kernel_rfl
  | m + 1 => by
    have ih := DL88_1_eq n hn m
    funext v18 v19 v20 v2_0 v2_1 v2_2 v2_3 v2_4 v2_5 v2_6 v2_7 w4_0 w4_1 w4_2 w4_3 w4_4 w4_5 w4_6 w4_7; refine (L88_1_eq n m v18 v19 v20 v2_0 v2_1 v2_2 v2_3 v2_4 v2_5 v2_6 v2_7 w4_0 w4_1 w4_2 w4_3 w4_4 w4_5 w4_6 w4_7).trans ?_
    rw [DL88_1_succ]
    unfold DF88_1
    (try simp only [ih, S97_D n hn]) <;> first | with_reducible rfl | rfl
noncomputable def D88 (n : Nat × Nat) (b0 : Int × List (Int × Int)) : Option R88 :=
 (D97 n b0).bind fun r1' =>
 (bif (r1' != 0) then some ((b0.1, 0, 0, 0, 0, 0, 0, 0), r1')
 else DL88_1 n n.1 b0.2 (b0.2.length : Int) 0 0 0 0 0 0 0 0 0 b0.1 0 0 0 0 0 0 0)
theorem S88_D (n : Nat × Nat) (hn : n.2 = 1) : S88 n = D88 n := by
  funext b0; refine (S88_eq n b0).trans ?_
  unfold D88
  (try simp only [DL88_1_eq n hn, S97_D n hn]) <;> first | with_reducible rfl | rfl
/-D 89 -/
noncomputable def DL89_2 (n : Nat × Nat) (f1 : Int → Bool → List Int → Int → Int → Option R89) (choice1 : Int) (v5 : Bool) (v12 : List Int) (v13 : Int) (v14 : Int) : Option R89 :=
    f1 choice1 v5 v12 v13 (wr .i64 (v14 + 1))
theorem DL89_2_eq (n : Nat × Nat) (hn : n.2 = 1) (m1 : Nat) : L89_2 n m1 = DL89_2 n (L89_1 n m1) := by
  funext choice1 v5 v12 v13 v14; refine ((held_eq hn _).trans (L89_2_raw n m1 choice1 v5 v12 v13 v14)).trans ?_
  unfold DL89_2
  first | with_reducible rfl | rfl
noncomputable def DF89_1 (n : Nat × Nat) (f1 : Int → Bool → List Int → Int → Int → Option R89) (choice1 : Int) (v5 : Bool) (v12 : List Int) (v13 : Int) (v14 : Int) : Option R89 :=
 (bif decide (v14 < v13) then (idx v12 v14).bind fun x1' =>
 (bif decide (v14 < 0) then none
 else ((bif (((wr .u64 (BitVec.ofInt (IntKind.bits .u64) (Int.fdiv choice1 (2 ^ (min (Int.toNat v14) (IntKind.bits .u64)))) &&& BitVec.ofInt (IntKind.bits .u64) 1).toNat) == 1) == true) then some ((wr .u64 (BitVec.ofInt (IntKind.bits .u64) x1' &&& BitVec.ofInt (IntKind.bits .u64) choice1).toNat) != 0)
 else some false)).bind fun b2' =>
 (bif b2' then some 13
 else ((bif ((!((wr .u64 (BitVec.ofInt (IntKind.bits .u64) (Int.fdiv choice1 (2 ^ (min (Int.toNat v14) (IntKind.bits .u64)))) &&& BitVec.ofInt (IntKind.bits .u64) 1).toNat) == 1)) == true) then some ((wr .u64 (BitVec.ofInt (IntKind.bits .u64) x1' &&& BitVec.ofInt (IntKind.bits .u64) choice1).toNat) == 0)
 else some false)).bind fun b3' =>
 (bif b3' then DL89_2 n f1 choice1 true v12 v13 v14
 else DL89_2 n f1 choice1 v5 v12 v13 v14)))
 else (bif v5 then some 21
 else some 0))
noncomputable def DL89_1 (n : Nat × Nat) (m : Nat) : Int → Bool → List Int → Int → Int → Option R89 := Nat.rec (motive := fun _ => Int → Bool → List Int → Int → Int → Option R89) (fun _ _ _ _ _ => none) (fun _ ih => DF89_1 n ih) m
theorem DL89_1_succ (n : Nat × Nat) (m : Nat) : DL89_1 n (m + 1) = DF89_1 n (DL89_1 n m) := rfl
theorem DL89_1_eq (n : Nat × Nat) (hn : n.2 = 1) : ∀ m, L89_1 n m = DL89_1 n m
  | 0 => by funext choice1 v5 v12 v13 v14; kernel_rfl
  | m + 1 => by
    have ih := DL89_1_eq n hn m
    funext choice1 v5 v12 v13 v14; refine (L89_1_eq n m choice1 v5 v12 v13 v14).trans ?_
    rw [DL89_1_succ]
    unfold DF89_1
    (try simp only [ih, DL89_2_eq n hn]) <;> first | with_reducible rfl | rfl
noncomputable def D89 (n : Nat × Nat) (w0 : Int × Int × Int × Int × Int × Int × Int × Int) (choice1 : Int) : Option R89 :=
 (bif bounds none (some w0.1) none 7 then DL89_1 n n.1 choice1 false ([w0.2.1, w0.2.2.1, w0.2.2.2.1, w0.2.2.2.2.1, w0.2.2.2.2.2.1, w0.2.2.2.2.2.2.1, w0.2.2.2.2.2.2.2].take (Int.toNat w0.1)) (([w0.2.1, w0.2.2.1, w0.2.2.2.1, w0.2.2.2.2.1, w0.2.2.2.2.2.1, w0.2.2.2.2.2.2.1, w0.2.2.2.2.2.2.2].take (Int.toNat w0.1)).length : Int) 0
 else none)
theorem S89_D (n : Nat × Nat) (hn : n.2 = 1) : S89 n = D89 n := by
  funext w0 choice1; refine (S89_eq n w0 choice1).trans ?_
  unfold D89
  (try simp only [DL89_2_eq n hn, DL89_1_eq n hn]) <;> first | with_reducible rfl | rfl
/-D 90 -/
noncomputable def DF90_1 (n : Nat × Nat) (f1 : Int → List Int → Option R90) (v0 : Int) (out3 : List Int) : Option R90 :=
 (bif (v0 != 0) then (D73 n v0).bind fun r1' =>
 (bif decide (out3.length + [r1'].length ≤ lim) then f1 (wr .u64 (BitVec.ofInt (IntKind.bits .u64) v0 &&& BitVec.ofInt (IntKind.bits .u64) (wr .u64 (v0 - 1))).toNat) (out3 ++ [r1'])
 else none)
 else some out3)
noncomputable def DL90_1 (n : Nat × Nat) (m : Nat) : Int → List Int → Option R90 := Nat.rec (motive := fun _ => Int → List Int → Option R90) (fun _ _ => none) (fun _ ih => DF90_1 n ih) m
theorem DL90_1_succ (n : Nat × Nat) (m : Nat) : DL90_1 n (m + 1) = DF90_1 n (DL90_1 n m) := rfl
theorem DL90_1_eq (n : Nat × Nat) (hn : n.2 = 1) : ∀ m, L90_1 n m = DL90_1 n m
  | 0 => by funext v0 out3; kernel_rfl
  | m + 1 => by
    have ih := DL90_1_eq n hn m
    funext v0 out3; refine (L90_1_eq n m v0 out3).trans ?_
    rw [DL90_1_succ]
    unfold DF90_1
    (try simp only [ih, S73_D n hn]) <;> first | with_reducible rfl | rfl
noncomputable def D90 (n : Nat × Nat) (v0 : Int) : Option R90 :=
    DL90_1 n n.1 v0 []
theorem S90_D (n : Nat × Nat) (hn : n.2 = 1) : S90 n = D90 n := by
  funext v0; refine (S90_eq n v0).trans ?_
  unfold D90
  (try simp only [DL90_1_eq n hn, S73_D n hn]) <;> first | with_reducible rfl | rfl
noncomputable def D91c47 (n : Nat × Nat) (x0 : List (List Int)) : Option R91c47 := HF91 x0
theorem S91c47_D (n : Nat × Nat) (hn : n.2 = 1) : S91c47 n = D91c47 n := rfl
/-D 77 -/
noncomputable def DL77_2 (n : Nat × Nat) (f1 : Int → Int → Int → Int → Int → Int → Int → Int → Int → Int → List (List Int) → Option R77) (v18 : Int) (v19 : Int) (w4_0 : Int) (w4_1 : Int) (w4_2 : Int) (w4_3 : Int) (w4_4 : Int) (w4_5 : Int) (w4_6 : Int) (w4_7 : Int) (out6 : List (List Int)) : Option R77 :=
    f1 v18 (wr .u64 (v19 + 1)) w4_0 w4_1 w4_2 w4_3 w4_4 w4_5 w4_6 w4_7 out6
theorem DL77_2_eq (n : Nat × Nat) (hn : n.2 = 1) (m1 : Nat) : L77_2 n m1 = DL77_2 n (L77_1 n m1) := by
  funext v18 v19 w4_0 w4_1 w4_2 w4_3 w4_4 w4_5 w4_6 w4_7 out6; refine ((held_eq hn _).trans (L77_2_raw n m1 v18 v19 w4_0 w4_1 w4_2 w4_3 w4_4 w4_5 w4_6 w4_7 out6)).trans ?_
  unfold DL77_2
  (try simp only [S88_D n hn, S89_D n hn, S90_D n hn, S91c47_D n hn]) <;> first | with_reducible rfl | rfl
noncomputable def DF77_1 (n : Nat × Nat) (f1 : Int → Int → Int → Int → Int → Int → Int → Int → Int → Int → List (List Int) → Option R77) (v18 : Int) (v19 : Int) (w4_0 : Int) (w4_1 : Int) (w4_2 : Int) (w4_3 : Int) (w4_4 : Int) (w4_5 : Int) (w4_6 : Int) (w4_7 : Int) (out6 : List (List Int)) : Option R77 :=
 (bif decide (v19 < v18) then (D89 n (w4_0, w4_1, w4_2, w4_3, w4_4, w4_5, w4_6, w4_7) v19).bind fun r2' =>
 (bif (r2' == 0) then (D90 n v19).bind fun r3' =>
 (bif decide (out6.length + [r3'].length ≤ lim) then DL77_2 n f1 v18 v19 w4_0 w4_1 w4_2 w4_3 w4_4 w4_5 w4_6 w4_7 (out6 ++ [r3'])
 else none)
 else DL77_2 n f1 v18 v19 w4_0 w4_1 w4_2 w4_3 w4_4 w4_5 w4_6 w4_7 out6)
 else (D91c47 n out6).bind fun r4' =>
 some (out6, 0))
noncomputable def DL77_1 (n : Nat × Nat) (m : Nat) : Int → Int → Int → Int → Int → Int → Int → Int → Int → Int → List (List Int) → Option R77 := Nat.rec (motive := fun _ => Int → Int → Int → Int → Int → Int → Int → Int → Int → Int → List (List Int) → Option R77) (fun _ _ _ _ _ _ _ _ _ _ _ => none) (fun _ ih => DF77_1 n ih) m
theorem DL77_1_succ (n : Nat × Nat) (m : Nat) : DL77_1 n (m + 1) = DF77_1 n (DL77_1 n m) := rfl
theorem DL77_1_eq (n : Nat × Nat) (hn : n.2 = 1) : ∀ m, L77_1 n m = DL77_1 n m
  | 0 => by funext v18 v19 w4_0 w4_1 w4_2 w4_3 w4_4 w4_5 w4_6 w4_7 out6; kernel_rfl
  | m + 1 => by
    have ih := DL77_1_eq n hn m
    funext v18 v19 w4_0 w4_1 w4_2 w4_3 w4_4 w4_5 w4_6 w4_7 out6; refine (L77_1_eq n m v18 v19 w4_0 w4_1 w4_2 w4_3 w4_4 w4_5 w4_6 w4_7 out6).trans ?_
    rw [DL77_1_succ]
    unfold DF77_1
    (try simp only [ih, DL77_2_eq n hn, S88_D n hn, S89_D n hn, S90_D n hn, S91c47_D n hn]) <;> first | with_reducible rfl | rfl
noncomputable def D77 (n : Nat × Nat) (b0 : Int × List (Int × Int)) : Option R77 :=
 (D88 n b0).bind fun r1' =>
 (bif (r1'.2 != 0) then some ([], r1'.2)
 else (bif decide (r1'.1.1 < 0) then none
 else DL77_1 n n.1 (wr .u64 (1 * 2 ^ (min (Int.toNat r1'.1.1) (IntKind.bits .u64)))) 0 r1'.1.1 r1'.1.2.1 r1'.1.2.2.1 r1'.1.2.2.2.1 r1'.1.2.2.2.2.1 r1'.1.2.2.2.2.2.1 r1'.1.2.2.2.2.2.2.1 r1'.1.2.2.2.2.2.2.2 []))
theorem S77_D (n : Nat × Nat) (hn : n.2 = 1) : S77 n = D77 n := by
  funext b0; refine (S77_eq n b0).trans ?_
  unfold D77
  (try simp only [DL77_2_eq n hn, DL77_1_eq n hn, S88_D n hn, S89_D n hn, S90_D n hn, S91c47_D n hn]) <;> first | with_reducible rfl | rfl
/-D 69 -/
noncomputable def D69 (n : Nat × Nat) (b0 : Int × List (Int × Int)) : Option R69 :=
 (D77 n b0).bind fun r1' =>
 (bif (r1'.2 != 0) then some ([], r1'.2)
 else (bif ((r1'.1.length : Int) == 0) then some ([], 12)
 else (bif inB 0 r1'.1.length then (idx r1'.1 0).bind fun x2' =>
 some (x2', 0)
 else none)))
theorem S69_D (n : Nat × Nat) (hn : n.2 = 1) : S69 n = D69 n := by
  funext b0; refine (S69_eq n b0).trans ?_
  unfold D69
  (try simp only [S77_D n hn]) <;> first | with_reducible rfl | rfl
/-D 100 -/
noncomputable def DF100_1 (n : Nat × Nat) (f1 : ByteArray → Nat → Option R100) (v9s : ByteArray) (v9p : Nat) : Option R100 :=
 (bif Nat.blt v9p v9s.size then ((strBytes v9s)[v9p]?).bind fun x1' =>
 (bif decide (x1' < 128) then ((bif (decide (x1' < 97) == false) then some (decide (x1' ≥ 103))
 else some true)).bind fun b2' =>
 (bif b2' then some 10
 else f1 v9s (v9p + 1))
 else none)
 else some 0)
noncomputable def DL100_1 (n : Nat × Nat) (m : Nat) : ByteArray → Nat → Option R100 := Nat.rec (motive := fun _ => ByteArray → Nat → Option R100) (fun _ _ => none) (fun _ ih => DF100_1 n ih) m
theorem DL100_1_succ (n : Nat × Nat) (m : Nat) : DL100_1 n (m + 1) = DF100_1 n (DL100_1 n m) := rfl
theorem DL100_1_eq (n : Nat × Nat) (hn : n.2 = 1) : ∀ m, L100_1 n m = DL100_1 n m
  | 0 => by funext v9s v9p; kernel_rfl
  | m + 1 => by
    have ih := DL100_1_eq n hn m
    funext v9s v9p; refine (L100_1_eq n m v9s v9p).trans ?_
    rw [DL100_1_succ]
    unfold DF100_1
    (try simp only [ih]) <;> first | with_reducible rfl | rfl
noncomputable def D100 (n : Nat × Nat) (word0 : ByteArray) : Option R100 :=
 (bif decide ((word0.size : Int) > 10) then some 19
 else DL100_1 n n.1 word0 0)
theorem S100_D (n : Nat × Nat) (hn : n.2 = 1) : S100 n = D100 n := by
  funext word0; refine (S100_eq n word0).trans ?_
  unfold D100
  (try simp only [DL100_1_eq n hn]) <;> first | with_reducible rfl | rfl
/-D 92 -/
noncomputable def DF92_1 (n : Nat × Nat) (f1 : List ByteArray → Int → Int → Option R92) (v6 : List ByteArray) (v7 : Int) (v8 : Int) : Option R92 :=
 (bif decide (v8 < v7) then (idx v6 v8).bind fun x1' =>
 (D100 n x1').bind fun r2' =>
 (bif (r2' != 0) then some r2'
 else f1 v6 v7 (wr .i64 (v8 + 1)))
 else some 0)
noncomputable def DL92_1 (n : Nat × Nat) (m : Nat) : List ByteArray → Int → Int → Option R92 := Nat.rec (motive := fun _ => List ByteArray → Int → Int → Option R92) (fun _ _ _ => none) (fun _ ih => DF92_1 n ih) m
theorem DL92_1_succ (n : Nat × Nat) (m : Nat) : DL92_1 n (m + 1) = DF92_1 n (DL92_1 n m) := rfl
theorem DL92_1_eq (n : Nat × Nat) (hn : n.2 = 1) : ∀ m, L92_1 n m = DL92_1 n m
  | 0 => by funext v6 v7 v8; kernel_rfl
  | m + 1 => by
    have ih := DL92_1_eq n hn m
    funext v6 v7 v8; refine (L92_1_eq n m v6 v7 v8).trans ?_
    rw [DL92_1_succ]
    unfold DF92_1
    (try simp only [ih, S100_D n hn]) <;> first | with_reducible rfl | rfl
noncomputable def D92 (n : Nat × Nat) (words0 : List ByteArray) : Option R92 :=
    DL92_1 n n.1 words0 (words0.length : Int) 0
theorem S92_D (n : Nat × Nat) (hn : n.2 = 1) : S92 n = D92 n := by
  funext words0; refine (S92_eq n words0).trans ?_
  unfold D92
  (try simp only [DL92_1_eq n hn, S100_D n hn]) <;> first | with_reducible rfl | rfl
/-D 78 -/
noncomputable def DL78_3 (n : Nat × Nat) (f1 : ByteArray → List Int → Int → Int → List Int → Option R78) (f2 : ByteArray → Int → Int → List Int → Int → Int → List Int → Option R78) (part1 : ByteArray) (c9 : Int) (k10 : Int) (v25 : List Int) (v26 : Int) (v27 : Int) (begun7 : List Int) : Option R78 :=
    f2 part1 c9 (wr .i64 (k10 - 1)) v25 v26 v27 begun7
theorem DL78_3_eq (n : Nat × Nat) (hn : n.2 = 1) (m1 m2 : Nat) : L78_3 n m1 m2 = DL78_3 n (L78_1 n m1) (L78_2 n m1 m2) := by
  funext part1 c9 k10 v25 v26 v27 begun7; refine ((held_eq hn _).trans (L78_3_raw n m1 m2 part1 c9 k10 v25 v26 v27 begun7)).trans ?_
  unfold DL78_3
  (try simp only [S92_D n hn]) <;> first | with_reducible rfl | rfl
noncomputable def DF78_2 (n : Nat × Nat) (f1 : ByteArray → List Int → Int → Int → List Int → Option R78) (f2 : ByteArray → Int → Int → List Int → Int → Int → List Int → Option R78) (part1 : ByteArray) (c9 : Int) (k10 : Int) (v25 : List Int) (v26 : Int) (v27 : Int) (begun7 : List Int) : Option R78 :=
 (bif decide (k10 > 0) then (idx (strBytes part1) (wr .i64 (k10 - 1))).bind fun x5' =>
 (bif (x5' == c9) then (bif inB k10 begun7.length then (idx begun7 k10).bind fun x6' =>
 (bif inB (wr .i64 (k10 - 1)) begun7.length then (idx begun7 (wr .i64 (k10 - 1))).bind fun x7' =>
 (bif inB k10 begun7.length then (idx begun7 k10).bind fun x8' =>
              DL78_3 n f1 f2 part1 c9 k10 v25 v26 v27 (begun7.set (Int.toNat k10) (wr .i64 (x6' + x7')))
 else none)
 else none)
 else none)
 else DL78_3 n f1 f2 part1 c9 k10 v25 v26 v27 begun7)
 else f1 part1 v25 v26 (wr .i64 (v27 + 1)) begun7)
noncomputable def DL78_2 (n : Nat × Nat) (f1 : ByteArray → List Int → Int → Int → List Int → Option R78) (m : Nat) : ByteArray → Int → Int → List Int → Int → Int → List Int → Option R78 := Nat.rec (motive := fun _ => ByteArray → Int → Int → List Int → Int → Int → List Int → Option R78) (fun _ _ _ _ _ _ _ => none) (fun _ ih => DF78_2 n f1 ih) m
theorem DL78_2_succ (n : Nat × Nat) (f1 : ByteArray → List Int → Int → Int → List Int → Option R78) (m : Nat) : DL78_2 n f1 (m + 1) = DF78_2 n f1 (DL78_2 n f1 m) := rfl
theorem DL78_2_eq (n : Nat × Nat) (hn : n.2 = 1) (m1 : Nat) : ∀ m, L78_2 n m1 m = DL78_2 n (L78_1 n m1) m
  | 0 => by funext part1 c9 k10 v25 v26 v27 begun7; kernel_rfl
  | m + 1 => by
    have ih := DL78_2_eq n hn m1 m
    funext part1 c9 k10 v25 v26 v27 begun7; refine (L78_2_eq n m1 m part1 c9 k10 v25 v26 v27 begun7).trans ?_
    rw [DL78_2_succ]
    unfold DF78_2
    (try simp only [ih, DL78_3_eq n hn, S92_D n hn]) <;> first | with_reducible rfl | rfl
noncomputable def DF78_1 (n : Nat × Nat) (f1 : ByteArray → List Int → Int → Int → List Int → Option R78) (part1 : ByteArray) (v25 : List Int) (v26 : Int) (v27 : Int) (begun7 : List Int) : Option R78 :=
 (bif decide (v27 < v26) then (idx v25 v27).bind fun x3' =>
      DL78_2 n f1 n.1 part1 x3' (part1.size : Int) v25 v26 v27 begun7
 else (bif inB (part1.size : Int) begun7.length then (idx begun7 (part1.size : Int)).bind fun x4' =>
 some (x4', 0)
 else none))
noncomputable def DL78_1 (n : Nat × Nat) (m : Nat) : ByteArray → List Int → Int → Int → List Int → Option R78 := Nat.rec (motive := fun _ => ByteArray → List Int → Int → Int → List Int → Option R78) (fun _ _ _ _ _ => none) (fun _ ih => DF78_1 n ih) m
theorem DL78_1_succ (n : Nat × Nat) (m : Nat) : DL78_1 n (m + 1) = DF78_1 n (DL78_1 n m) := rfl
theorem DL78_1_eq (n : Nat × Nat) (hn : n.2 = 1) : ∀ m, L78_1 n m = DL78_1 n m
  | 0 => by funext part1 v25 v26 v27 begun7; kernel_rfl
  | m + 1 => by
    have ih := DL78_1_eq n hn m
    funext part1 v25 v26 v27 begun7; refine (L78_1_eq n m part1 v25 v26 v27 begun7).trans ?_
    rw [DL78_1_succ]
    unfold DF78_1
    (try simp only [ih, DL78_3_eq n hn, DL78_2_eq n hn, S92_D n hn]) <;> first | with_reducible rfl | rfl
noncomputable def D78 (n : Nat × Nat) (word0 : ByteArray) (part1 : ByteArray) : Option R78 :=
 (D92 n [word0, part1]).bind fun r1' =>
 (bif (r1' != 0) then some (0, r1')
 else (bif decide (0 ≤ wr .i64 ((part1.size : Int) + 1)) && decide (wr .i64 ((part1.size : Int) + 1) ≤ wr .i64 ((part1.size : Int) + 1)) && decide (wr .i64 ((part1.size : Int) + 1) ≤ lim) then (bif inB 0 (List.replicate (Int.toNat (wr .i64 ((part1.size : Int) + 1))) (0 : Int)).length then (idx (List.replicate (Int.toNat (wr .i64 ((part1.size : Int) + 1))) (0 : Int)) 0).bind fun x2' =>
          DL78_1 n n.1 part1 (strBytes word0) ((strBytes word0).length : Int) 0 ((List.replicate (Int.toNat (wr .i64 ((part1.size : Int) + 1))) (0 : Int)).set (Int.toNat 0) 1)
 else none)
 else none))
theorem S78_D (n : Nat × Nat) (hn : n.2 = 1) : S78 n = D78 n := by
  funext word0 part1; refine (S78_eq n word0 part1).trans ?_
  unfold D78
  (try simp only [DL78_3_eq n hn, DL78_2_eq n hn, DL78_1_eq n hn, S92_D n hn]) <;> first | with_reducible rfl | rfl
/-D 93 -/
noncomputable def DF93_1 (n : Nat × Nat) (f1 : Int → ByteArray → Nat → Option R93) (letters1 : Int) (v22s : ByteArray) (v22p : Nat) : Option R93 :=
 (bif Nat.blt v22p v22s.size then ((strBytes v22s)[v22p]?).bind fun x3' =>
 (bif decide (x3' < 128) then (bif decide (x3' ≥ wr .i32 (97 + (wr .i32 letters1))) then some 2
 else f1 letters1 v22s (v22p + 1))
 else none)
 else some 0)
noncomputable def DL93_1 (n : Nat × Nat) (m : Nat) : Int → ByteArray → Nat → Option R93 := Nat.rec (motive := fun _ => Int → ByteArray → Nat → Option R93) (fun _ _ _ => none) (fun _ ih => DF93_1 n ih) m
theorem DL93_1_succ (n : Nat × Nat) (m : Nat) : DL93_1 n (m + 1) = DF93_1 n (DL93_1 n m) := rfl
theorem DL93_1_eq (n : Nat × Nat) (hn : n.2 = 1) : ∀ m, L93_1 n m = DL93_1 n m
  | 0 => by funext letters1 v22s v22p; kernel_rfl
  | m + 1 => by
    have ih := DL93_1_eq n hn m
    funext letters1 v22s v22p; refine (L93_1_eq n m letters1 v22s v22p).trans ?_
    rw [DL93_1_succ]
    unfold DF93_1
    (try simp only [ih, S100_D n hn]) <;> first | with_reducible rfl | rfl
noncomputable def D93 (n : Nat × Nat) (word0 : ByteArray) (letters1 : Int) : Option R93 :=
 (D100 n word0).bind fun r1' =>
 (bif (r1' != 0) then some r1'
 else ((bif (decide (letters1 < 1) == false) then some (decide (letters1 > 6))
 else some true)).bind fun b2' =>
 (bif b2' then some 1
 else DL93_1 n n.1 letters1 word0 0))
theorem S93_D (n : Nat × Nat) (hn : n.2 = 1) : S93 n = D93 n := by
  funext word0 letters1; refine (S93_eq n word0 letters1).trans ?_
  unfold D93
  (try simp only [DL93_1_eq n hn, S100_D n hn]) <;> first | with_reducible rfl | rfl
/-D 94 -/
noncomputable def DF94_1 (n : Nat × Nat) (f1 : Int → List Int → (List (Int × Bool)) → ByteArray → Nat → Option R94) (letters1 : Int) (out5 : List Int) (met6 : List (Int × Bool)) (v11s : ByteArray) (v11p : Nat) : Option R94 :=
 (bif Nat.blt v11p v11s.size then ((strBytes v11s)[v11p]?).bind fun x1' =>
 (bif decide (x1' < 128) then (bif (((aset met6 x1' true).length : Int) == letters1) then (bif decide (out5.length + [wr .i64 ((v11p : Int) + 1)].length ≤ lim) then f1 letters1 (out5 ++ [wr .i64 ((v11p : Int) + 1)]) [] v11s (v11p + 1)
 else none)
 else f1 letters1 out5 (aset met6 x1' true) v11s (v11p + 1))
 else none)
 else some out5)
noncomputable def DL94_1 (n : Nat × Nat) (m : Nat) : Int → List Int → (List (Int × Bool)) → ByteArray → Nat → Option R94 := Nat.rec (motive := fun _ => Int → List Int → (List (Int × Bool)) → ByteArray → Nat → Option R94) (fun _ _ _ _ _ => none) (fun _ ih => DF94_1 n ih) m
theorem DL94_1_succ (n : Nat × Nat) (m : Nat) : DL94_1 n (m + 1) = DF94_1 n (DL94_1 n m) := rfl
theorem DL94_1_eq (n : Nat × Nat) (hn : n.2 = 1) : ∀ m, L94_1 n m = DL94_1 n m
  | 0 => by funext letters1 out5 met6 v11s v11p; kernel_rfl
  | m + 1 => by
    have ih := DL94_1_eq n hn m
    funext letters1 out5 met6 v11s v11p; refine (L94_1_eq n m letters1 out5 met6 v11s v11p).trans ?_
    rw [DL94_1_succ]
    unfold DF94_1
    (try simp only [ih]) <;> first | with_reducible rfl | rfl
noncomputable def D94 (n : Nat × Nat) (word0 : ByteArray) (letters1 : Int) : Option R94 :=
    DL94_1 n n.1 letters1 [] [] word0 0
theorem S94_D (n : Nat × Nat) (hn : n.2 = 1) : S94 n = D94 n := by
  funext word0 letters1; refine (S94_eq n word0 letters1).trans ?_
  unfold D94
  (try simp only [DL94_1_eq n hn]) <;> first | with_reducible rfl | rfl
/-D 95 -/
noncomputable def DF95_1 (n : Nat × Nat) (f1 : List Int → Int → Int → Int → Option R95) (s0 : List Int) (v1 : Int) (v7 : Int) (v8 : Int) : Option R95 :=
 (bif decide (v8 < v7) then (idx s0 v8).bind fun x1' =>
 (bif (v1 == x1') then some v8
 else f1 s0 v1 v7 (wr .i64 (v8 + 1)))
 else some (-1))
noncomputable def DL95_1 (n : Nat × Nat) (m : Nat) : List Int → Int → Int → Int → Option R95 := Nat.rec (motive := fun _ => List Int → Int → Int → Int → Option R95) (fun _ _ _ _ => none) (fun _ ih => DF95_1 n ih) m
theorem DL95_1_succ (n : Nat × Nat) (m : Nat) : DL95_1 n (m + 1) = DF95_1 n (DL95_1 n m) := rfl
theorem DL95_1_eq (n : Nat × Nat) (hn : n.2 = 1) : ∀ m, L95_1 n m = DL95_1 n m
  | 0 => by funext s0 v1 v7 v8; kernel_rfl
  | m + 1 => by
    have ih := DL95_1_eq n hn m
    funext s0 v1 v7 v8; refine (L95_1_eq n m s0 v1 v7 v8).trans ?_
    rw [DL95_1_succ]
    unfold DF95_1
    (try simp only [ih]) <;> first | with_reducible rfl | rfl
noncomputable def D95 (n : Nat × Nat) (s0 : List Int) (v1 : Int) : Option R95 :=
    DL95_1 n n.1 s0 v1 (s0.length : Int) 0
theorem S95_D (n : Nat × Nat) (hn : n.2 = 1) : S95 n = D95 n := by
  funext s0 v1; refine (S95_eq n s0 v1).trans ?_
  unfold D95
  (try simp only [DL95_1_eq n hn]) <;> first | with_reducible rfl | rfl
/-D 79 -/
noncomputable def DL79_3 (n : Nat × Nat) (f1 : ByteArray → Int → List Int → Option R79) (f2 : ByteArray → Int → Int → Bool → Int → List Int → Option R79) (word0 : ByteArray) (letters1 : Int) (left8 : Int) (found9 : Bool) (c10 : Int) (out7 : List Int) : Option R79 :=
    f2 word0 letters1 left8 found9 (wr .u8 (c10 + 1)) out7
theorem DL79_3_eq (n : Nat × Nat) (hn : n.2 = 1) (m1 m2 : Nat) : L79_3 n m1 m2 = DL79_3 n (L79_1 n m1) (L79_2 n m1 m2) := by
  funext word0 letters1 left8 found9 c10 out7; refine ((held_eq hn _).trans (L79_3_raw n m1 m2 word0 letters1 left8 found9 c10 out7)).trans ?_
  unfold DL79_3
  (try simp only [S93_D n hn, S94_D n hn, S95_D n hn]) <;> first | with_reducible rfl | rfl
noncomputable def DF79_2 (n : Nat × Nat) (f1 : ByteArray → Int → List Int → Option R79) (f2 : ByteArray → Int → Int → Bool → Int → List Int → Option R79) (word0 : ByteArray) (letters1 : Int) (left8 : Int) (found9 : Bool) (c10 : Int) (out7 : List Int) : Option R79 :=
 ((bif (decide (c10 < wr .u8 (wr .i64 (97 + letters1))) == true) then some (!found9)
 else some false)).bind fun b3' =>
 (bif b3' then (D95 n (strBytes word0) c10).bind fun r4' =>
 (bif decide (r4' < 0) then (bif decide (out7.length + [c10].length ≤ lim) then some (strNums (out7 ++ [c10]), 0)
 else none)
 else ((bif (decide (left8 > 0) == true) then (bif bounds (some (wr .i64 (r4' + 1))) none none word0.size then (D94 n (strCut (some (wr .i64 (r4' + 1))) none word0) letters1).bind fun r5' =>
 some ((r5'.length : Int) == (wr .i64 (left8 - 1)))
 else none)
 else some false)).bind fun b6' =>
 (bif b6' then (bif decide (out7.length + [c10].length ≤ lim) then (bif bounds (some (wr .i64 (r4' + 1))) none none word0.size then DL79_3 n f1 f2 (strCut (some (wr .i64 (r4' + 1))) none word0) letters1 left8 true c10 (out7 ++ [c10])
 else none)
 else none)
 else DL79_3 n f1 f2 word0 letters1 left8 found9 c10 out7))
 else f1 word0 letters1 out7)
noncomputable def DL79_2 (n : Nat × Nat) (f1 : ByteArray → Int → List Int → Option R79) (m : Nat) : ByteArray → Int → Int → Bool → Int → List Int → Option R79 := Nat.rec (motive := fun _ => ByteArray → Int → Int → Bool → Int → List Int → Option R79) (fun _ _ _ _ _ _ => none) (fun _ ih => DF79_2 n f1 ih) m
theorem DL79_2_succ (n : Nat × Nat) (f1 : ByteArray → Int → List Int → Option R79) (m : Nat) : DL79_2 n f1 (m + 1) = DF79_2 n f1 (DL79_2 n f1 m) := rfl
theorem DL79_2_eq (n : Nat × Nat) (hn : n.2 = 1) (m1 : Nat) : ∀ m, L79_2 n m1 m = DL79_2 n (L79_1 n m1) m
  | 0 => by funext word0 letters1 left8 found9 c10 out7; kernel_rfl
  | m + 1 => by
    have ih := DL79_2_eq n hn m1 m
    funext word0 letters1 left8 found9 c10 out7; refine (L79_2_eq n m1 m word0 letters1 left8 found9 c10 out7).trans ?_
    rw [DL79_2_succ]
    unfold DF79_2
    (try simp only [ih, DL79_3_eq n hn, S93_D n hn, S94_D n hn, S95_D n hn]) <;> first | with_reducible rfl | rfl
noncomputable def DF79_1 (n : Nat × Nat) (f1 : ByteArray → Int → List Int → Option R79) (word0 : ByteArray) (letters1 : Int) (out7 : List Int) : Option R79 :=
 (D94 n word0 letters1).bind fun r2' =>
    DL79_2 n f1 n.1 word0 letters1 (r2'.length : Int) false 97 out7
noncomputable def DL79_1 (n : Nat × Nat) (m : Nat) : ByteArray → Int → List Int → Option R79 := Nat.rec (motive := fun _ => ByteArray → Int → List Int → Option R79) (fun _ _ _ => none) (fun _ ih => DF79_1 n ih) m
theorem DL79_1_succ (n : Nat × Nat) (m : Nat) : DL79_1 n (m + 1) = DF79_1 n (DL79_1 n m) := rfl
theorem DL79_1_eq (n : Nat × Nat) (hn : n.2 = 1) : ∀ m, L79_1 n m = DL79_1 n m
  | 0 => by funext word0 letters1 out7; kernel_rfl
  | m + 1 => by
    have ih := DL79_1_eq n hn m
    funext word0 letters1 out7; refine (L79_1_eq n m word0 letters1 out7).trans ?_
    rw [DL79_1_succ]
    unfold DF79_1
    (try simp only [ih, DL79_3_eq n hn, DL79_2_eq n hn, S93_D n hn, S94_D n hn, S95_D n hn]) <;> first | with_reducible rfl | rfl
noncomputable def D79 (n : Nat × Nat) (word0 : ByteArray) (letters1 : Int) : Option R79 :=
 (D93 n word0 letters1).bind fun r1' =>
 (bif (r1' != 0) then some ((⟨#[]⟩ : ByteArray), r1')
 else DL79_1 n n.1 word0 letters1 [])
theorem S79_D (n : Nat × Nat) (hn : n.2 = 1) : S79 n = D79 n := by
  funext word0 letters1; refine (S79_eq n word0 letters1).trans ?_
  unfold D79
  (try simp only [DL79_3_eq n hn, DL79_2_eq n hn, DL79_1_eq n hn, S93_D n hn, S94_D n hn, S95_D n hn]) <;> first | with_reducible rfl | rfl
/-D 80 -/
noncomputable def DL80_2 (n : Nat × Nat) (f1 : ByteArray → ByteArray → Int → Option R80) (word0 : ByteArray) (part1 : ByteArray) (i5 : Int) : Option R80 :=
    f1 word0 part1 (wr .i64 (i5 + 1))
theorem DL80_2_eq (n : Nat × Nat) (hn : n.2 = 1) (m1 : Nat) : L80_2 n m1 = DL80_2 n (L80_1 n m1) := by
  funext word0 part1 i5; refine ((held_eq hn _).trans (L80_2_raw n m1 word0 part1 i5)).trans ?_
  unfold DL80_2
  first | with_reducible rfl | rfl
noncomputable def DF80_1 (n : Nat × Nat) (f1 : ByteArray → ByteArray → Int → Option R80) (word0 : ByteArray) (part1 : ByteArray) (i5 : Int) : Option R80 :=
 ((bif (decide (i5 < (word0.size : Int)) == true) then some (!strEq part1 (⟨#[]⟩ : ByteArray))
 else some false)).bind fun b1' =>
 (bif b1' then (idx (strBytes word0) i5).bind fun x2' =>
 (idx (strBytes part1) 0).bind fun x3' =>
 (bif (x2' == x3') then (bif bounds (some 1) none none part1.size then DL80_2 n f1 word0 (strCut (some 1) none part1) i5
 else none)
 else DL80_2 n f1 word0 part1 i5)
 else some (strEq part1 (⟨#[]⟩ : ByteArray)))
noncomputable def DL80_1 (n : Nat × Nat) (m : Nat) : ByteArray → ByteArray → Int → Option R80 := Nat.rec (motive := fun _ => ByteArray → ByteArray → Int → Option R80) (fun _ _ _ => none) (fun _ ih => DF80_1 n ih) m
theorem DL80_1_succ (n : Nat × Nat) (m : Nat) : DL80_1 n (m + 1) = DF80_1 n (DL80_1 n m) := rfl
theorem DL80_1_eq (n : Nat × Nat) (hn : n.2 = 1) : ∀ m, L80_1 n m = DL80_1 n m
  | 0 => by funext word0 part1 i5; kernel_rfl
  | m + 1 => by
    have ih := DL80_1_eq n hn m
    funext word0 part1 i5; refine (L80_1_eq n m word0 part1 i5).trans ?_
    rw [DL80_1_succ]
    unfold DF80_1
    (try simp only [ih, DL80_2_eq n hn]) <;> first | with_reducible rfl | rfl
noncomputable def D80 (n : Nat × Nat) (word0 : ByteArray) (part1 : ByteArray) : Option R80 :=
    DL80_1 n n.1 word0 part1 0
theorem S80_D (n : Nat × Nat) (hn : n.2 = 1) : S80 n = D80 n := by
  funext word0 part1; refine (S80_eq n word0 part1).trans ?_
  unfold D80
  (try simp only [DL80_2_eq n hn, DL80_1_eq n hn]) <;> first | with_reducible rfl | rfl
/-D 70 -/
noncomputable def D70 (n : Nat × Nat) : Option R70 :=
 (D78 n (⟨#[97, 98, 99, 97]⟩ : ByteArray) (⟨#[97]⟩ : ByteArray)).bind fun r1' =>
 (D79 n (⟨#[97, 98, 98, 97]⟩ : ByteArray) 2).bind fun r2' =>
 ((bif ((r1'.2 == 0) == true) then some (r2'.2 == 0)
 else some false)).bind fun b3' =>
 ((bif (b3' == true) then some (r1'.1 == 2)
 else some false)).bind fun b4' =>
 ((bif (b4' == true) then some (strEq r2'.1 (⟨#[97, 97, 97]⟩ : ByteArray))
 else some false)).bind fun b5' =>
 ((bif (b5' == true) then (D80 n (⟨#[100, 97, 121, 45, 98, 111, 111, 107]⟩ : ByteArray) (⟨#[121, 98, 107]⟩ : ByteArray)).bind fun r6' =>
 some r6'
 else some false)).bind fun b7' =>
 some b7'
theorem S70_D (n : Nat × Nat) (hn : n.2 = 1) : S70 n = D70 n := by
  refine (S70_eq n).trans ?_
  unfold D70
  (try simp only [S78_D n hn, S79_D n hn, S80_D n hn]) <;> first | with_reducible rfl | rfl
/-D 58 -/
noncomputable def D58 (n : Nat × Nat) : Option R58 :=
 (D69 n (3, [(0, 1), (1, 2)])).bind fun r1' =>
 ((bif ((r1'.2 == 0) == true) then (D16 n r1'.1 [0, 2]).bind fun r2' =>
 some r2'
 else some false)).bind fun b3' =>
 ((bif (b3' == true) then (D70 n).bind fun r4' =>
 some r4'
 else some false)).bind fun b5' =>
 some b5'
theorem S58_D (n : Nat × Nat) (hn : n.2 = 1) : S58 n = D58 n := by
  refine (S58_eq n).trans ?_
  unfold D58
  (try simp only [S16_D n hn, S69_D n hn, S70_D n hn]) <;> first | with_reducible rfl | rfl
/-D 49 -/
noncomputable def D49 (n : Nat × Nat) : Option R49 :=
 (D57 n (3, [(0, 1), (0, 2), (1, 2)])).bind fun r1' =>
 ((bif ((r1'.2 == 0) == true) then (D16 n r1'.1 [0, 1]).bind fun r2' =>
 some r2'
 else some false)).bind fun b3' =>
 ((bif (b3' == true) then (D58 n).bind fun r4' =>
 some r4'
 else some false)).bind fun b5' =>
 some b5'
theorem S49_D (n : Nat × Nat) (hn : n.2 = 1) : S49 n = D49 n := by
  refine (S49_eq n).trans ?_
  unfold D49
  (try simp only [S16_D n hn, S57_D n hn, S58_D n hn]) <;> first | with_reducible rfl | rfl
/-D 41 -/
noncomputable def D41 (n : Nat × Nat) : Option R41 :=
 (D48 n (2, [0, 1, 2, 0, 1])).bind fun r1' =>
 ((bif ((r1'.2 == 0) == true) then some (r1'.1 == 4)
 else some false)).bind fun b2' =>
 ((bif (b2' == true) then (D49 n).bind fun r3' =>
 some r3'
 else some false)).bind fun b4' =>
 some b4'
theorem S41_D (n : Nat × Nat) (hn : n.2 = 1) : S41 n = D41 n := by
  refine (S41_eq n).trans ?_
  unfold D41
  (try simp only [S48_D n hn, S49_D n hn]) <;> first | with_reducible rfl | rfl
/-D 26 -/
noncomputable def D26 (n : Nat × Nat) : Option R26 :=
 (D40 n [(3, 1), (1, 1), (2, 1)]).bind fun r1' =>
 ((bif ((r1'.2 == 0) == true) then (D16 n r1'.1 [0]).bind fun r2' =>
 some r2'
 else some false)).bind fun b3' =>
 ((bif (b3' == true) then (D41 n).bind fun r4' =>
 some r4'
 else some false)).bind fun b5' =>
 some b5'
theorem S26_D (n : Nat × Nat) (hn : n.2 = 1) : S26 n = D26 n := by
  refine (S26_eq n).trans ?_
  unfold D26
  (try simp only [S16_D n hn, S40_D n hn, S41_D n hn]) <;> first | with_reducible rfl | rfl
/-D 11 -/
noncomputable def D11 (n : Nat × Nat) : Option R11 :=
 (D25 n ([(1, 3), (1, 4), (1, 2)], 7, 0) 2).bind fun r1' =>
 ((bif ((r1'.2 == 0) == true) then some (r1'.1 == 6)
 else some false)).bind fun b2' =>
 ((bif (b2' == true) then (D26 n).bind fun r3' =>
 some r3'
 else some false)).bind fun b4' =>
 some b4'
theorem S11_D (n : Nat × Nat) (hn : n.2 = 1) : S11 n = D11 n := by
  refine (S11_eq n).trans ?_
  unfold D11
  (try simp only [S25_D n hn, S26_D n hn]) <;> first | with_reducible rfl | rfl
/-D 17 -/
noncomputable def D17 (n : Nat × Nat) : Option R17 :=
 (D13 n [1, 3, 4] 6).bind fun r1' =>
 ((bif ((r1'.2 == 0) == true) then (D16 n r1'.1 [0, 2, 0]).bind fun r2' =>
 some r2'
 else some false)).bind fun b3' =>
 ((bif (b3' == true) then (D11 n).bind fun r4' =>
 some r4'
 else some false)).bind fun b5' =>
 some b5'
theorem S17_D (n : Nat × Nat) (hn : n.2 = 1) : S17 n = D17 n := by
  refine (S17_eq n).trans ?_
  unfold D17
  (try simp only [S11_D n hn, S13_D n hn, S16_D n hn]) <;> first | with_reducible rfl | rfl
/-D 4 -/
noncomputable def DF4_2 (n : Nat × Nat) (f1 : List Int → Int → Int → Int → Int → Int → List Int → List Int → Option R4) (f2 : List Int → Int → Int → Int → Int → Int → Int → Int → Int → List Int → List Int → Option R4) (coins5 : List Int) (size6 : Int) (s7 : Int) (v16 : Int) (k19 : Int) (v115 : Int) (v116 : Int) (v127 : Int) (v128 : Int) (pieces18 : List Int) (v114 : List Int) : Option R4 :=
 (bif decide (v128 < v127) then (idx coins5 k19).bind fun x24' =>
 (bif decide (pieces18.length + [x24'].length ≤ lim) then f2 coins5 size6 s7 v16 k19 v115 v116 v127 (wr .i64 (v128 + 1)) (pieces18 ++ [x24']) v114
 else none)
 else f1 coins5 size6 s7 v16 v115 (wr .i64 (v116 + 1)) pieces18 v114)
noncomputable def DL4_2 (n : Nat × Nat) (f1 : List Int → Int → Int → Int → Int → Int → List Int → List Int → Option R4) (m : Nat) : List Int → Int → Int → Int → Int → Int → Int → Int → Int → List Int → List Int → Option R4 := Nat.rec (motive := fun _ => List Int → Int → Int → Int → Int → Int → Int → Int → Int → List Int → List Int → Option R4) (fun _ _ _ _ _ _ _ _ _ _ _ => none) (fun _ ih => DF4_2 n f1 ih) m
theorem DL4_2_succ (n : Nat × Nat) (f1 : List Int → Int → Int → Int → Int → Int → List Int → List Int → Option R4) (m : Nat) : DL4_2 n f1 (m + 1) = DF4_2 n f1 (DL4_2 n f1 m) := rfl
theorem DL4_2_eq (n : Nat × Nat) (hn : n.2 = 1) (m1 : Nat) : ∀ m, L4_2 n m1 m = DL4_2 n (L4_1 n m1) m
  | 0 => by funext coins5 size6 s7 v16 k19 v115 v116 v127 v128 pieces18 v114; kernel_rfl
  | m + 1 => by
    have ih := DL4_2_eq n hn m1 m
    funext coins5 size6 s7 v16 k19 v115 v116 v127 v128 pieces18 v114; refine (L4_2_eq n m1 m coins5 size6 s7 v16 k19 v115 v116 v127 v128 pieces18 v114).trans ?_
    rw [DL4_2_succ]
    unfold DF4_2
    (try simp only [ih, S12_D n hn, S13_D n hn, S14_D n hn, S15_D n hn, S16_D n hn, S17_D n hn, S8_D n hn, S9_D n hn]) <;> first | with_reducible rfl | rfl
noncomputable def DF4_1 (n : Nat × Nat) (f1 : List Int → Int → Int → Int → Int → Int → List Int → List Int → Option R4) (coins5 : List Int) (size6 : Int) (s7 : Int) (v16 : Int) (v115 : Int) (v116 : Int) (pieces18 : List Int) (v114 : List Int) : Option R4 :=
 (bif decide (v116 < v115) then (bif inB v116 v114.length then (idx v114 v116).bind fun x17' =>
 ((bif (decide (x17' < 0) == false) then some (decide (x17' > 100))
 else some true)).bind fun b18' =>
 (bif b18' then some false
 else DL4_2 n f1 n.1 coins5 size6 s7 v16 v116 v115 v116 x17' 0 pieces18 v114)
 else none)
 else (bif ((pieces18.length : Int) != v16) then some false
 else (bif decide ((pieces18.length : Int) > 8) then (D17 n).bind fun r19' =>
 some r19'
 else (D8 n size6 pieces18).bind fun r20' =>
 ((bif ((r20'.2 == 0) == true) then (bif size6 == 0 then none
 else some (r20'.1 == (wr .i64 (Int.tdiv (wr .i64 ((wr .i64 (s7 + size6)) - 1)) size6))))
 else some false)).bind fun b21' =>
 ((bif (b21' == true) then (D17 n).bind fun r22' =>
 some r22'
 else some false)).bind fun b23' =>
 some b23')))
noncomputable def DL4_1 (n : Nat × Nat) (m : Nat) : List Int → Int → Int → Int → Int → Int → List Int → List Int → Option R4 := Nat.rec (motive := fun _ => List Int → Int → Int → Int → Int → Int → List Int → List Int → Option R4) (fun _ _ _ _ _ _ _ _ => none) (fun _ ih => DF4_1 n ih) m
theorem DL4_1_succ (n : Nat × Nat) (m : Nat) : DL4_1 n (m + 1) = DF4_1 n (DL4_1 n m) := rfl
theorem DL4_1_eq (n : Nat × Nat) (hn : n.2 = 1) : ∀ m, L4_1 n m = DL4_1 n m
  | 0 => by funext coins5 size6 s7 v16 v115 v116 pieces18 v114; kernel_rfl
  | m + 1 => by
    have ih := DL4_1_eq n hn m
    funext coins5 size6 s7 v16 v115 v116 pieces18 v114; refine (L4_1_eq n m coins5 size6 s7 v16 v115 v116 pieces18 v114).trans ?_
    rw [DL4_1_succ]
    unfold DF4_1
    (try simp only [ih, DL4_2_eq n hn, S12_D n hn, S13_D n hn, S14_D n hn, S15_D n hn, S16_D n hn, S17_D n hn, S8_D n hn, S9_D n hn]) <;> first | with_reducible rfl | rfl
noncomputable def D4 (n : Nat × Nat) (kind0 : Int) (sum1 : Int) : Option R4 :=
 (bif 8 == 0 then none
 else (bif inB (Int.tmod kind0 8) ([[1, 2, 4, 8], [1, 3, 6, 24], [1, 2, 6, 12], [1, 4, 20], [1, 5, 10, 20], [1, 2, 4, 12, 24], [1], [1, 7, 21]]).length then (idx ([[1, 2, 4, 8], [1, 3, 6, 24], [1, 2, 6, 12], [1, 4, 20], [1, 5, 10, 20], [1, 2, 4, 12, 24], [1], [1, 7, 21]]) (Int.tmod kind0 8)).bind fun x1' =>
 (idx x1' (wr .i64 ((x1'.length : Int) - 1))).bind fun x2' =>
 (bif (wr .i64 (3 * x2')) == 0 then none
 else (D9 n x2' x1').bind fun r3' =>
 (D12 n x1').bind fun r4' =>
 (D13 n x1' (Int.tmod (wr .i64 sum1) (wr .i64 (3 * x2')))).bind fun r5' =>
 (D14 n x1' (Int.tmod (wr .i64 sum1) (wr .i64 (3 * x2')))).bind fun r6' =>
 (D15 n x1' (Int.tmod (wr .i64 sum1) (wr .i64 (3 * x2')))).bind fun r7' =>
 ((bif ((r3'.2 != 0) == false) then some (r4'.2 != 0)
 else some true)).bind fun b8' =>
 ((bif (b8' == false) then some (r5'.2 != 0)
 else some true)).bind fun b9' =>
 ((bif (b9' == false) then some (r6'.2 != 0)
 else some true)).bind fun b10' =>
 ((bif (b10' == false) then some (r7'.2 != 0)
 else some true)).bind fun b11' =>
 ((bif (b11' == false) then some (!r3'.1)
 else some true)).bind fun b12' =>
 ((bif (b12' == false) then some (!r4'.1)
 else some true)).bind fun b13' =>
 ((bif (b13' == false) then (D16 n r5'.1 r6'.1).bind fun r14' =>
 some (!r14')
 else some true)).bind fun b15' =>
 ((bif (b15' == false) then some ((r5'.1.length : Int) != (x1'.length : Int))
 else some true)).bind fun b16' =>
 (bif b16' then some false
 else DL4_1 n n.1 x1' x2' (Int.tmod (wr .i64 sum1) (wr .i64 (3 * x2'))) r7'.1 (r5'.1.length : Int) 0 [] r5'.1))
 else none))
theorem S4_D (n : Nat × Nat) (hn : n.2 = 1) : S4 n = D4 n := by
  funext kind0 sum1; refine (S4_eq n kind0 sum1).trans ?_
  unfold D4
  (try simp only [DL4_2_eq n hn, DL4_1_eq n hn, S12_D n hn, S13_D n hn, S14_D n hn, S15_D n hn, S16_D n hn, S17_D n hn, S8_D n hn, S9_D n hn]) <;> first | with_reducible rfl | rfl
def M : Nat × Nat := (100000, 1)
noncomputable def yesT (o : Option Bool) : Bool := match o with | some b => b | none => false
theorem yesT_some {o : Option Bool} (h : yesT o = true) : o = some true := by
  cases o with
  | none => cases h
  | some b => exact congrArg some h
theorem by_u8 {n : Int} (h : Wf (.int .u8) n) : 0 ≤ n ∧ n ≤ 255 := by
  have h : (Lit.int .u8 n).wf = true := h
  simp only [Lit.wf, Bool.and_eq_true, decide_eq_true_eq] at h
  exact h
theorem tmod_small (k : Nat) (hk : 0 < k) {m : Int} (h : 0 ≤ m ∧ m ≤ 255) : ∃ a : Nat, a < k ∧ Int.tmod (wr .i64 m) (k : Int) = (a : Int) := by
  obtain ⟨x, rfl⟩ := Int.eq_ofNat_of_zero_le h.1
  have e : wr .i64 (x : Int) = (x : Int) := by
    show IntKind.i64.wrap _ = _
    rw [IntKind.wrap_i64]
    omega
  rw [e]
  exact ⟨x % k, Nat.mod_lt _ hk, (Int.ofNat_tmod x k).symm⟩
def coinsOf (a : Nat) : List Int := ([[1, 2, 4, 8], [1, 3, 6, 24], [1, 2, 6, 12], [1, 4, 20], [1, 5, 10, 20], [1, 2, 4, 12, 24], [1], [1, 7, 21]] : List (List Int)).getD a []
def sizeOf' (a : Nat) : Nat := [8, 24, 12, 20, 20, 24, 1, 21].getD a 0
noncomputable def core (c : List Int) (z s : Int) : Option R4 :=
  ((D9 M z c).bind fun r3' =>
          (D12 M c).bind fun r4' =>
          (D13 M c s).bind fun r5' =>
          (D14 M c s).bind fun r6' =>
          (D15 M c s).bind fun r7' =>
          ((bif ((r3'.2 != 0) == false) then some (r4'.2 != 0)
            else some true)).bind fun b8' =>
          ((bif (b8' == false) then some (r5'.2 != 0)
            else some true)).bind fun b9' =>
          ((bif (b9' == false) then some (r6'.2 != 0)
            else some true)).bind fun b10' =>
          ((bif (b10' == false) then some (r7'.2 != 0)
            else some true)).bind fun b11' =>
          ((bif (b11' == false) then some (!r3'.1)
            else some true)).bind fun b12' =>
          ((bif (b12' == false) then some (!r4'.1)
            else some true)).bind fun b13' =>
          ((bif (b13' == false) then (D16 M r5'.1 r6'.1).bind fun r14' =>
              some (!r14')
            else some true)).bind fun b15' =>
          ((bif (b15' == false) then some ((r5'.1.length : Int) != (c.length : Int))
            else some true)).bind fun b16' =>
          (bif b16' then some false
          else DL4_1 M M.1 c z s r7'.1 (r5'.1.length : Int) 0 [] r5'.1))
theorem chain_all : ((List.range 8).all fun a => (List.range (3 * sizeOf' a)).all fun s => yesT (core (coinsOf a) (sizeOf' a : Int) (s : Int))) = true := by kernel_rfl
noncomputable def bodyAt (r : Int) (sum : Int) : Option R4 :=
  
    (bif 8 == 0 then none
    else (bif inB r ([[1, 2, 4, 8], [1, 3, 6, 24], [1, 2, 6, 12], [1, 4, 20], [1, 5, 10, 20], [1, 2, 4, 12, 24], [1], [1, 7, 21]]).length then (idx ([[1, 2, 4, 8], [1, 3, 6, 24], [1, 2, 6, 12], [1, 4, 20], [1, 5, 10, 20], [1, 2, 4, 12, 24], [1], [1, 7, 21]]) r).bind fun x1' =>
        (idx x1' (wr .i64 ((x1'.length : Int) - 1))).bind fun x2' =>
        (bif (wr .i64 (3 * x2')) == 0 then none
        else (D9 M x2' x1').bind fun r3' =>
          (D12 M x1').bind fun r4' =>
          (D13 M x1' (Int.tmod (wr .i64 sum) (wr .i64 (3 * x2')))).bind fun r5' =>
          (D14 M x1' (Int.tmod (wr .i64 sum) (wr .i64 (3 * x2')))).bind fun r6' =>
          (D15 M x1' (Int.tmod (wr .i64 sum) (wr .i64 (3 * x2')))).bind fun r7' =>
          ((bif ((r3'.2 != 0) == false) then some (r4'.2 != 0)
            else some true)).bind fun b8' =>
          ((bif (b8' == false) then some (r5'.2 != 0)
            else some true)).bind fun b9' =>
          ((bif (b9' == false) then some (r6'.2 != 0)
            else some true)).bind fun b10' =>
          ((bif (b10' == false) then some (r7'.2 != 0)
            else some true)).bind fun b11' =>
          ((bif (b11' == false) then some (!r3'.1)
            else some true)).bind fun b12' =>
          ((bif (b12' == false) then some (!r4'.1)
            else some true)).bind fun b13' =>
          ((bif (b13' == false) then (D16 M r5'.1 r6'.1).bind fun r14' =>
              some (!r14')
            else some true)).bind fun b15' =>
          ((bif (b15' == false) then some ((r5'.1.length : Int) != (x1'.length : Int))
            else some true)).bind fun b16' =>
          (bif b16' then some false
          else DL4_1 M M.1 x1' x2' (Int.tmod (wr .i64 sum) (wr .i64 (3 * x2'))) r7'.1 (r5'.1.length : Int) 0 [] r5'.1))
      else none))
theorem D4_body (kind sum : Int) : D4 M kind sum = bodyAt (Int.tmod kind 8) sum := rfl
theorem body0 (sum : Int) : bodyAt 0 sum = core (coinsOf 0) (sizeOf' 0 : Int) (Int.tmod (wr .i64 sum) (wr .i64 (3 * 8))) := by kernel_rfl
theorem body1 (sum : Int) : bodyAt 1 sum = core (coinsOf 1) (sizeOf' 1 : Int) (Int.tmod (wr .i64 sum) (wr .i64 (3 * 24))) := by kernel_rfl
theorem body2 (sum : Int) : bodyAt 2 sum = core (coinsOf 2) (sizeOf' 2 : Int) (Int.tmod (wr .i64 sum) (wr .i64 (3 * 12))) := by kernel_rfl
theorem body3 (sum : Int) : bodyAt 3 sum = core (coinsOf 3) (sizeOf' 3 : Int) (Int.tmod (wr .i64 sum) (wr .i64 (3 * 20))) := by kernel_rfl
theorem body4 (sum : Int) : bodyAt 4 sum = core (coinsOf 4) (sizeOf' 4 : Int) (Int.tmod (wr .i64 sum) (wr .i64 (3 * 20))) := by kernel_rfl
theorem body5 (sum : Int) : bodyAt 5 sum = core (coinsOf 5) (sizeOf' 5 : Int) (Int.tmod (wr .i64 sum) (wr .i64 (3 * 24))) := by kernel_rfl
theorem body6 (sum : Int) : bodyAt 6 sum = core (coinsOf 6) (sizeOf' 6 : Int) (Int.tmod (wr .i64 sum) (wr .i64 (3 * 1))) := by kernel_rfl
theorem body7 (sum : Int) : bodyAt 7 sum = core (coinsOf 7) (sizeOf' 7 : Int) (Int.tmod (wr .i64 sum) (wr .i64 (3 * 21))) := by kernel_rfl
theorem tmod8 {m : Int} (h : 0 ≤ m ∧ m ≤ 255) : ∃ a : Nat, a < 8 ∧ Int.tmod m 8 = (a : Int) := by
  obtain ⟨x, rfl⟩ := Int.eq_ofNat_of_zero_le h.1
  exact ⟨x % 8, Nat.mod_lt _ (by decide), (Int.ofNat_tmod x 8).symm⟩
theorem chains_ok (kind sum : Int) (hk : 0 ≤ kind ∧ kind ≤ 255) (hs : 0 ≤ sum ∧ sum ≤ 255) : D4 M kind sum = some true := by
  obtain ⟨a, ha, e⟩ := tmod8 hk
  rw [D4_body, e]
  have h := fun (s : Nat) (hs : s < 3 * sizeOf' a) => List.all_eq_true.1 (List.all_eq_true.1 chain_all a (List.mem_range.2 ha)) s (List.mem_range.2 hs)
  match a, ha with
  | 0, _ =>
    obtain ⟨b, hb, e2⟩ := tmod_small 24 (by decide) hs
    refine (body0 sum).trans ?_
    rw [show wr .i64 (3 * 8) = ((24 : Nat) : Int) by kernel_rfl, e2]
    exact yesT_some (h b hb)
  | 1, _ =>
    obtain ⟨b, hb, e2⟩ := tmod_small 72 (by decide) hs
    refine (body1 sum).trans ?_
    rw [show wr .i64 (3 * 24) = ((72 : Nat) : Int) by kernel_rfl, e2]
    exact yesT_some (h b hb)
  | 2, _ =>
    obtain ⟨b, hb, e2⟩ := tmod_small 36 (by decide) hs
    refine (body2 sum).trans ?_
    rw [show wr .i64 (3 * 12) = ((36 : Nat) : Int) by kernel_rfl, e2]
    exact yesT_some (h b hb)
  | 3, _ =>
    obtain ⟨b, hb, e2⟩ := tmod_small 60 (by decide) hs
    refine (body3 sum).trans ?_
    rw [show wr .i64 (3 * 20) = ((60 : Nat) : Int) by kernel_rfl, e2]
    exact yesT_some (h b hb)
  | 4, _ =>
    obtain ⟨b, hb, e2⟩ := tmod_small 60 (by decide) hs
    refine (body4 sum).trans ?_
    rw [show wr .i64 (3 * 20) = ((60 : Nat) : Int) by kernel_rfl, e2]
    exact yesT_some (h b hb)
  | 5, _ =>
    obtain ⟨b, hb, e2⟩ := tmod_small 72 (by decide) hs
    refine (body5 sum).trans ?_
    rw [show wr .i64 (3 * 24) = ((72 : Nat) : Int) by kernel_rfl, e2]
    exact yesT_some (h b hb)
  | 6, _ =>
    obtain ⟨b, hb, e2⟩ := tmod_small 3 (by decide) hs
    refine (body6 sum).trans ?_
    rw [show wr .i64 (3 * 1) = ((3 : Nat) : Int) by kernel_rfl, e2]
    exact yesT_some (h b hb)
  | 7, _ =>
    obtain ⟨b, hb, e2⟩ := tmod_small 63 (by decide) hs
    refine (body7 sum).trans ?_
    rw [show wr .i64 (3 * 21) = ((63 : Nat) : Int) by kernel_rfl, e2]
    exact yesT_some (h b hb)
end Go.Proofs.YtkfkbebinhkdlaaGreatDoor
