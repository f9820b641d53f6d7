/- Texts of this claim, joined: D8 to Tu. -/
import Derived.KernelRfl
import Derived.Test.YtkfkbebinhkdlaaDoorProg
import Derived.WalkKit
import Derived.Test.YtkfkbebinhkdlaaDoorQTopPartsCard6
set_option linter.unusedVariables false
set_option linter.unusedSimpArgs false
set_option maxRecDepth 100000
namespace Go.Proofs.YtkfkbebinhkdlaaDoor
open Go.Vi
/-D 8 -/
noncomputable def DL8_3 (n : Nat × Nat) (f1 : Int → (List (Int × Int × Int × Int × Int × Int)) → Int → Int → List ByteArray → Option R8) (letters2 : Int) (v14 : List (Int × Int × Int × Int × Int × Int)) (v15 : Int) (v16 : Int) (out7 : List ByteArray) : Option R8 :=
    f1 letters2 v14 v15 (wr .i64 (v16 + 1)) out7
theorem DL8_3_eq (n : Nat × Nat) (hn : n.2 = 1) (m1 : Nat) : L8_3 n m1 = DL8_3 n (L8_1 n m1) := by
  funext letters2 v14 v15 v16 out7; refine ((held_eq hn _).trans (L8_3_raw n m1 letters2 v14 v15 v16 out7)).trans ?_
  unfold DL8_3
  (try simp only [S30_D n hn]) <;> first | with_reducible rfl | rfl
noncomputable def DF8_2 (n : Nat × Nat) (f1 : Int → (List (Int × Int × Int × Int × Int × Int)) → Int → Int → List ByteArray → Option R8) (f2 : Int → ByteArray → (List (Int × Int × Int × Int × Int × Int)) → Int → Int → List Int → Int → Int → List ByteArray → Option R8) (letters2 : Int) (w10 : ByteArray) (v14 : List (Int × Int × Int × Int × Int × Int)) (v15 : Int) (v16 : Int) (v27 : List Int) (v28 : Int) (v29 : Int) (out7 : List ByteArray) : Option R8 :=
 (bif decide (v29 < v28) then (idx v27 v29).bind fun x3' =>
 (bif 3 == 0 then none
 else (bif 3 == 0 then none
 else (bif bounds (some (Int.tmod x3' 3)) (some (wr .u8 ((Int.tmod x3' 3) + 1))) none (⟨#[97, 98, 99]⟩ : ByteArray).size then (bif decide (w10.size + (strCut (some (Int.tmod x3' 3)) (some (wr .u8 ((Int.tmod x3' 3) + 1))) (⟨#[97, 98, 99]⟩ : ByteArray)).size ≤ lim) then f2 letters2 (strApp w10 (strCut (some (Int.tmod x3' 3)) (some (wr .u8 ((Int.tmod x3' 3) + 1))) (⟨#[97, 98, 99]⟩ : ByteArray))) v14 v15 v16 v27 v28 (wr .i64 (v29 + 1)) out7
 else none)
 else none)))
 else (D30 n out7 w10).bind fun r4' =>
 (bif (!r4') then (bif decide (out7.length + [w10].length ≤ lim) then DL8_3 n f1 letters2 v14 v15 v16 (out7 ++ [w10])
 else none)
 else DL8_3 n f1 letters2 v14 v15 v16 out7))
noncomputable def DL8_2 (n : Nat × Nat) (f1 : Int → (List (Int × Int × Int × Int × Int × Int)) → Int → Int → List ByteArray → Option R8) (m : Nat) : Int → ByteArray → (List (Int × Int × Int × Int × Int × Int)) → Int → Int → List Int → Int → Int → List ByteArray → Option R8 := Nat.rec (motive := fun _ => Int → ByteArray → (List (Int × Int × Int × Int × Int × Int)) → Int → Int → List Int → Int → Int → List ByteArray → Option R8) (fun _ _ _ _ _ _ _ _ _ => none) (fun _ ih => DF8_2 n f1 ih) m
theorem DL8_2_succ (n : Nat × Nat) (f1 : Int → (List (Int × Int × Int × Int × Int × Int)) → Int → Int → List ByteArray → Option R8) (m : Nat) : DL8_2 n f1 (m + 1) = DF8_2 n f1 (DL8_2 n f1 m) := rfl
theorem DL8_2_eq (n : Nat × Nat) (hn : n.2 = 1) (m1 : Nat) : ∀ m, L8_2 n m1 m = DL8_2 n (L8_1 n m1) m
  | 0 => by funext letters2 w10 v14 v15 v16 v27 v28 v29 out7; kernel_rfl
  | m + 1 => by
    have ih := DL8_2_eq n hn m1 m
    funext letters2 w10 v14 v15 v16 v27 v28 v29 out7; refine (L8_2_eq n m1 m letters2 w10 v14 v15 v16 v27 v28 v29 out7).trans ?_
    rw [DL8_2_succ]
    unfold DF8_2
    (try simp only [ih, DL8_3_eq n hn, S30_D n hn]) <;> first | with_reducible rfl | rfl
noncomputable def DF8_1 (n : Nat × Nat) (f1 : Int → (List (Int × Int × Int × Int × Int × Int)) → Int → Int → List ByteArray → Option R8) (letters2 : Int) (v14 : List (Int × Int × Int × Int × Int × Int)) (v15 : Int) (v16 : Int) (out7 : List ByteArray) : Option R8 :=
 (bif decide (v16 < v15) then (idx v14 v16).bind fun x1' =>
 (bif inB 0 6 then (idx [x1'.1, x1'.2.1, x1'.2.2.1, x1'.2.2.2.1, x1'.2.2.2.2.1, x1'.2.2.2.2.2] 0).bind fun x2' =>
 (bif (wr .i64 (letters2 + 1)) == 0 then none
 else (bif bounds (some 1) (some (wr .i64 (1 + (Int.tmod (wr .i64 x2') (wr .i64 (letters2 + 1)))))) none 6 then DL8_2 n f1 n.1 letters2 (⟨#[]⟩ : ByteArray) v14 v15 v16 (([x1'.1, x1'.2.1, x1'.2.2.1, x1'.2.2.2.1, x1'.2.2.2.2.1, x1'.2.2.2.2.2].take (Int.toNat (wr .i64 (1 + (Int.tmod (wr .i64 x2') (wr .i64 (letters2 + 1))))))).drop (Int.toNat 1)) ((([x1'.1, x1'.2.1, x1'.2.2.1, x1'.2.2.2.1, x1'.2.2.2.2.1, x1'.2.2.2.2.2].take (Int.toNat (wr .i64 (1 + (Int.tmod (wr .i64 x2') (wr .i64 (letters2 + 1))))))).drop (Int.toNat 1)).length : Int) 0 out7
 else none))
 else none)
 else some out7)
noncomputable def DL8_1 (n : Nat × Nat) (m : Nat) : Int → (List (Int × Int × Int × Int × Int × Int)) → Int → Int → List ByteArray → Option R8 := Nat.rec (motive := fun _ => Int → (List (Int × Int × Int × Int × Int × Int)) → Int → Int → List ByteArray → Option R8) (fun _ _ _ _ _ => none) (fun _ ih => DF8_1 n ih) m
theorem DL8_1_succ (n : Nat × Nat) (m : Nat) : DL8_1 n (m + 1) = DF8_1 n (DL8_1 n m) := rfl
theorem DL8_1_eq (n : Nat × Nat) (hn : n.2 = 1) : ∀ m, L8_1 n m = DL8_1 n m
  | 0 => by funext letters2 v14 v15 v16 out7; kernel_rfl
  | m + 1 => by
    have ih := DL8_1_eq n hn m
    funext letters2 v14 v15 v16 out7; refine (L8_1_eq n m letters2 v14 v15 v16 out7).trans ?_
    rw [DL8_1_succ]
    unfold DF8_1
    (try simp only [ih, DL8_3_eq n hn, DL8_2_eq n hn, S30_D n hn]) <;> first | with_reducible rfl | rfl
noncomputable def D8 (n : Nat × Nat) (words0 : (Int × Int × Int × Int × Int × Int) × (Int × Int × Int × Int × Int × Int) × (Int × Int × Int × Int × Int × Int) × (Int × Int × Int × Int × Int × Int) × (Int × Int × Int × Int × Int × Int) × (Int × Int × Int × Int × Int × Int) × (Int × Int × Int × Int × Int × Int) × Int × Int × Int × Int × Int × Int) (many1 : Int) (letters2 : Int) : Option R8 :=
 (bif bounds none (some many1) none 8 then DL8_1 n n.1 letters2 ([words0.1, words0.2.1, words0.2.2.1, words0.2.2.2.1, words0.2.2.2.2.1, words0.2.2.2.2.2.1, words0.2.2.2.2.2.2.1, words0.2.2.2.2.2.2.2].take (Int.toNat many1)) (([words0.1, words0.2.1, words0.2.2.1, words0.2.2.2.1, words0.2.2.2.2.1, words0.2.2.2.2.2.1, words0.2.2.2.2.2.2.1, words0.2.2.2.2.2.2.2].take (Int.toNat many1)).length : Int) 0 []
 else none)
theorem S8_D (n : Nat × Nat) (hn : n.2 = 1) : S8 n = D8 n := by
  funext words0 many1 letters2; refine (S8_eq n words0 many1 letters2).trans ?_
  unfold D8
  (try simp only [DL8_3_eq n hn, DL8_2_eq n hn, DL8_1_eq n hn, S30_D n hn]) <;> first | with_reducible rfl | rfl
/-D 12 -/
noncomputable def D12 (n : Nat × Nat) (b0 : Int × List (Int × Int)) : Option R12 := HF12 b0
theorem S12_D (n : Nat × Nat) (hn : n.2 = 1) : S12 n = D12 n := by unfold S12 D12; rfl
/-D 104 -/
noncomputable def D104 (n : Nat × Nat) (x0 : Int) (y1 : Int) : Option R104 :=
 (bif decide (32 < 0) then none
 else (bif decide (32 < 0) then none
 else (bif decide (32 < 0) then none
 else (bif decide (32 < 0) then none
 else (bif decide (32 < 0) then none
 else some (wr .u64 ((wr .u64 ((wr .u64 ((Int.fdiv x0 (2 ^ (min (Int.toNat 32) (IntKind.bits .u64)))) * (Int.fdiv y1 (2 ^ (min (Int.toNat 32) (IntKind.bits .u64)))))) + (Int.fdiv (wr .u64 ((wr .u64 ((Int.fdiv x0 (2 ^ (min (Int.toNat 32) (IntKind.bits .u64)))) * (wr .u64 (BitVec.ofInt (IntKind.bits .u64) y1 &&& BitVec.ofInt (IntKind.bits .u64) 4294967295).toNat))) + (Int.fdiv (wr .u64 ((wr .u64 (BitVec.ofInt (IntKind.bits .u64) x0 &&& BitVec.ofInt (IntKind.bits .u64) 4294967295).toNat) * (wr .u64 (BitVec.ofInt (IntKind.bits .u64) y1 &&& BitVec.ofInt (IntKind.bits .u64) 4294967295).toNat))) (2 ^ (min (Int.toNat 32) (IntKind.bits .u64)))))) (2 ^ (min (Int.toNat 32) (IntKind.bits .u64)))))) + (Int.fdiv (wr .u64 ((wr .u64 (BitVec.ofInt (IntKind.bits .u64) (wr .u64 ((wr .u64 ((Int.fdiv x0 (2 ^ (min (Int.toNat 32) (IntKind.bits .u64)))) * (wr .u64 (BitVec.ofInt (IntKind.bits .u64) y1 &&& BitVec.ofInt (IntKind.bits .u64) 4294967295).toNat))) + (Int.fdiv (wr .u64 ((wr .u64 (BitVec.ofInt (IntKind.bits .u64) x0 &&& BitVec.ofInt (IntKind.bits .u64) 4294967295).toNat) * (wr .u64 (BitVec.ofInt (IntKind.bits .u64) y1 &&& BitVec.ofInt (IntKind.bits .u64) 4294967295).toNat))) (2 ^ (min (Int.toNat 32) (IntKind.bits .u64)))))) &&& BitVec.ofInt (IntKind.bits .u64) 4294967295).toNat) + (wr .u64 ((wr .u64 (BitVec.ofInt (IntKind.bits .u64) x0 &&& BitVec.ofInt (IntKind.bits .u64) 4294967295).toNat) * (Int.fdiv y1 (2 ^ (min (Int.toNat 32) (IntKind.bits .u64)))))))) (2 ^ (min (Int.toNat 32) (IntKind.bits .u64))))), wr .u64 (x0 * y1)))))))
theorem S104_D (n : Nat × Nat) (hn : n.2 = 1) : S104 n = D104 n := by
  funext x0 y1; refine (S104_eq n x0 y1).trans ?_
  unfold D104
  first | with_reducible rfl | rfl
/-D 71 -/
noncomputable def D71 (n : Nat × Nat) (x0 : Int) (y1 : Int) : Option R71 :=
 (D104 n x0 y1).bind fun r1' =>
 some (r1'.1, r1'.2)
theorem S71_D (n : Nat × Nat) (hn : n.2 = 1) : S71 n = D71 n := by
  funext x0 y1; refine (S71_eq n x0 y1).trans ?_
  unfold D71
  (try simp only [S104_D n hn]) <;> first | with_reducible rfl | rfl
/-D 40 -/
noncomputable def DF40_1 (n : Nat × Nat) (f1 : Int → List Int → Option R40) (v8 : Int) (newslice7 : List Int) : Option R40 :=
 (bif decide (v8 < (newslice7.length : Int)) then (bif bounds (some v8) none none newslice7.length then (bif bounds none (some v8) none newslice7.length then f1 (wr .i64 (v8 + ((min ((newslice7.drop (0 + 0)).take ((Int.toNat v8) - 0)).length ((newslice7.drop (0 + (Int.toNat v8))).take (newslice7.length - (Int.toNat v8))).length : Nat) : Int))) (newslice7.take (0 + (Int.toNat v8)) ++ ((newslice7.drop (0 + 0)).take ((Int.toNat v8) - 0)).take (min ((newslice7.drop (0 + 0)).take ((Int.toNat v8) - 0)).length ((newslice7.drop (0 + (Int.toNat v8))).take (newslice7.length - (Int.toNat v8))).length) ++ newslice7.drop ((0 + (Int.toNat v8)) + min ((newslice7.drop (0 + 0)).take ((Int.toNat v8) - 0)).length ((newslice7.drop (0 + (Int.toNat v8))).take (newslice7.length - (Int.toNat v8))).length))
 else none)
 else none)
 else some newslice7)
noncomputable def DL40_1 (n : Nat × Nat) (m : Nat) : Int → List Int → Option R40 := Nat.rec (motive := fun _ => Int → List Int → Option R40) (fun _ _ => none) (fun _ ih => DF40_1 n ih) m
theorem DL40_1_succ (n : Nat × Nat) (m : Nat) : DL40_1 n (m + 1) = DF40_1 n (DL40_1 n m) := rfl
theorem DL40_1_eq (n : Nat × Nat) (hn : n.2 = 1) : ∀ m, L40_1 n m = DL40_1 n m
  | 0 => by funext v8 newslice7; kernel_rfl
  | m + 1 => by
    have ih := DL40_1_eq n hn m
    funext v8 newslice7; refine (L40_1_eq n m v8 newslice7).trans ?_
    rw [DL40_1_succ]
    unfold DF40_1
    (try simp only [ih, S71_D n hn]) <;> first | with_reducible rfl | rfl
noncomputable def D40 (n : Nat × Nat) (x0 : List Int) (count1 : Int) : Option R40 :=
 (bif decide (count1 < 0) then none
 else (D71 n (wr .u64 (x0.length : Int)) (wr .u64 count1)).bind fun r1' =>
 ((bif (decide (r1'.1 > 0) == false) then some (decide (r1'.2 > 9223372036854775807))
 else some true)).bind fun b2' =>
 (bif b2' then none
 else (bif decide (0 ≤ wr .i64 r1'.2) && decide (wr .i64 r1'.2 ≤ wr .i64 r1'.2) && decide (wr .i64 r1'.2 ≤ lim) then DL40_1 n n.1 ((min x0.length (List.replicate (Int.toNat (wr .i64 r1'.2)) (0 : Int)).length : Nat) : Int) ((List.replicate (Int.toNat (wr .i64 r1'.2)) (0 : Int)).take 0 ++ x0.take (min x0.length (List.replicate (Int.toNat (wr .i64 r1'.2)) (0 : Int)).length) ++ (List.replicate (Int.toNat (wr .i64 r1'.2)) (0 : Int)).drop (0 + min x0.length (List.replicate (Int.toNat (wr .i64 r1'.2)) (0 : Int)).length))
 else none)))
theorem S40_D (n : Nat × Nat) (hn : n.2 = 1) : S40 n = D40 n := by
  funext x0 count1; refine (S40_eq n x0 count1).trans ?_
  unfold D40
  (try simp only [DL40_1_eq n hn, S71_D n hn]) <;> first | with_reducible rfl | rfl
/-D 74 -/
noncomputable def DF74_1 (n : Nat × Nat) (f1 : List Int → Int → Int → Int → Option R74) (s0 : List Int) (v1 : Int) (v7 : Int) (v8 : Int) : Option R74 :=
 (bif decide (v8 < v7) then (idx s0 v8).bind fun x1' =>
 (bif (v1 == x1') then some v8
 else f1 s0 v1 v7 (wr .i64 (v8 + 1)))
 else some (-1))
noncomputable def DL74_1 (n : Nat × Nat) (m : Nat) : List Int → Int → Int → Int → Option R74 := Nat.rec (motive := fun _ => List Int → Int → Int → Int → Option R74) (fun _ _ _ _ => none) (fun _ ih => DF74_1 n ih) m
theorem DL74_1_succ (n : Nat × Nat) (m : Nat) : DL74_1 n (m + 1) = DF74_1 n (DL74_1 n m) := rfl
theorem DL74_1_eq (n : Nat × Nat) (hn : n.2 = 1) : ∀ m, L74_1 n m = DL74_1 n m
  | 0 => by funext s0 v1 v7 v8; kernel_rfl
  | m + 1 => by
    have ih := DL74_1_eq n hn m
    funext s0 v1 v7 v8; refine (L74_1_eq n m s0 v1 v7 v8).trans ?_
    rw [DL74_1_succ]
    unfold DF74_1
    (try simp only [ih]) <;> first | with_reducible rfl | rfl
noncomputable def D74 (n : Nat × Nat) (s0 : List Int) (v1 : Int) : Option R74 :=
    DL74_1 n n.1 s0 v1 (s0.length : Int) 0
theorem S74_D (n : Nat × Nat) (hn : n.2 = 1) : S74 n = D74 n := by
  funext s0 v1; refine (S74_eq n s0 v1).trans ?_
  unfold D74
  (try simp only [DL74_1_eq n hn]) <;> first | with_reducible rfl | rfl
/-D 42 -/
noncomputable def D42 (n : Nat × Nat) (s0 : List Int) (v1 : Int) : Option R42 :=
 (D74 n s0 v1).bind fun r1' =>
 some (decide (r1' ≥ 0))
theorem S42_D (n : Nat × Nat) (hn : n.2 = 1) : S42 n = D42 n := by
  funext s0 v1; refine (S42_eq n s0 v1).trans ?_
  unfold D42
  (try simp only [S74_D n hn]) <;> first | with_reducible rfl | rfl
/-D 13 -/
noncomputable def DL13_3 (n : Nat × Nat) (f1 : Int → Int → Int → Int → Int → Int → Int → Int → Int → Int → Int → List Int → Option R13) (f2 : Int → Int → Int → Int → Int → Int → Int → Int → Int → Int → Int → List Int → Int → Int → List Int → Option R13) (w4_0 : Int) (w4_1 : Int) (w4_2 : Int) (w4_3 : Int) (w4_4 : Int) (w4_5 : Int) (w4_6 : Int) (w4_7 : Int) (known7 : Int) (v26 : Int) (v27 : Int) (v32 : List Int) (v33 : Int) (v34 : Int) (out6 : List Int) : Option R13 :=
    f2 w4_0 w4_1 w4_2 w4_3 w4_4 w4_5 w4_6 w4_7 known7 v26 v27 v32 v33 (wr .i64 (v34 + 1)) out6
theorem DL13_3_eq (n : Nat × Nat) (hn : n.2 = 1) (m1 m2 : Nat) : L13_3 n m1 m2 = DL13_3 n (L13_1 n m1) (L13_2 n m1 m2) := by
  funext w4_0 w4_1 w4_2 w4_3 w4_4 w4_5 w4_6 w4_7 known7 v26 v27 v32 v33 v34 out6; refine ((held_eq hn _).trans (L13_3_raw n m1 m2 w4_0 w4_1 w4_2 w4_3 w4_4 w4_5 w4_6 w4_7 known7 v26 v27 v32 v33 v34 out6)).trans ?_
  unfold DL13_3
  (try simp only [S33_D n hn, S35_D n hn, S40_D n hn, S41_D n hn, S42_D n hn]) <;> first | with_reducible rfl | rfl
noncomputable def DF13_4 (n : Nat × Nat) (f1 : Int → Int → Int → Int → Int → Int → Int → Int → Int → Int → Int → List Int → Option R13) (f2 : Int → Int → Int → Int → Int → Int → Int → Int → Int → Int → Int → List Int → Int → Int → List Int → Option R13) (f3 : Int → Int → Int → Int → Int → Int → Int → Int → Int → Int → Int → Int → Int → List Int → Int → Int → Int → Int → List Int → List Int → Option R13) (w4_0 : Int) (w4_1 : Int) (w4_2 : Int) (w4_3 : Int) (w4_4 : Int) (w4_5 : Int) (w4_6 : Int) (w4_7 : Int) (known7 : Int) (x8 : Int) (v10 : Int) (v26 : Int) (v27 : Int) (v32 : List Int) (v33 : Int) (v34 : Int) (v52 : Int) (v53 : Int) (out6 : List Int) (v51 : List Int) : Option R13 :=
 (bif decide (v53 < v52) then (bif inB v53 v51.length then (idx v51 v53).bind fun x7' =>
 (bif inB x7' out6.length then (idx out6 x7').bind fun x8' =>
 (bif decide (x8' < 0) then none
 else f3 w4_0 w4_1 w4_2 w4_3 w4_4 w4_5 w4_6 w4_7 known7 x8 (wr .u64 (BitVec.ofInt (IntKind.bits .u64) v10 ||| BitVec.ofInt (IntKind.bits .u64) (wr .u64 (1 * 2 ^ (min (Int.toNat x8') (IntKind.bits .u64))))).toNat) v26 v27 v32 v33 v34 v52 (wr .i64 (v53 + 1)) out6 v51)
 else none)
 else none)
 else (D41 n (wr .u64 (BitVec.ofInt (IntKind.bits .u64) (if IntKind.signed .u64 then -1 else IntKind.max .u64) ^^^ BitVec.ofInt (IntKind.bits .u64) v10).toNat)).bind fun r9' =>
 (bif inB x8 out6.length then (idx out6 x8).bind fun x10' =>
 (bif decide (x8 < 0) then none
 else DL13_3 n f1 f2 w4_0 w4_1 w4_2 w4_3 w4_4 w4_5 w4_6 w4_7 (wr .u64 (BitVec.ofInt (IntKind.bits .u64) known7 ||| BitVec.ofInt (IntKind.bits .u64) (wr .u64 (1 * 2 ^ (min (Int.toNat x8) (IntKind.bits .u64))))).toNat) v26 v27 v32 v33 v34 (out6.set (Int.toNat x8) r9'))
 else none))
noncomputable def DL13_4 (n : Nat × Nat) (f1 : Int → Int → Int → Int → Int → Int → Int → Int → Int → Int → Int → List Int → Option R13) (f2 : Int → Int → Int → Int → Int → Int → Int → Int → Int → Int → Int → List Int → Int → Int → List Int → Option R13) (m : Nat) : Int → Int → Int → Int → Int → Int → Int → Int → Int → Int → Int → Int → Int → List Int → Int → Int → Int → Int → List Int → List Int → Option R13 := Nat.rec (motive := fun _ => Int → Int → Int → Int → Int → Int → Int → Int → Int → Int → Int → Int → Int → List Int → Int → Int → Int → Int → List Int → List Int → Option R13) (fun _ _ _ _ _ _ _ _ _ _ _ _ _ _ _ _ _ _ _ _ => none) (fun _ ih => DF13_4 n f1 f2 ih) m
theorem DL13_4_succ (n : Nat × Nat) (f1 : Int → Int → Int → Int → Int → Int → Int → Int → Int → Int → Int → List Int → Option R13) (f2 : Int → Int → Int → Int → Int → Int → Int → Int → Int → Int → Int → List Int → Int → Int → List Int → Option R13) (m : Nat) : DL13_4 n f1 f2 (m + 1) = DF13_4 n f1 f2 (DL13_4 n f1 f2 m) := rfl
theorem DL13_4_eq (n : Nat × Nat) (hn : n.2 = 1) (m1 m2 : Nat) : ∀ m, L13_4 n m1 m2 m = DL13_4 n (L13_1 n m1) (L13_2 n m1 m2) m
  | 0 => by funext w4_0 w4_1 w4_2 w4_3 w4_4 w4_5 w4_6 w4_7 known7 x8 v10 v26 v27 v32 v33 v34 v52 v53 out6 v51; kernel_rfl
  | m + 1 => by
    have ih := DL13_4_eq n hn m1 m2 m
    funext w4_0 w4_1 w4_2 w4_3 w4_4 w4_5 w4_6 w4_7 known7 x8 v10 v26 v27 v32 v33 v34 v52 v53 out6 v51; refine (L13_4_eq n m1 m2 m w4_0 w4_1 w4_2 w4_3 w4_4 w4_5 w4_6 w4_7 known7 x8 v10 v26 v27 v32 v33 v34 v52 v53 out6 v51).trans ?_
    rw [DL13_4_succ]
    unfold DF13_4
    (try simp only [ih, DL13_3_eq n hn, S33_D n hn, S35_D n hn, S40_D n hn, S41_D n hn, S42_D n hn]) <;> first | with_reducible rfl | rfl
noncomputable def DF13_2 (n : Nat × Nat) (f1 : Int → Int → Int → Int → Int → Int → Int → Int → Int → Int → Int → List Int → Option R13) (f2 : Int → Int → Int → Int → Int → Int → Int → Int → Int → Int → Int → List Int → Int → Int → List Int → Option R13) (w4_0 : Int) (w4_1 : Int) (w4_2 : Int) (w4_3 : Int) (w4_4 : Int) (w4_5 : Int) (w4_6 : Int) (w4_7 : Int) (known7 : Int) (v26 : Int) (v27 : Int) (v32 : List Int) (v33 : Int) (v34 : Int) (out6 : List Int) : Option R13 :=
 (bif decide (v34 < v33) then (idx v32 v34).bind fun x4' =>
 (bif decide (v34 < 0) then none
 else ((bif (((wr .u64 (BitVec.ofInt (IntKind.bits .u64) (Int.fdiv known7 (2 ^ (min (Int.toNat v34) (IntKind.bits .u64)))) &&& BitVec.ofInt (IntKind.bits .u64) 1).toNat) == 1) == false) then some ((wr .u64 (BitVec.ofInt (IntKind.bits .u64) x4' &&& ~~~BitVec.ofInt (IntKind.bits .u64) known7).toNat) != 0)
 else some true)).bind fun b5' =>
 (bif b5' then DL13_3 n f1 f2 w4_0 w4_1 w4_2 w4_3 w4_4 w4_5 w4_6 w4_7 known7 v26 v27 v32 v33 v34 out6
 else (D35 n x4').bind fun r6' =>
          DL13_4 n f1 f2 n.1 w4_0 w4_1 w4_2 w4_3 w4_4 w4_5 w4_6 w4_7 known7 v34 0 v26 v27 v32 v33 v34 (r6'.length : Int) 0 out6 r6'))
 else f1 w4_0 w4_1 w4_2 w4_3 w4_4 w4_5 w4_6 w4_7 known7 v26 (wr .i64 (v27 + 1)) out6)
noncomputable def DL13_2 (n : Nat × Nat) (f1 : Int → Int → Int → Int → Int → Int → Int → Int → Int → Int → Int → List Int → Option R13) (m : Nat) : Int → Int → Int → Int → Int → Int → Int → Int → Int → Int → Int → List Int → Int → Int → List Int → Option R13 := Nat.rec (motive := fun _ => Int → Int → Int → Int → Int → Int → Int → Int → Int → Int → Int → List Int → Int → Int → List Int → Option R13) (fun _ _ _ _ _ _ _ _ _ _ _ _ _ _ _ => none) (fun _ ih => DF13_2 n f1 ih) m
theorem DL13_2_succ (n : Nat × Nat) (f1 : Int → Int → Int → Int → Int → Int → Int → Int → Int → Int → Int → List Int → Option R13) (m : Nat) : DL13_2 n f1 (m + 1) = DF13_2 n f1 (DL13_2 n f1 m) := rfl
theorem DL13_2_eq (n : Nat × Nat) (hn : n.2 = 1) (m1 : Nat) : ∀ m, L13_2 n m1 m = DL13_2 n (L13_1 n m1) m
  | 0 => by funext w4_0 w4_1 w4_2 w4_3 w4_4 w4_5 w4_6 w4_7 known7 v26 v27 v32 v33 v34 out6; kernel_rfl
  | m + 1 => by
    have ih := DL13_2_eq n hn m1 m
    funext w4_0 w4_1 w4_2 w4_3 w4_4 w4_5 w4_6 w4_7 known7 v26 v27 v32 v33 v34 out6; refine (L13_2_eq n m1 m w4_0 w4_1 w4_2 w4_3 w4_4 w4_5 w4_6 w4_7 known7 v26 v27 v32 v33 v34 out6).trans ?_
    rw [DL13_2_succ]
    unfold DF13_2
    (try simp only [ih, DL13_3_eq n hn, DL13_4_eq n hn, S33_D n hn, S35_D n hn, S40_D n hn, S41_D n hn, S42_D n hn]) <;> first | with_reducible rfl | rfl
noncomputable def DF13_1 (n : Nat × Nat) (f1 : Int → Int → Int → Int → Int → Int → Int → Int → Int → Int → Int → List Int → Option R13) (w4_0 : Int) (w4_1 : Int) (w4_2 : Int) (w4_3 : Int) (w4_4 : Int) (w4_5 : Int) (w4_6 : Int) (w4_7 : Int) (known7 : Int) (v26 : Int) (v27 : Int) (out6 : List Int) : Option R13 :=
 (bif decide (v27 < v26) then (bif bounds none (some w4_0) none 7 then DL13_2 n f1 n.1 w4_0 w4_1 w4_2 w4_3 w4_4 w4_5 w4_6 w4_7 known7 v26 v27 ([w4_1, w4_2, w4_3, w4_4, w4_5, w4_6, w4_7].take (Int.toNat w4_0)) (([w4_1, w4_2, w4_3, w4_4, w4_5, w4_6, w4_7].take (Int.toNat w4_0)).length : Int) 0 out6
 else none)
 else (D42 n out6 (-1)).bind fun r3' =>
 (bif r3' then some ([], 13)
 else some (out6, 0)))
noncomputable def DL13_1 (n : Nat × Nat) (m : Nat) : Int → Int → Int → Int → Int → Int → Int → Int → Int → Int → Int → List Int → Option R13 := Nat.rec (motive := fun _ => Int → Int → Int → Int → Int → Int → Int → Int → Int → Int → Int → List Int → Option R13) (fun _ _ _ _ _ _ _ _ _ _ _ _ => none) (fun _ ih => DF13_1 n ih) m
theorem DL13_1_succ (n : Nat × Nat) (m : Nat) : DL13_1 n (m + 1) = DF13_1 n (DL13_1 n m) := rfl
theorem DL13_1_eq (n : Nat × Nat) (hn : n.2 = 1) : ∀ m, L13_1 n m = DL13_1 n m
  | 0 => by funext w4_0 w4_1 w4_2 w4_3 w4_4 w4_5 w4_6 w4_7 known7 v26 v27 out6; kernel_rfl
  | m + 1 => by
    have ih := DL13_1_eq n hn m
    funext w4_0 w4_1 w4_2 w4_3 w4_4 w4_5 w4_6 w4_7 known7 v26 v27 out6; refine (L13_1_eq n m w4_0 w4_1 w4_2 w4_3 w4_4 w4_5 w4_6 w4_7 known7 v26 v27 out6).trans ?_
    rw [DL13_1_succ]
    unfold DF13_1
    (try simp only [ih, DL13_3_eq n hn, DL13_4_eq n hn, DL13_2_eq n hn, S33_D n hn, S35_D n hn, S40_D n hn, S41_D n hn, S42_D n hn]) <;> first | with_reducible rfl | rfl
noncomputable def D13 (n : Nat × Nat) (b0 : Int × List (Int × Int)) : Option R13 :=
 (D33 n b0).bind fun r1' =>
 (bif (r1'.2 != 0) then some ([], r1'.2)
 else (D40 n [-1] r1'.1.1).bind fun r2' =>
      DL13_1 n n.1 r1'.1.1 r1'.1.2.1 r1'.1.2.2.1 r1'.1.2.2.2.1 r1'.1.2.2.2.2.1 r1'.1.2.2.2.2.2.1 r1'.1.2.2.2.2.2.2.1 r1'.1.2.2.2.2.2.2.2 0 r1'.1.1 0 r2')
theorem S13_D (n : Nat × Nat) (hn : n.2 = 1) : S13 n = D13 n := by
  funext b0; refine (S13_eq n b0).trans ?_
  unfold D13
  (try simp only [DL13_3_eq n hn, DL13_4_eq n hn, DL13_2_eq n hn, DL13_1_eq n hn, S33_D n hn, S35_D n hn, S40_D n hn, S41_D n hn, S42_D n hn]) <;> first | with_reducible rfl | rfl
/-D 9 -/
noncomputable def D9 (n : Nat × Nat) (word0 : ByteArray) (part1 : ByteArray) : Option R9 :=
 (D31 n [word0, part1]).bind fun r1' =>
 (bif (r1' != 0) then some (false, r1')
 else (D32 n word0 part1).bind fun r2' =>
 some (r2', 0))
theorem S9_D (n : Nat × Nat) (hn : n.2 = 1) : S9 n = D9 n := by
  funext word0 part1; refine (S9_eq n word0 part1).trans ?_
  unfold D9
  (try simp only [S31_D n hn, S32_D n hn]) <;> first | with_reducible rfl | rfl
/-D 10 -/
noncomputable def DF10_1 (n : Nat × Nat) (f1 : ByteArray → ByteArray → ByteArray → Nat → Option R10) (word0 : ByteArray) (p1 : ByteArray) (v7s : ByteArray) (v7p : Nat) : Option R10 :=
 (bif Nat.blt v7p v7s.size then ((strBytes v7s)[v7p]?).bind fun x1' =>
 (bif decide (x1' < 128) then ((bif ((!strEq p1 (⟨#[]⟩ : ByteArray)) == true) then (idx (strBytes word0) (v7p : Int)).bind fun x2' =>
 (idx (strBytes p1) 0).bind fun x3' =>
 some (x2' == x3')
 else some false)).bind fun b4' =>
 (bif b4' then (bif bounds (some 1) none none p1.size then f1 word0 (strCut (some 1) none p1) v7s (v7p + 1)
 else none)
 else f1 word0 p1 v7s (v7p + 1))
 else none)
 else some (strEq p1 (⟨#[]⟩ : ByteArray)))
noncomputable def DL10_1 (n : Nat × Nat) (m : Nat) : ByteArray → ByteArray → ByteArray → Nat → Option R10 := Nat.rec (motive := fun _ => ByteArray → ByteArray → ByteArray → Nat → Option R10) (fun _ _ _ _ => none) (fun _ ih => DF10_1 n ih) m
theorem DL10_1_succ (n : Nat × Nat) (m : Nat) : DL10_1 n (m + 1) = DF10_1 n (DL10_1 n m) := rfl
theorem DL10_1_eq (n : Nat × Nat) (hn : n.2 = 1) : ∀ m, L10_1 n m = DL10_1 n m
  | 0 => by funext word0 p1 v7s v7p; kernel_rfl
  | m + 1 => by
    have ih := DL10_1_eq n hn m
    funext word0 p1 v7s v7p; refine (L10_1_eq n m word0 p1 v7s v7p).trans ?_
    rw [DL10_1_succ]
    unfold DF10_1
    (try simp only [ih]) <;> first | with_reducible rfl | rfl
noncomputable def D10 (n : Nat × Nat) (word0 : ByteArray) (p1 : ByteArray) : Option R10 :=
    DL10_1 n n.1 word0 p1 word0 0
theorem S10_D (n : Nat × Nat) (hn : n.2 = 1) : S10 n = D10 n := by
  funext word0 p1; refine (S10_eq n word0 p1).trans ?_
  unfold D10
  (try simp only [DL10_1_eq n hn]) <;> first | with_reducible rfl | rfl
/-D 43 -/
noncomputable def DF43_1 (n : Nat × Nat) (f1 : Int → Int → List Int → Int → Int → Int → Int → Int → Int → Int → Int → Int → Int → Option R43) (out6 : Int) (v7 : Int) (v10 : List Int) (v11 : Int) (v12 : Int) (w2_0 : Int) (w2_1 : Int) (w2_2 : Int) (w2_3 : Int) (w2_4 : Int) (w2_5 : Int) (w2_6 : Int) (w2_7 : Int) : Option R43 :=
 (bif decide (v12 < v11) then (idx v10 v12).bind fun x1' =>
 ((bif (decide (x1' < 0) == false) then some (decide (x1' ≥ w2_0))
 else some true)).bind fun b2' =>
 (bif b2' then some (0, 2)
 else (bif decide (x1' ≤ v7) then some (0, 7)
 else (bif decide (x1' < 0) then none
 else f1 (wr .u64 (BitVec.ofInt (IntKind.bits .u64) out6 ||| BitVec.ofInt (IntKind.bits .u64) (wr .u64 (1 * 2 ^ (min (Int.toNat x1') (IntKind.bits .u64))))).toNat) x1' v10 v11 (wr .i64 (v12 + 1)) w2_0 w2_1 w2_2 w2_3 w2_4 w2_5 w2_6 w2_7)))
 else some (out6, 0))
noncomputable def DL43_1 (n : Nat × Nat) (m : Nat) : Int → Int → List Int → Int → Int → Int → Int → Int → Int → Int → Int → Int → Int → Option R43 := Nat.rec (motive := fun _ => Int → Int → List Int → Int → Int → Int → Int → Int → Int → Int → Int → Int → Int → Option R43) (fun _ _ _ _ _ _ _ _ _ _ _ _ _ => none) (fun _ ih => DF43_1 n ih) m
theorem DL43_1_succ (n : Nat × Nat) (m : Nat) : DL43_1 n (m + 1) = DF43_1 n (DL43_1 n m) := rfl
theorem DL43_1_eq (n : Nat × Nat) (hn : n.2 = 1) : ∀ m, L43_1 n m = DL43_1 n m
  | 0 => by funext out6 v7 v10 v11 v12 w2_0 w2_1 w2_2 w2_3 w2_4 w2_5 w2_6 w2_7; kernel_rfl
  | m + 1 => by
    have ih := DL43_1_eq n hn m
    funext out6 v7 v10 v11 v12 w2_0 w2_1 w2_2 w2_3 w2_4 w2_5 w2_6 w2_7; refine (L43_1_eq n m out6 v7 v10 v11 v12 w2_0 w2_1 w2_2 w2_3 w2_4 w2_5 w2_6 w2_7).trans ?_
    rw [DL43_1_succ]
    unfold DF43_1
    (try simp only [ih]) <;> first | with_reducible rfl | rfl
noncomputable def D43 (n : Nat × Nat) (w0 : Int × Int × Int × Int × Int × Int × Int × Int) (l1 : List Int) : Option R43 :=
    DL43_1 n n.1 0 (-1) l1 (l1.length : Int) 0 w0.1 w0.2.1 w0.2.2.1 w0.2.2.2.1 w0.2.2.2.2.1 w0.2.2.2.2.2.1 w0.2.2.2.2.2.2.1 w0.2.2.2.2.2.2.2
theorem S43_D (n : Nat × Nat) (hn : n.2 = 1) : S43 n = D43 n := by
  funext w0 l1; refine (S43_eq n w0 l1).trans ?_
  unfold D43
  (try simp only [DL43_1_eq n hn]) <;> first | with_reducible rfl | rfl
/-D 15 -/
noncomputable def DL15_4 (n : Nat × Nat) (f1 : Int → Int → Int → Int → Int → Int → Int → Int → Int → List Int → Option R15) (f2 : Int → Int → Int → Int → Int → Int → Int → Int → Int → Int → Int → List Int → Int → Int → List Int → Option R15) (word2 : Int) (w8_0 : Int) (w8_1 : Int) (w8_2 : Int) (w8_3 : Int) (w8_4 : Int) (w8_5 : Int) (w8_6 : Int) (w8_7 : Int) (now12 : Int) (wide13 : Int) (v72 : List Int) (v73 : Int) (v74 : Int) (near11 : List Int) : Option R15 :=
    f2 word2 w8_0 w8_1 w8_2 w8_3 w8_4 w8_5 w8_6 w8_7 now12 wide13 v72 v73 (wr .i64 (v74 + 1)) near11
theorem DL15_4_eq (n : Nat × Nat) (hn : n.2 = 1) (m1 m2 : Nat) : L15_4 n m1 m2 = DL15_4 n (L15_1 n m1) (L15_2 n m1 m2) := by
  funext word2 w8_0 w8_1 w8_2 w8_3 w8_4 w8_5 w8_6 w8_7 now12 wide13 v72 v73 v74 near11; refine ((held_eq hn _).trans (L15_4_raw n m1 m2 word2 w8_0 w8_1 w8_2 w8_3 w8_4 w8_5 w8_6 w8_7 now12 wide13 v72 v73 v74 near11)).trans ?_
  unfold DL15_4
  (try simp only [S33_D n hn, S41_D n hn, S43_D n hn]) <;> first | with_reducible rfl | rfl
noncomputable def DF15_2 (n : Nat × Nat) (f1 : Int → Int → Int → Int → Int → Int → Int → Int → Int → List Int → Option R15) (f2 : Int → Int → Int → Int → Int → Int → Int → Int → Int → Int → Int → List Int → Int → Int → List Int → Option R15) (word2 : Int) (w8_0 : Int) (w8_1 : Int) (w8_2 : Int) (w8_3 : Int) (w8_4 : Int) (w8_5 : Int) (w8_6 : Int) (w8_7 : Int) (now12 : Int) (wide13 : Int) (v72 : List Int) (v73 : Int) (v74 : Int) (near11 : List Int) : Option R15 :=
 (bif decide (v74 < v73) then (idx v72 v74).bind fun x6' =>
 (bif ((wr .u64 (BitVec.ofInt (IntKind.bits .u64) x6' &&& BitVec.ofInt (IntKind.bits .u64) now12).toNat) != 0) then (bif decide (v74 < 0) then none
 else DL15_4 n f1 f2 word2 w8_0 w8_1 w8_2 w8_3 w8_4 w8_5 w8_6 w8_7 now12 (wr .u64 (BitVec.ofInt (IntKind.bits .u64) wide13 ||| BitVec.ofInt (IntKind.bits .u64) (wr .u64 (1 * 2 ^ (min (Int.toNat v74) (IntKind.bits .u64))))).toNat) v72 v73 v74 near11)
 else DL15_4 n f1 f2 word2 w8_0 w8_1 w8_2 w8_3 w8_4 w8_5 w8_6 w8_7 now12 wide13 v72 v73 v74 near11)
 else (bif (wide13 == now12) then some ([], 12)
 else (bif decide (near11.length + [wide13].length ≤ lim) then f1 word2 w8_0 w8_1 w8_2 w8_3 w8_4 w8_5 w8_6 w8_7 (near11 ++ [wide13])
 else none)))
noncomputable def DL15_2 (n : Nat × Nat) (f1 : Int → Int → Int → Int → Int → Int → Int → Int → Int → List Int → Option R15) (m : Nat) : Int → Int → Int → Int → Int → Int → Int → Int → Int → Int → Int → List Int → Int → Int → List Int → Option R15 := Nat.rec (motive := fun _ => Int → Int → Int → Int → Int → Int → Int → Int → Int → Int → Int → List Int → Int → Int → List Int → Option R15) (fun _ _ _ _ _ _ _ _ _ _ _ _ _ _ _ => none) (fun _ ih => DF15_2 n f1 ih) m
theorem DL15_2_succ (n : Nat × Nat) (f1 : Int → Int → Int → Int → Int → Int → Int → Int → Int → List Int → Option R15) (m : Nat) : DL15_2 n f1 (m + 1) = DF15_2 n f1 (DL15_2 n f1 m) := rfl
theorem DL15_2_eq (n : Nat × Nat) (hn : n.2 = 1) (m1 : Nat) : ∀ m, L15_2 n m1 m = DL15_2 n (L15_1 n m1) m
  | 0 => by funext word2 w8_0 w8_1 w8_2 w8_3 w8_4 w8_5 w8_6 w8_7 now12 wide13 v72 v73 v74 near11; kernel_rfl
  | m + 1 => by
    have ih := DL15_2_eq n hn m1 m
    funext word2 w8_0 w8_1 w8_2 w8_3 w8_4 w8_5 w8_6 w8_7 now12 wide13 v72 v73 v74 near11; refine (L15_2_eq n m1 m word2 w8_0 w8_1 w8_2 w8_3 w8_4 w8_5 w8_6 w8_7 now12 wide13 v72 v73 v74 near11).trans ?_
    rw [DL15_2_succ]
    unfold DF15_2
    (try simp only [ih, DL15_4_eq n hn, S33_D n hn, S41_D n hn, S43_D n hn]) <;> first | with_reducible rfl | rfl
noncomputable def DF15_3 (n : Nat × Nat) (f1 : Int → Int → Int → Int → Int → Int → Int → Int → Int → Int → List Int → List Int → Option R15) (word2 : Int) (w8_0 : Int) (w8_1 : Int) (w8_2 : Int) (w8_3 : Int) (w8_4 : Int) (w8_5 : Int) (w8_6 : Int) (w8_7 : Int) (i17 : Int) (near11 : List Int) (out16 : List Int) : Option R15 :=
 (bif decide (i17 ≥ 0) then (idx ([w8_1, w8_2, w8_3, w8_4, w8_5, w8_6, w8_7] : List Int) word2).bind fun x7' =>
 (bif inB i17 near11.length then (idx near11 i17).bind fun x8' =>
 (D41 n (wr .u64 (BitVec.ofInt (IntKind.bits .u64) x7' &&& BitVec.ofInt (IntKind.bits .u64) x8').toNat)).bind fun r9' =>
 (bif decide (out16.length + [r9'].length ≤ lim) then f1 r9' w8_0 w8_1 w8_2 w8_3 w8_4 w8_5 w8_6 w8_7 (wr .i64 (i17 - 1)) near11 (out16 ++ [r9'])
 else none)
 else none)
 else some (out16, 0))
noncomputable def DL15_3 (n : Nat × Nat) (m : Nat) : Int → Int → Int → Int → Int → Int → Int → Int → Int → Int → List Int → List Int → Option R15 := Nat.rec (motive := fun _ => Int → Int → Int → Int → Int → Int → Int → Int → Int → Int → List Int → List Int → Option R15) (fun _ _ _ _ _ _ _ _ _ _ _ _ => none) (fun _ ih => DF15_3 n ih) m
theorem DL15_3_succ (n : Nat × Nat) (m : Nat) : DL15_3 n (m + 1) = DF15_3 n (DL15_3 n m) := rfl
theorem DL15_3_eq (n : Nat × Nat) (hn : n.2 = 1) : ∀ m, L15_3 n m = DL15_3 n m
  | 0 => by funext word2 w8_0 w8_1 w8_2 w8_3 w8_4 w8_5 w8_6 w8_7 i17 near11 out16; kernel_rfl
  | m + 1 => by
    have ih := DL15_3_eq n hn m
    funext word2 w8_0 w8_1 w8_2 w8_3 w8_4 w8_5 w8_6 w8_7 i17 near11 out16; refine (L15_3_eq n m word2 w8_0 w8_1 w8_2 w8_3 w8_4 w8_5 w8_6 w8_7 i17 near11 out16).trans ?_
    rw [DL15_3_succ]
    unfold DF15_3
    (try simp only [ih, DL15_4_eq n hn, DL15_2_eq n hn, S33_D n hn, S41_D n hn, S43_D n hn]) <;> first | with_reducible rfl | rfl
noncomputable def DF15_1 (n : Nat × Nat) (f1 : Int → Int → Int → Int → Int → Int → Int → Int → Int → List Int → Option R15) (word2 : Int) (w8_0 : Int) (w8_1 : Int) (w8_2 : Int) (w8_3 : Int) (w8_4 : Int) (w8_5 : Int) (w8_6 : Int) (w8_7 : Int) (near11 : List Int) : Option R15 :=
 (bif inB (wr .i64 ((near11.length : Int) - 1)) near11.length then (idx near11 (wr .i64 ((near11.length : Int) - 1))).bind fun x4' =>
 (bif decide (word2 < 0) then none
 else (bif ((wr .u64 (BitVec.ofInt (IntKind.bits .u64) (Int.fdiv x4' (2 ^ (min (Int.toNat word2) (IntKind.bits .u64)))) &&& BitVec.ofInt (IntKind.bits .u64) 1).toNat) == 0) then (bif inB (wr .i64 ((near11.length : Int) - 1)) near11.length then (idx near11 (wr .i64 ((near11.length : Int) - 1))).bind fun x5' =>
 (bif bounds none (some w8_0) none 7 then DL15_2 n f1 n.1 word2 w8_0 w8_1 w8_2 w8_3 w8_4 w8_5 w8_6 w8_7 x5' x5' ([w8_1, w8_2, w8_3, w8_4, w8_5, w8_6, w8_7].take (Int.toNat w8_0)) (([w8_1, w8_2, w8_3, w8_4, w8_5, w8_6, w8_7].take (Int.toNat w8_0)).length : Int) 0 near11
 else none)
 else none)
 else DL15_3 n n.1 word2 w8_0 w8_1 w8_2 w8_3 w8_4 w8_5 w8_6 w8_7 (wr .i64 ((near11.length : Int) - 2)) near11 [word2]))
 else none)
noncomputable def DL15_1 (n : Nat × Nat) (m : Nat) : Int → Int → Int → Int → Int → Int → Int → Int → Int → List Int → Option R15 := Nat.rec (motive := fun _ => Int → Int → Int → Int → Int → Int → Int → Int → Int → List Int → Option R15) (fun _ _ _ _ _ _ _ _ _ _ => none) (fun _ ih => DF15_1 n ih) m
theorem DL15_1_succ (n : Nat × Nat) (m : Nat) : DL15_1 n (m + 1) = DF15_1 n (DL15_1 n m) := rfl
theorem DL15_1_eq (n : Nat × Nat) (hn : n.2 = 1) : ∀ m, L15_1 n m = DL15_1 n m
  | 0 => by funext word2 w8_0 w8_1 w8_2 w8_3 w8_4 w8_5 w8_6 w8_7 near11; kernel_rfl
  | m + 1 => by
    have ih := DL15_1_eq n hn m
    funext word2 w8_0 w8_1 w8_2 w8_3 w8_4 w8_5 w8_6 w8_7 near11; refine (L15_1_eq n m word2 w8_0 w8_1 w8_2 w8_3 w8_4 w8_5 w8_6 w8_7 near11).trans ?_
    rw [DL15_1_succ]
    unfold DF15_1
    (try simp only [ih, DL15_4_eq n hn, DL15_2_eq n hn, DL15_3_eq n hn, S33_D n hn, S41_D n hn, S43_D n hn]) <;> first | with_reducible rfl | rfl
noncomputable def D15 (n : Nat × Nat) (b0 : Int × List (Int × Int)) (articles1 : List Int) (word2 : Int) : Option R15 :=
 (D33 n b0).bind fun r1' =>
 (bif (r1'.2 != 0) then some ([], r1'.2)
 else (bif ((articles1.length : Int) == 0) then some ([], 4)
 else (D43 n r1'.1 articles1).bind fun r2' =>
 (bif (r2'.2 != 0) then some ([], r2'.2)
 else ((bif (decide (word2 < 0) == false) then some (decide (word2 ≥ r1'.1.1))
 else some true)).bind fun b3' =>
 (bif b3' then some ([], 2)
 else DL15_1 n n.1 word2 r1'.1.1 r1'.1.2.1 r1'.1.2.2.1 r1'.1.2.2.2.1 r1'.1.2.2.2.2.1 r1'.1.2.2.2.2.2.1 r1'.1.2.2.2.2.2.2.1 r1'.1.2.2.2.2.2.2.2 [r2'.1]))))
theorem S15_D (n : Nat × Nat) (hn : n.2 = 1) : S15 n = D15 n := by
  funext b0 articles1 word2; refine (S15_eq n b0 articles1 word2).trans ?_
  unfold D15
  (try simp only [DL15_4_eq n hn, DL15_2_eq n hn, DL15_3_eq n hn, DL15_1_eq n hn, S33_D n hn, S41_D n hn, S43_D n hn]) <;> first | with_reducible rfl | rfl
/-D 3 -/
noncomputable def DL3_4 (n : Nat × Nat) (f1 : Int → Int → List ByteArray → Int → List Int → (List (Int × Int)) → Option R3) (f2 : Int → ByteArray → Bool → Int → Int → Int → Int → List ByteArray → Int → List Int → (List (Int × Int)) → Option R3) (i6 : Int) (w7 : ByteArray) (least8 : Bool) (v28 : Int) (v29 : Int) (v35 : Int) (v36 : Int) (l3 : List ByteArray) (b4_0 : Int) (want5 : List Int) (v500269999 : List (Int × Int)) : Option R3 :=
    f2 i6 w7 least8 v28 v29 v35 (wr .i64 (v36 + 1)) l3 b4_0 want5 v500269999
theorem DL3_4_eq (n : Nat × Nat) (hn : n.2 = 1) (m1 m2 : Nat) : L3_4 n m1 m2 = DL3_4 n (L3_1 n m1) (L3_2 n m1 m2) := by
  funext i6 w7 least8 v28 v29 v35 v36 l3 b4_0 want5 v500269999; refine ((held_eq hn _).trans (L3_4_raw n m1 m2 i6 w7 least8 v28 v29 v35 v36 l3 b4_0 want5 v500269999)).trans ?_
  unfold DL3_4
  (try simp only [S10_D n hn, S11_D n hn, S12_D n hn, S13_D n hn, S14_D n hn, S15_D n hn, S16_D n hn, S8_D n hn, S9_D n hn]) <;> first | with_reducible rfl | rfl
noncomputable def DL3_5 (n : Nat × Nat) (f1 : Int → Int → List ByteArray → Int → List Int → (List (Int × Int)) → Option R3) (v28 : Int) (v29 : Int) (l3 : List ByteArray) (b4_0 : Int) (want5 : List Int) (v500269999 : List (Int × Int)) : Option R3 :=
    f1 v28 (wr .i64 (v29 + 1)) l3 b4_0 want5 v500269999
theorem DL3_5_eq (n : Nat × Nat) (hn : n.2 = 1) (m1 : Nat) : L3_5 n m1 = DL3_5 n (L3_1 n m1) := by
  funext v28 v29 l3 b4_0 want5 v500269999; refine ((held_eq hn _).trans (L3_5_raw n m1 v28 v29 l3 b4_0 want5 v500269999)).trans ?_
  unfold DL3_5
  (try simp only [DL3_4_eq n hn, S10_D n hn, S11_D n hn, S12_D n hn, S13_D n hn, S14_D n hn, S15_D n hn, S16_D n hn, S8_D n hn, S9_D n hn]) <;> first | with_reducible rfl | rfl
noncomputable def DF3_2 (n : Nat × Nat) (f1 : Int → Int → List ByteArray → Int → List Int → (List (Int × Int)) → Option R3) (f2 : Int → ByteArray → Bool → Int → Int → Int → Int → List ByteArray → Int → List Int → (List (Int × Int)) → Option R3) (i6 : Int) (w7 : ByteArray) (least8 : Bool) (v28 : Int) (v29 : Int) (v35 : Int) (v36 : Int) (l3 : List ByteArray) (b4_0 : Int) (want5 : List Int) (v500269999 : List (Int × Int)) : Option R3 :=
 (bif decide (v36 < v35) then (bif inB v36 l3.length then (idx l3 v36).bind fun x14' =>
 (D9 n w7 x14').bind fun r15' =>
 ((bif ((r15'.2 != 0) == false) then (D10 n w7 x14').bind fun r16' =>
 some (r15'.1 != r16')
 else some true)).bind fun b17' =>
 (bif b17' then some false
 else ((bif ((i6 != v36) == true) then some r15'.1
 else some false)).bind fun b18' =>
 (bif b18' then (bif decide (v500269999.length + [(i6, v36)].length ≤ lim) then DL3_4 n f1 f2 i6 w7 false v28 v29 v35 v36 l3 b4_0 want5 (v500269999 ++ [(i6, v36)])
 else none)
 else DL3_4 n f1 f2 i6 w7 least8 v28 v29 v35 v36 l3 b4_0 want5 v500269999))
 else none)
 else (bif least8 then (bif decide (want5.length + [i6].length ≤ lim) then DL3_5 n f1 v28 v29 l3 b4_0 (want5 ++ [i6]) v500269999
 else none)
 else DL3_5 n f1 v28 v29 l3 b4_0 want5 v500269999))
noncomputable def DL3_2 (n : Nat × Nat) (f1 : Int → Int → List ByteArray → Int → List Int → (List (Int × Int)) → Option R3) (m : Nat) : Int → ByteArray → Bool → Int → Int → Int → Int → List ByteArray → Int → List Int → (List (Int × Int)) → Option R3 := Nat.rec (motive := fun _ => Int → ByteArray → Bool → Int → Int → Int → Int → List ByteArray → Int → List Int → (List (Int × Int)) → Option R3) (fun _ _ _ _ _ _ _ _ _ _ _ => none) (fun _ ih => DF3_2 n f1 ih) m
theorem DL3_2_succ (n : Nat × Nat) (f1 : Int → Int → List ByteArray → Int → List Int → (List (Int × Int)) → Option R3) (m : Nat) : DL3_2 n f1 (m + 1) = DF3_2 n f1 (DL3_2 n f1 m) := rfl
theorem DL3_2_eq (n : Nat × Nat) (hn : n.2 = 1) (m1 : Nat) : ∀ m, L3_2 n m1 m = DL3_2 n (L3_1 n m1) m
  | 0 => by funext i6 w7 least8 v28 v29 v35 v36 l3 b4_0 want5 v500269999; kernel_rfl
  | m + 1 => by
    have ih := DL3_2_eq n hn m1 m
    funext i6 w7 least8 v28 v29 v35 v36 l3 b4_0 want5 v500269999; refine (L3_2_eq n m1 m i6 w7 least8 v28 v29 v35 v36 l3 b4_0 want5 v500269999).trans ?_
    rw [DL3_2_succ]
    unfold DF3_2
    (try simp only [ih, DL3_4_eq n hn, DL3_5_eq n hn, S10_D n hn, S11_D n hn, S12_D n hn, S13_D n hn, S14_D n hn, S15_D n hn, S16_D n hn, S8_D n hn, S9_D n hn]) <;> first | with_reducible rfl | rfl
noncomputable def DF3_3 (n : Nat × Nat) (f1 : Int → Int → Int → (List (Int × Int)) → List Int → List Int → Option R3) (v127 : Int) (v128 : Int) (b4_0 : Int) (b4_1 : List (Int × Int)) (want5 : List Int) (k17 : List Int) : Option R3 :=
 (bif decide (v128 < v127) then (D15 n (b4_0, b4_1) want5 v128).bind fun r19' =>
 ((bif ((r19'.2 != 0) == false) then some (decide ((r19'.1.length : Int) > 2))
 else some true)).bind fun b20' =>
 ((bif (b20' == false) then (bif inB v128 k17.length then (idx k17 v128).bind fun x21' =>
 some (((r19'.1.length : Int) == 1) != (x21' == 0))
 else none)
 else some true)).bind fun b22' =>
 (bif b22' then some false
 else f1 v127 (wr .i64 (v128 + 1)) b4_0 b4_1 want5 k17)
 else (D16 n).bind fun r23' =>
 some r23')
noncomputable def DL3_3 (n : Nat × Nat) (m : Nat) : Int → Int → Int → (List (Int × Int)) → List Int → List Int → Option R3 := Nat.rec (motive := fun _ => Int → Int → Int → (List (Int × Int)) → List Int → List Int → Option R3) (fun _ _ _ _ _ _ => none) (fun _ ih => DF3_3 n ih) m
theorem DL3_3_succ (n : Nat × Nat) (m : Nat) : DL3_3 n (m + 1) = DF3_3 n (DL3_3 n m) := rfl
theorem DL3_3_eq (n : Nat × Nat) (hn : n.2 = 1) : ∀ m, L3_3 n m = DL3_3 n m
  | 0 => by funext v127 v128 b4_0 b4_1 want5 k17; kernel_rfl
  | m + 1 => by
    have ih := DL3_3_eq n hn m
    funext v127 v128 b4_0 b4_1 want5 k17; refine (L3_3_eq n m v127 v128 b4_0 b4_1 want5 k17).trans ?_
    rw [DL3_3_succ]
    unfold DF3_3
    (try simp only [ih, DL3_4_eq n hn, DL3_5_eq n hn, DL3_2_eq n hn, S10_D n hn, S11_D n hn, S12_D n hn, S13_D n hn, S14_D n hn, S15_D n hn, S16_D n hn, S8_D n hn, S9_D n hn]) <;> first | with_reducible rfl | rfl
noncomputable def DF3_1 (n : Nat × Nat) (f1 : Int → Int → List ByteArray → Int → List Int → (List (Int × Int)) → Option R3) (v28 : Int) (v29 : Int) (l3 : List ByteArray) (b4_0 : Int) (want5 : List Int) (v500269999 : List (Int × Int)) : Option R3 :=
 (bif decide (v29 < v28) then (bif inB v29 l3.length then (idx l3 v29).bind fun x2' =>
        DL3_2 n f1 n.1 v29 x2' true v28 v29 (l3.length : Int) 0 l3 b4_0 want5 v500269999
 else none)
 else (D11 n (b4_0, v500269999)).bind fun r3' =>
 (D12 n (b4_0, v500269999)).bind fun r4' =>
 (D13 n (b4_0, v500269999)).bind fun r5' =>
 ((bif ((r3'.2 != 0) == false) then some (r4'.2 != 0)
 else some true)).bind fun b6' =>
 ((bif (b6' == false) then some (r5'.2 != 0)
 else some true)).bind fun b7' =>
 ((bif (b7' == false) then some (r4'.1 != 0)
 else some true)).bind fun b8' =>
 ((bif (b8' == false) then some ((r3'.1.length : Int) != 1)
 else some true)).bind fun b9' =>
 ((bif (b9' == false) then (bif inB 0 r3'.1.length then (idx r3'.1 0).bind fun x10' =>
 (D14 n x10' want5).bind fun r11' =>
 some (!r11')
 else none)
 else some true)).bind fun b12' =>
 ((bif (b12' == false) then some ((r5'.1.length : Int) != (l3.length : Int))
 else some true)).bind fun b13' =>
 (bif b13' then some false
 else DL3_3 n n.1 (l3.length : Int) 0 b4_0 v500269999 want5 r5'.1))
noncomputable def DL3_1 (n : Nat × Nat) (m : Nat) : Int → Int → List ByteArray → Int → List Int → (List (Int × Int)) → Option R3 := Nat.rec (motive := fun _ => Int → Int → List ByteArray → Int → List Int → (List (Int × Int)) → Option R3) (fun _ _ _ _ _ _ => none) (fun _ ih => DF3_1 n ih) m
theorem DL3_1_succ (n : Nat × Nat) (m : Nat) : DL3_1 n (m + 1) = DF3_1 n (DL3_1 n m) := rfl
theorem DL3_1_eq (n : Nat × Nat) (hn : n.2 = 1) : ∀ m, L3_1 n m = DL3_1 n m
  | 0 => by funext v28 v29 l3 b4_0 want5 v500269999; kernel_rfl
  | m + 1 => by
    have ih := DL3_1_eq n hn m
    funext v28 v29 l3 b4_0 want5 v500269999; refine (L3_1_eq n m v28 v29 l3 b4_0 want5 v500269999).trans ?_
    rw [DL3_1_succ]
    unfold DF3_1
    (try simp only [ih, DL3_4_eq n hn, DL3_5_eq n hn, DL3_2_eq n hn, DL3_3_eq n hn, S10_D n hn, S11_D n hn, S12_D n hn, S13_D n hn, S14_D n hn, S15_D n hn, S16_D n hn, S8_D n hn, S9_D n hn]) <;> first | with_reducible rfl | rfl
noncomputable def D3 (n : Nat × Nat) (words0 : (Int × Int × Int × Int × Int × Int) × (Int × Int × Int × Int × Int × Int) × (Int × Int × Int × Int × Int × Int) × (Int × Int × Int × Int × Int × Int) × (Int × Int × Int × Int × Int × Int) × (Int × Int × Int × Int × Int × Int) × (Int × Int × Int × Int × Int × Int) × Int × Int × Int × Int × Int × Int) : Option R3 :=
 (D8 n words0 6 5).bind fun r1' =>
    DL3_1 n n.1 (r1'.length : Int) 0 r1' (r1'.length : Int) [] []
theorem S3_D (n : Nat × Nat) (hn : n.2 = 1) : S3 n = D3 n := by
  funext words0; refine (S3_eq n words0).trans ?_
  unfold D3
  (try simp only [DL3_4_eq n hn, DL3_5_eq n hn, DL3_2_eq n hn, DL3_3_eq n hn, DL3_1_eq n hn, S10_D n hn, S11_D n hn, S12_D n hn, S13_D n hn, S14_D n hn, S15_D n hn, S16_D n hn, S8_D n hn, S9_D n hn]) <;> first | with_reducible rfl | rfl
/-- Rows of a strict order of so many words, each of a rank. -/
structure Rk (k : Nat) (m rk : Nat → Nat) : Prop where
  lo : 1 ≤ k
  hi : k ≤ 7
  lt : ∀ i, m i < 128
  dn : ∀ i j, (m i).testBit j = true → j < k ∧ rk j < rk i
  top : ∀ i, rk i ≤ 6
  trans : ∀ i j l, (m i).testBit j = true → (m j).testBit l = true → (m i).testBit l = true
theorem bit_small {a j : Nat} (ha : a < 128) (h : a.testBit j = true) : j < 7 := by
  refine Decidable.byContradiction fun hj => ?_
  have h1 : a < 2 ^ j := Nat.lt_of_lt_of_le ha (Nat.pow_le_pow_right (n := 2) (i := 7) (by decide) (by omega))
  rw [Nat.testBit_lt_two_pow h1] at h
  cases h
theorem bit_ne {a : Nat} (h : a ≠ 0) : ∃ j, a.testBit j = true := Nat.exists_testBit_of_ne_zero h
theorem least_in {k : Nat} {m rk : Nat → Nat} (H : Rk k m rk) : ∀ (d i : Nat), rk i < d → m i ≠ 0 → ∃ j, j < k ∧ (m i).testBit j = true ∧ m j = 0
  | 0, i, hd, _ => by omega
  | d + 1, i, hd, hi => by
    obtain ⟨j, hj⟩ := bit_ne hi
    have h1 := H.dn i j hj
    by_cases hz : m j = 0
    · exact ⟨j, h1.1, hj, hz⟩
    · obtain ⟨l, h2, h3, h4⟩ := least_in H d j (by omega) hz
      exact ⟨l, h2, H.trans i j l hj h3, h4⟩
/-- The set of the least words. -/
def mins (m : Nat → Nat) : Nat → Nat
  | 0 => 0
  | k + 1 => if m k = 0 then mins m k ||| 2 ^ k else mins m k
theorem mins_bit (m : Nat → Nat) (j : Nat) : ∀ k, (mins m k).testBit j = (decide (j < k) && decide (m j = 0))
  | 0 => by simp [mins]
  | k + 1 => by
    unfold mins
    by_cases hk : m k = 0
    · rw [if_pos hk, Nat.testBit_or, mins_bit m j k, Nat.testBit_two_pow]
      by_cases e : k = j
      · subst e; simp [hk]
      · have : (j < k + 1) = (j < k) := propext (by omega)
        simp [e, this]
    · rw [if_neg hk, mins_bit m j k]
      by_cases e : j = k
      · subst e; simp [hk]
      · have : (j < k + 1) = (j < k) := propext (by omega)
        simp [this]
theorem mins_lt (m : Nat → Nat) (k : Nat) : mins m k < 2 ^ k := by
  refine Nat.lt_pow_two_of_testBit _ fun j hj => ?_
  rw [mins_bit]
  simp; omega
/-- Two sets have a word in common. -/
def hits (a b : Nat) : Bool := (List.range 7).any fun j => a.testBit j && b.testBit j
theorem hits_iff {a b : Nat} (ha : a < 128) : hits a b = true ↔ ∃ j, a.testBit j = true ∧ b.testBit j = true := by
  unfold hits
  rw [List.any_eq_true]
  constructor
  · rintro ⟨j, _, h⟩
    rw [Bool.and_eq_true] at h
    exact ⟨j, h⟩
  · rintro ⟨j, h⟩
    exact ⟨j, List.mem_range.2 (bit_small ha h.1), by rw [Bool.and_eq_true]; exact h⟩
theorem hits_mins {k : Nat} {m rk : Nat → Nat} (H : Rk k m rk) (i : Nat) : hits (m i) (mins m k) = decide (m i ≠ 0) := by
  rw [Bool.eq_iff_iff, hits_iff (H.lt i), decide_eq_true_eq]
  constructor
  · rintro ⟨j, h, _⟩ e
    rw [e, Nat.zero_testBit] at h
    cases h
  · intro h
    obtain ⟨j, h1, h2, h3⟩ := least_in H _ i (Nat.lt_succ_self _) h
    exact ⟨j, h2, by rw [mins_bit]; simp [h1, h3]⟩
/-- What speaks against a choice, from a word on. -/
def Jd (m : Nat → Nat) (s : Nat) : Nat → Nat → Bool → Int
  | _, 0, v => bif v then 21 else 0
  | i, d + 1, v => bif s.testBit i && hits (m i) s then 13 else Jd m s (i + 1) d (v || (!s.testBit i && !hits (m i) s))
theorem Jd_succ (m : Nat → Nat) (s i d : Nat) (v : Bool) : Jd m s i (d + 1) v = (bif s.testBit i && hits (m i) s then 13 else Jd m s (i + 1) d (v || (!s.testBit i && !hits (m i) s))) := rfl
theorem Jd_zero (m : Nat → Nat) (s : Nat) : ∀ (d i : Nat) (v : Bool), Jd m s i d v = 0 ↔ (v = false ∧ ∀ x, i ≤ x → x < i + d → s.testBit x = !hits (m x) s)
  | 0, i, v => by
    unfold Jd
    cases v
    · exact ⟨fun _ => ⟨rfl, fun x h1 h2 => by omega⟩, fun _ => rfl⟩
    · exact ⟨fun h => absurd h (by decide), fun h => absurd h.1 (by decide)⟩
  | d + 1, i, v => by
    unfold Jd
    have ih := Jd_zero m s d (i + 1)
    have key : (∀ x, i ≤ x → x < i + (d + 1) → s.testBit x = !hits (m x) s) ↔ (s.testBit i = !hits (m i) s) ∧ ∀ x, i + 1 ≤ x → x < i + 1 + d → s.testBit x = !hits (m x) s := by
      constructor
      · exact fun h => ⟨h i (by omega) (by omega), fun x h1 h2 => h x (by omega) (by omega)⟩
      · rintro ⟨h1, h2⟩ x h3 h4
        by_cases e : x = i
        · rw [e]; exact h1
        · exact h2 x (by omega) (by omega)
    rw [key]
    cases hb : s.testBit i <;> cases hh : hits (m i) s
    · simp only [Bool.false_and, cond_false, ih]; simp
    · simp only [Bool.false_and, cond_false, ih]; simp
    · simp only [Bool.and_false, cond_false, ih]; simp
    · simp
theorem Jd_mins {k : Nat} {m rk : Nat → Nat} (H : Rk k m rk) {s : Nat} (hs : s < 2 ^ k) : Jd m s 0 k false = 0 ↔ s = mins m k := by
  rw [Jd_zero]
  have h7 : (2 : Nat) ^ k ≤ 2 ^ 7 := Nat.pow_le_pow_right (by decide) H.hi
  constructor
  · rintro ⟨_, h⟩
    refine Nat.eq_of_testBit_eq fun x => ?_
    rw [mins_bit]
    by_cases hx : x < k
    · rw [h x (by omega) (by omega)]
      have up : ∀ y, y < k → m y = 0 → s.testBit y = true := fun y hy hz => by
        rw [h y (by omega) (by omega)]
        cases hh : hits (m y) s with
        | false => rfl
        | true =>
          obtain ⟨j, h1, _⟩ := (hits_iff (H.lt y)).1 hh
          rw [hz, Nat.zero_testBit] at h1
          cases h1
      by_cases hz : m x = 0
      · rw [← h x (by omega) (by omega), up x hx hz]; simp [hx, hz]
      · obtain ⟨j, h1, h2, h3⟩ := least_in H _ x (Nat.lt_succ_self _) hz
        rw [(hits_iff (H.lt x)).2 ⟨j, h2, up j h1 h3⟩]
        simp [hz]
    · have h1 : s < 2 ^ x := Nat.lt_of_lt_of_le hs (Nat.pow_le_pow_right (by decide) (by omega))
      rw [Nat.testBit_lt_two_pow h1]
      simp [hx]
  · rintro rfl
    refine ⟨rfl, fun x _ hx => ?_⟩
    rw [hits_mins H, mins_bit]
    by_cases hz : m x = 0 <;> simp [hz]; omega
/-- The numbers of a set, in ascending order. -/
def bitsL (c : Nat) : List Int := ((List.range 7).filter fun j => c.testBit j).map fun j : Nat => (j : Int)
theorem bitsL_mem {c : Nat} (hc : c < 128) (y : Int) : y ∈ bitsL c ↔ ∃ j : Nat, y = (j : Int) ∧ c.testBit j = true := by
  unfold bitsL
  simp only [List.mem_map, List.mem_filter, List.mem_range]
  constructor
  · rintro ⟨j, h, rfl⟩; exact ⟨j, rfl, h.2⟩
  · rintro ⟨j, rfl, h⟩; exact ⟨j, ⟨bit_small hc h, h⟩, rfl⟩
/-- How many words of so many a set lacks. -/
def lack (k c : Nat) : Nat := (List.range k).countP fun x => !c.testBit x
theorem countP_less {p q : Nat → Bool} : ∀ (l : List Nat), (∀ x ∈ l, p x = true → q x = true) → (∃ x ∈ l, q x = true ∧ p x = false) → l.countP p < l.countP q
  | [], _, h => by obtain ⟨x, hx, _⟩ := h; cases hx
  | a :: l, h, ⟨x, hx, h1, h2⟩ => by
    rw [List.countP_cons, List.countP_cons]
    have hm : l.countP p ≤ l.countP q := List.countP_mono_left fun y hy => h y (by simp [hy])
    have ha := h a (by simp)
    rcases List.mem_cons.1 hx with rfl | hx
    · rw [h1, h2]; simp; omega
    · have := countP_less l (fun y hy => h y (by simp [hy])) ⟨x, hx, h1, h2⟩
      cases hp : p a <;> cases hq : q a
      · simp; omega
      · simp; omega
      · rw [ha hp] at hq; cases hq
      · simp; omega
theorem lack_zero {k c : Nat} : lack k c = 0 ↔ ∀ x, x < k → c.testBit x = true := by
  unfold lack
  rw [List.countP_eq_zero]
  simp
theorem lack_le (k c : Nat) : lack k c ≤ k := by
  have := List.countP_le_length (p := fun x => !c.testBit x) (l := List.range k)
  rw [List.length_range] at this
  exact this
/-- A word that is not known, whose own words all are. -/
theorem next_known {k : Nat} {m rk : Nat → Nat} (H : Rk k m rk) (c : Nat) : ∀ (d x : Nat), rk x < d → x < k → c.testBit x = false → ∃ y, y < k ∧ c.testBit y = false ∧ ∀ j, (m y).testBit j = true → c.testBit j = true
  | 0, x, hd, _, _ => by omega
  | d + 1, x, hd, hx, hc => by
    by_cases h : ∀ j, (m x).testBit j = true → c.testBit j = true
    · exact ⟨x, hx, hc, h⟩
    · obtain ⟨j, hj⟩ := Classical.not_forall.1 h
      obtain ⟨h1, h2⟩ := Classical.not_imp.1 hj
      have h3 := H.dn x j h1
      exact next_known H c d j (by omega) h3.1 (by simpa using h2)
theorem lack_step {k : Nat} {m rk : Nat → Nat} (H : Rk k m rk) {c c' : Nat} (h1 : ∀ x, c.testBit x = true → c'.testBit x = true) (h2 : ∀ x, x < k → (∀ j, (m x).testBit j = true → c.testBit j = true) → c'.testBit x = true) : lack k c' ≤ lack k c - 1 := by
  by_cases h : lack k c = 0
  · have : lack k c' = 0 := lack_zero.2 fun x hx => h1 x (lack_zero.1 h x hx)
    omega
  · have hne : ¬ ∀ x, x < k → c.testBit x = true := fun h3 => h (lack_zero.2 h3)
    obtain ⟨x, hx⟩ := Classical.not_forall.1 hne
    obtain ⟨hx1, hx2⟩ := Classical.not_imp.1 hx
    obtain ⟨y, hy1, hy2, hy3⟩ := next_known H c _ x (Nat.lt_succ_self _) hx1 (by simpa using hx2)
    have : lack k c' < lack k c := countP_less _ (fun x _ hh => by
      cases hc : c.testBit x with
      | false => rfl
      | true => rw [h1 x hc] at hh; cases hh) ⟨y, List.mem_range.2 hy1, by rw [hy2]; rfl, by rw [h2 y hy1 hy3]; rfl⟩
    omega
theorem strBytes_cut (s : ByteArray) : strBytes (strCut (some 1) none s) = (strBytes s).drop 1 := by
  unfold strBytes strCut
  simp [cutHi, loN]
theorem strBytes_size (s : ByteArray) : (strBytes s).length = s.size := by
  rw [strBytes, List.length_map, Array.length_toList]
  rfl
theorem strEq_nil (s : ByteArray) : strEq s (⟨#[]⟩ : ByteArray) = (strBytes s).isEmpty := by
  unfold strEq strBytes
  cases s.data.toList <;> rfl
theorem bounds_one {k : Nat} (h : 0 < k) : bounds (some 1) none none k = true := by
  unfold bounds
  simp
  omega
theorem left_loop (n : Nat × Nat) (w : ByteArray) (hw : w.size ≤ 10) : ∀ (d i m : Nat) (p : ByteArray), i + d = w.size → d < m → DL32_1 n m w p (i : Int) = some ((strBytes p).isSublist ((strBytes w).drop i))
  | 0, i, m, p, hi, hm => by
    obtain ⟨m, rfl⟩ : ∃ j, m = j + 1 := ⟨m - 1, by omega⟩
    rw [DL32_1_succ]
    unfold DF32_1
    rw [show decide ((i : Int) < (w.size : Int)) = false by simp; omega, List.drop_of_length_le (by rw [strBytes_size]; omega), strEq_nil]
    cases strBytes p <;> simp [List.isSublist]
  | d + 1, i, m, p, hi, hm => by
    obtain ⟨m, rfl⟩ : ∃ j, m = j + 1 := ⟨m - 1, by omega⟩
    rw [DL32_1_succ]
    unfold DF32_1 DL32_2
    have hlt : i < (strBytes w).length := by rw [strBytes_size]; omega
    have e1 : idx (strBytes w) (i : Int) = some (strBytes w)[i] := by
      unfold idx
      rw [if_pos (by omega), Int.toNat_natCast, List.getElem?_eq_getElem hlt]
    have w1 : wr .i64 ((i : Int) + 1) = ((i + 1 : Nat) : Int) := by
      show IntKind.i64.wrap _ = _
      rw [IntKind.wrap_i64]
      omega
    have ih := fun p => left_loop n w hw d (i + 1) m p (by omega) (by omega)
    rw [show decide ((i : Int) < (w.size : Int)) = true by simp; omega, strEq_nil, e1, w1, List.drop_eq_getElem_cons hlt]
    have hc := strBytes_cut p
    have hz := strBytes_size p
    cases hp : strBytes p with
    | nil => rfl
    | cons a r =>
      rw [hp] at hc hz
      have hb : bounds (some 1) none none p.size = true := bounds_one (by rw [← hz]; simp)
      have e2 : idx (a :: r) 0 = some a := rfl
      rw [show ((bif (true == true) then some (!(a :: r).isEmpty) else some false)) = some true from rfl, Option.bind_some, cond_true, Option.bind_some, e2, Option.bind_some, hb, cond_true, ih, ih, hc, hp]
      show (bif ((strBytes w)[i] == a) then some (r.isSublist _) else some ((a :: r).isSublist _)) = some (if (a == (strBytes w)[i]) = true then r.isSublist _ else (a :: r).isSublist _)
      rw [show (a == (strBytes w)[i]) = ((strBytes w)[i] == a) from Bool.eq_iff_iff.2 (by rw [beq_iff_eq, beq_iff_eq]; exact eq_comm)]
      cases h : (strBytes w)[i] == a <;> rfl
theorem part_loop (n : Nat × Nat) (w : ByteArray) (ha : ∀ x ∈ strBytes w, x < 128) : ∀ (d i m : Nat) (p : ByteArray), i + d = w.size → d < m → DL10_1 n m w p w i = some ((strBytes p).isSublist ((strBytes w).drop i))
  | 0, i, m, p, hi, hm => by
    obtain ⟨m, rfl⟩ : ∃ j, m = j + 1 := ⟨m - 1, by omega⟩
    rw [DL10_1_succ]
    unfold DF10_1
    rw [show Nat.blt i w.size = false by rw [← Bool.not_eq_true, Nat.blt_eq]; omega, cond_false, List.drop_of_length_le (by rw [strBytes_size]; omega), strEq_nil]
    cases strBytes p <;> simp [List.isSublist]
  | d + 1, i, m, p, hi, hm => by
    obtain ⟨m, rfl⟩ : ∃ j, m = j + 1 := ⟨m - 1, by omega⟩
    rw [DL10_1_succ]
    unfold DF10_1
    have hlt : i < (strBytes w).length := by rw [strBytes_size]; omega
    have e1 : idx (strBytes w) (i : Int) = some (strBytes w)[i] := by
      unfold idx
      rw [if_pos (by omega), Int.toNat_natCast, List.getElem?_eq_getElem hlt]
    have hx := ha (strBytes w)[i] (List.getElem_mem _)
    have ih := fun p => part_loop n w ha d (i + 1) m p (by omega) (by omega)
    rw [show Nat.blt i w.size = true by rw [Nat.blt_eq]; omega, cond_true, List.getElem?_eq_getElem hlt, Option.bind_some, decide_eq_true hx, cond_true, strEq_nil, e1, List.drop_eq_getElem_cons hlt]
    have hc := strBytes_cut p
    have hz := strBytes_size p
    cases hp : strBytes p with
    | nil =>
      rw [show ((bif (!([] : List Int).isEmpty) == true then (some (strBytes w)[i]).bind fun x2' => (idx ([] : List Int) 0).bind fun x3' => some (x2' == x3') else some false)) = some false from rfl, Option.bind_some, cond_false, ih, hp]
      simp [List.isSublist]
    | cons a r =>
      rw [hp] at hc hz
      have hb : bounds (some 1) none none p.size = true := bounds_one (by rw [← hz]; simp)
      have e2 : idx (a :: r) 0 = some a := rfl
      rw [show ((!(a :: r).isEmpty) == true) = true from rfl, cond_true, Option.bind_some, e2, Option.bind_some, Option.bind_some, hb, cond_true, ih, ih, hc, hp]
      show (bif ((strBytes w)[i] == a) then some (r.isSublist _) else some ((a :: r).isSublist _)) = some (if (a == (strBytes w)[i]) = true then r.isSublist _ else (a :: r).isSublist _)
      rw [show (a == (strBytes w)[i]) = ((strBytes w)[i] == a) from Bool.eq_iff_iff.2 (by rw [beq_iff_eq, beq_iff_eq]; exact eq_comm)]
      cases h : (strBytes w)[i] == a <;> rfl
/-- A word of the law. -/
structure Wrd (w : ByteArray) : Prop where
  len : w.size ≤ 5
  abc : ∀ x ∈ strBytes w, 97 ≤ x ∧ x ≤ 99
theorem let_loop (n : Nat × Nat) {w : ByteArray} (h : Wrd w) : ∀ (d i m : Nat), i + d = w.size → d < m → DL65_1 n m w i = some 0
  | 0, i, m, hi, hm => by
    obtain ⟨m, rfl⟩ : ∃ j, m = j + 1 := ⟨m - 1, by omega⟩
    rw [DL65_1_succ]
    unfold DF65_1
    rw [show Nat.blt i w.size = false by rw [← Bool.not_eq_true, Nat.blt_eq]; omega, cond_false]
  | d + 1, i, m, hi, hm => by
    obtain ⟨m, rfl⟩ : ∃ j, m = j + 1 := ⟨m - 1, by omega⟩
    rw [DL65_1_succ]
    unfold DF65_1
    have hlt : i < (strBytes w).length := by rw [strBytes_size]; omega
    have hx := h.abc (strBytes w)[i] (List.getElem_mem _)
    rw [show Nat.blt i w.size = true by rw [Nat.blt_eq]; omega, cond_true, List.getElem?_eq_getElem hlt, Option.bind_some]
    generalize (strBytes w)[i] = x at hx
    rw [show decide (x < 128) = true by simp; omega, show decide (x < 97) = false by simp; omega, show decide (x ≥ 103) = false by simp; omega]
    exact let_loop n h d (i + 1) m (by omega) (by omega)
theorem word_ok {n : Nat × Nat} (hn : 100 ≤ n.1) {w : ByteArray} (h : Wrd w) : D65 n w = some 0 := by
  have := h.len
  unfold D65
  rw [show decide ((w.size : Int) > 10) = false by simp; omega, cond_false]
  exact let_loop n h w.size 0 n.1 (by omega) (by omega)
theorem holds_eq {n : Nat × Nat} (hn : 100 ≤ n.1) {w p : ByteArray} (hw : Wrd w) (hp : Wrd p) : D9 n w p = some ((strBytes p).isSublist (strBytes w), 0) := by
  obtain ⟨m, hm⟩ : ∃ j, n.1 = j + 1 + 1 + 1 := ⟨n.1 - 3, by omega⟩
  have e31 : D31 n [w, p] = some 0 := by
    unfold D31
    rw [hm, DL31_1_succ]
    show (D65 n w).bind _ = _
    rw [word_ok hn hw, Option.bind_some]
    show DL31_1 n (m + 1 + 1) [w, p] 2 1 = _
    rw [DL31_1_succ]
    show (D65 n p).bind _ = _
    rw [word_ok hn hp, Option.bind_some]
    rfl
  have := hw.len
  have e32 : D32 n w p = some ((strBytes p).isSublist (strBytes w)) := left_loop n w (by omega) w.size 0 n.1 p (by omega) (by omega)
  unfold D9
  rw [e31, Option.bind_some, show ((0 : Int) != 0) = false from rfl, cond_false, e32]
  rfl
theorem part_eq {n : Nat × Nat} (hn : 100 ≤ n.1) {w p : ByteArray} (hw : Wrd w) : D10 n w p = some ((strBytes p).isSublist (strBytes w)) := by
  have := hw.len
  exact part_loop n w (fun x hx => by have := hw.abc x hx; omega) w.size 0 n.1 p (by omega) (by omega)
theorem wr_i64 {x : Int} (h0 : -1000000 ≤ x) (h1 : x ≤ 1000000) : wr .i64 x = x := by
  show IntKind.i64.wrap _ = _
  rw [IntKind.wrap_i64]
  omega
theorem strEq_iff (a b : ByteArray) : strEq a b = true ↔ strBytes a = strBytes b := by
  unfold strEq strBytes
  rw [beq_iff_eq]
  refine ⟨fun h => by rw [h], fun h => ?_⟩
  exact (List.map_inj_right fun x y hxy => UInt8.toNat_inj.1 (by omega)).1 h
theorem has_loop (n : Nat × Nat) (s : List ByteArray) (v : ByteArray) (hs : s.length ≤ 100) : ∀ (d i m : Nat), i + d = s.length → d < m → ∃ r : Int, DL64_1 n m s v (s.length : Int) (i : Int) = some r ∧ (0 ≤ r ↔ ∃ x ∈ s.drop i, strBytes v = strBytes x)
  | 0, i, m, hi, hm => by
    obtain ⟨m, rfl⟩ : ∃ j, m = j + 1 := ⟨m - 1, by omega⟩
    rw [DL64_1_succ]
    unfold DF64_1
    rw [show decide ((i : Int) < (s.length : Int)) = false by simp; omega, cond_false, List.drop_of_length_le (by omega)]
    exact ⟨-1, rfl, by simp⟩
  | d + 1, i, m, hi, hm => by
    obtain ⟨m, rfl⟩ : ∃ j, m = j + 1 := ⟨m - 1, by omega⟩
    rw [DL64_1_succ]
    unfold DF64_1
    have hlt : i < s.length := by omega
    have e1 : idx s (i : Int) = some s[i] := by
      unfold idx
      rw [if_pos (by omega), Int.toNat_natCast, List.getElem?_eq_getElem hlt]
    rw [show decide ((i : Int) < (s.length : Int)) = true by simp; omega, cond_true, e1, Option.bind_some, List.drop_eq_getElem_cons hlt]
    cases h : strEq v s[i] with
    | true => exact ⟨i, rfl, ⟨fun _ => ⟨s[i], List.mem_cons_self, (strEq_iff _ _).1 h⟩, fun _ => by omega⟩⟩
    | false =>
      obtain ⟨r, h1, h2⟩ := has_loop n s v hs d (i + 1) m (by omega) (by omega)
      refine ⟨r, ?_, h2.trans ⟨fun ⟨x, hx, e⟩ => ⟨x, List.mem_cons_of_mem _ hx, e⟩, ?_⟩⟩
      · rw [cond_false, wr_i64 (by omega) (by omega)]
        exact h1
      · rintro ⟨x, hx, e⟩
        rcases List.mem_cons.1 hx with rfl | hx
        · rw [(strEq_iff _ _).2 e] at h; cases h
        · exact ⟨x, hx, e⟩
theorem has_eq {n : Nat × Nat} (hn : 200 ≤ n.1) (s : List ByteArray) (v : ByteArray) (hs : s.length ≤ 100) : ∃ b : Bool, D30 n s v = some b ∧ (b = true ↔ ∃ x ∈ s, strBytes v = strBytes x) := by
  obtain ⟨r, h1, h2⟩ := has_loop n s v hs s.length 0 n.1 (by omega) (by omega)
  refine ⟨decide (r ≥ 0), ?_, by rw [decide_eq_true_iff]; simpa using h2⟩
  unfold D30 D64
  rw [show DL64_1 n n.1 s v (s.length : Int) 0 = some r from h1]
  rfl
theorem strBytes_app (a b : ByteArray) : strBytes (strApp a b) = strBytes a ++ strBytes b := by
  unfold strBytes strApp
  simp
def piece (a : Int) : ByteArray := strCut (some a) (some (wr .u8 (a + 1))) (⟨#[97, 98, 99]⟩ : ByteArray)
theorem piece_ok : ∀ a : Fin 3, strBytes (piece (a.val : Int)) = [97 + (a.val : Int)] ∧ bounds (some (a.val : Int)) (some (wr .u8 ((a.val : Int) + 1))) none (⟨#[97, 98, 99]⟩ : ByteArray).size = true := by
  intro a
  match a with
  | 0 => exact ⟨by decide +kernel, by decide +kernel⟩
  | 1 => exact ⟨by decide +kernel, by decide +kernel⟩
  | 2 => exact ⟨by decide +kernel, by decide +kernel⟩
theorem t3 {x : Int} (h : 0 ≤ x ∧ x ≤ 255) : ∃ a : Fin 3, Int.tmod x 3 = (a.val : Int) := by
  obtain ⟨y, rfl⟩ := Int.eq_ofNat_of_zero_le h.1
  exact ⟨⟨y % 3, Nat.mod_lt _ (by decide)⟩, (Int.ofNat_tmod y 3).symm⟩
theorem lim_s {a : Nat} (h : a ≤ 1000) : decide (a ≤ lim) = true := by
  have : (1000 : Nat) ≤ lim := by unfold lim; omega
  exact decide_eq_true (Nat.le_trans h this)
/-- The letters of one word. -/
theorem word_loop (n : Nat × Nat) (f1 : Int → List (Int × Int × Int × Int × Int × Int) → Int → Int → List ByteArray → Option R8) (le : Int) (v14 : List (Int × Int × Int × Int × Int × Int)) (v15 v16 : Int) (out : List ByteArray) (l : List Int) (h5 : l.length ≤ 5) (hl : ∀ x ∈ l, 0 ≤ x ∧ x ≤ 255) :
    ∀ (d i m : Nat) (w : ByteArray), i + d = l.length → d < m → w.size = i → (∀ x ∈ strBytes w, 97 ≤ x ∧ x ≤ 99) →
      ∃ w', Wrd w' ∧ ∃ f2, DL8_2 n f1 m le w v14 v15 v16 l (l.length : Int) (i : Int) out = DF8_2 n f1 f2 le w' v14 v15 v16 l (l.length : Int) (l.length : Int) out
  | 0, i, m, w, hi, hm, hw, ha => by
    obtain ⟨m, rfl⟩ : ∃ j, m = j + 1 := ⟨m - 1, by omega⟩
    rw [DL8_2_succ]
    obtain rfl : i = l.length := by omega
    exact ⟨w, ⟨by omega, ha⟩, _, rfl⟩
  | d + 1, i, m, w, hi, hm, hw, ha => by
    obtain ⟨m, rfl⟩ : ∃ j, m = j + 1 := ⟨m - 1, by omega⟩
    have hlt : i < l.length := by omega
    have e1 : idx l (i : Int) = some l[i] := by
      unfold idx
      rw [if_pos (by omega), Int.toNat_natCast, List.getElem?_eq_getElem hlt]
    obtain ⟨a, ea⟩ := t3 (hl l[i] (List.getElem_mem _))
    obtain ⟨p1, p2⟩ := piece_ok a
    have hps : (piece (a.val : Int)).size = 1 := by rw [← strBytes_size, p1]; rfl
    have hsz : (strApp w (piece (a.val : Int))).size = i + 1 := by rw [← strBytes_size, strBytes_app, p1, List.length_append, strBytes_size, hw]; rfl
    obtain ⟨w', h1, f2, h2⟩ := word_loop n f1 le v14 v15 v16 out l h5 hl d (i + 1) m (strApp w (piece (a.val : Int))) (by omega) (by omega) hsz (by
      intro x hx
      rw [strBytes_app, p1] at hx
      rcases List.mem_append.1 hx with hx | hx
      · exact ha x hx
      · have e := List.mem_singleton.1 hx
        have := a.isLt
        omega)
    refine ⟨w', h1, f2, ?_⟩
    rw [← h2, DL8_2_succ]
    conv => lhs; unfold DF8_2
    rw [show decide ((i : Int) < (l.length : Int)) = true by simp; omega, cond_true, e1, Option.bind_some, show (3 == 0) = false from rfl, cond_false, cond_false, ea, p2, cond_true]
    show (bif decide (w.size + (piece (a.val : Int)).size ≤ lim) then DL8_2 n f1 m le (strApp w (piece (a.val : Int))) v14 v15 v16 l (l.length : Int) (wr .i64 ((i : Int) + 1)) out else none) = _
    rw [lim_s (by omega), cond_true, wr_i64 (by omega) (by omega)]
    rfl
/-- Different words. -/
def Dif (ws : List ByteArray) : Prop := ws.Pairwise fun a b => strBytes a ≠ strBytes b
def row6 (r : Int × Int × Int × Int × Int × Int) : List Int := [r.1, r.2.1, r.2.2.1, r.2.2.2.1, r.2.2.2.2.1, r.2.2.2.2.2]
theorem bounds6 {a : Nat} (h : a < 6) : bounds (some 1) (some (((a + 1 : Nat)) : Int)) none 6 = true := by
  have : ((List.range 6).all fun a => bounds (some 1) (some (((a + 1 : Nat)) : Int)) none 6) = true := by kernel_rfl
  exact List.all_eq_true.1 this a (List.mem_range.2 h)
theorem words_loop {n : Nat × Nat} (hn : 500 ≤ n.1) (v : List (Int × Int × Int × Int × Int × Int)) (hv : v.length ≤ 6) (hr : ∀ r ∈ v, ∀ x ∈ row6 r, 0 ≤ x ∧ x ≤ 255) : ∀ (d i m : Nat) (out : List ByteArray), i + d = v.length → d < m → out.length ≤ i → (∀ w ∈ out, Wrd w) → Dif out →
    ∃ ws, DL8_1 n m 5 v (v.length : Int) (i : Int) out = some ws ∧ ws.length ≤ v.length ∧ (∀ w ∈ ws, Wrd w) ∧ Dif ws ∧ (0 < d ∨ out ≠ [] → ws ≠ [])
  | 0, i, m, out, hi, hm, ho, hw, hd => by
    obtain ⟨m, rfl⟩ : ∃ j, m = j + 1 := ⟨m - 1, by omega⟩
    rw [DL8_1_succ]
    unfold DF8_1
    rw [show decide ((i : Int) < (v.length : Int)) = false by simp; omega, cond_false]
    exact ⟨out, rfl, by omega, hw, hd, fun h => h.elim (fun h => by omega) id⟩
  | d + 1, i, m, out, hi, hm, ho, hw, hd => by
    obtain ⟨m, rfl⟩ : ∃ j, m = j + 1 := ⟨m - 1, by omega⟩
    have hlt : i < v.length := by omega
    have e1 : idx v (i : Int) = some v[i] := by
      unfold idx
      rw [if_pos (by omega), Int.toNat_natCast, List.getElem?_eq_getElem hlt]
    have hrow := hr v[i] (List.getElem_mem _)
    generalize v[i] = r at e1 hrow
    obtain ⟨a, ha, e6⟩ := tmod_small 6 (by decide) (hrow r.1 (by simp [row6]))
    have e6 : Int.tmod (wr .i64 r.1) 6 = (a : Int) := e6
    have w6 : wr .i64 (5 + 1) = 6 := wr_i64 (x := 5 + 1) (by decide) (by decide)
    have wa : wr .i64 (1 + (a : Int)) = ((a + 1 : Nat) : Int) := by rw [wr_i64 (by omega) (by omega)]; omega
    have hl5 : (((row6 r).take (a + 1)).drop 1).length ≤ 5 := by simp [row6]; omega
    obtain ⟨w', hw', f2, h2⟩ := word_loop n (DL8_1 n m) 5 v (v.length : Int) (i : Int) out (((row6 r).take (a + 1)).drop 1) hl5 (fun x hx => hrow x (List.mem_of_mem_take (List.mem_of_mem_drop hx))) _ 0 n.1 (⟨#[]⟩ : ByteArray) (Nat.zero_add _) (by omega) rfl (by intro x hx; cases hx)
    obtain ⟨b, h3, h4⟩ := has_eq (n := n) (by omega) out w' (by omega)
    have wi : wr .i64 ((i : Int) + 1) = ((i + 1 : Nat) : Int) := by rw [wr_i64 (by omega) (by omega)]; rfl
    have key : DL8_1 n (m + 1) 5 v (v.length : Int) (i : Int) out = DL8_1 n m 5 v (v.length : Int) ((i + 1 : Nat) : Int) (bif !b then out ++ [w'] else out) := by
      rw [DL8_1_succ]
      unfold DF8_1
      rw [show decide ((i : Int) < (v.length : Int)) = true by simp; omega, cond_true, e1, Option.bind_some, show inB 0 6 = true from rfl, cond_true, show idx [r.1, r.2.1, r.2.2.1, r.2.2.2.1, r.2.2.2.2.1, r.2.2.2.2.2] 0 = some r.1 from rfl, Option.bind_some, w6, show ((6 : Int) == 0) = false from rfl, cond_false, e6, wa, bounds6 ha, cond_true, Int.toNat_natCast]
      refine h2.trans ?_
      unfold DF8_2 DL8_3
      rw [show decide ((((((row6 r).take (a + 1)).drop 1).length : Nat) : Int) < (((((row6 r).take (a + 1)).drop 1).length : Nat) : Int)) = false by simp, cond_false, h3, Option.bind_some, lim_s (by simp; omega), wi]
      cases b <;> rfl
    rw [key]
    cases b with
    | true =>
      obtain ⟨ws, a1, a2, a3, a4, a5⟩ := words_loop hn v hv hr d (i + 1) m out (by omega) (by omega) (by omega) hw hd
      refine ⟨ws, a1, a2, a3, a4, fun _ => a5 (.inr ?_)⟩
      obtain ⟨x, hx, _⟩ := h4.1 rfl
      exact List.ne_nil_of_mem hx
    | false =>
      have q1 : ∀ w ∈ out ++ [w'], Wrd w := by
        intro w hw2
        rcases List.mem_append.1 hw2 with hw2 | hw2
        · exact hw w hw2
        · rw [List.mem_singleton.1 hw2]; exact hw'
      have q2 : Dif (out ++ [w']) := by
        refine List.pairwise_append.2 ⟨hd, List.pairwise_singleton _ _, fun x hx y hy e => ?_⟩
        rw [List.mem_singleton.1 hy] at e
        exact absurd (h4.2 ⟨x, hx, e.symm⟩) (by simp)
      obtain ⟨ws, a1, a2, a3, a4, a5⟩ := words_loop hn v hv hr d (i + 1) m (out ++ [w']) (by omega) (by omega) (by simp; omega) q1 q2
      exact ⟨ws, a1, a2, a3, a4, fun _ => a5 (.inr (by simp))⟩
/-- The bytes of a word by its number. -/
def Bw (ws : List ByteArray) (i : Nat) : List Int := (ws.map strBytes).getD i []
theorem Bw_get {ws : List ByteArray} {i : Nat} (hi : i < ws.length) : Bw ws i = strBytes ws[i] := by
  unfold Bw
  rw [List.getD_eq_getElem?_getD, List.getElem?_map, List.getElem?_eq_getElem hi]
  rfl
/-- The second word is a part of the first, another one. -/
def prt (ws : List ByteArray) (i j : Nat) : Bool := decide (i ≠ j) && (Bw ws j).isSublist (Bw ws i)
theorem prt_iff (ws : List ByteArray) (i j : Nat) : prt ws i j = true ↔ i ≠ j ∧ (Bw ws j).Sublist (Bw ws i) := by
  unfold prt
  rw [Bool.and_eq_true, decide_eq_true_eq, List.isSublist_iff_sublist]
theorem Bw_inj {ws : List ByteArray} (hd : Dif ws) {i j : Nat} (hi : i < ws.length) (hj : j < ws.length) (h : Bw ws i = Bw ws j) : i = j := by
  rw [Bw_get hi, Bw_get hj] at h
  have hp := List.pairwise_iff_getElem.1 hd
  rcases Nat.lt_trichotomy i j with hl | hl | hl
  · exact absurd h (hp i j hi hj hl)
  · exact hl
  · exact absurd h.symm (hp j i hj hi hl)
theorem prt_less {ws : List ByteArray} (hd : Dif ws) {i j : Nat} (hi : i < ws.length) (hj : j < ws.length) (h : prt ws i j = true) : (Bw ws j).length < (Bw ws i).length := by
  obtain ⟨h1, h2⟩ := (prt_iff ws i j).1 h
  have hl := h2.length_le
  refine Nat.lt_of_le_of_ne hl fun e => h1 (Bw_inj hd hi hj (h2.eq_of_length e).symm)
theorem prt_trans {ws : List ByteArray} (hd : Dif ws) {i j l : Nat} (hi : i < ws.length) (hj : j < ws.length) (hl : l < ws.length) (h1 : prt ws i j = true) (h2 : prt ws j l = true) : prt ws i l = true := by
  have a := prt_less hd hi hj h1
  have b := prt_less hd hj hl h2
  refine (prt_iff ws i l).2 ⟨fun e => by subst e; omega, ((prt_iff ws j l).1 h2).2.trans ((prt_iff ws i j).1 h1).2⟩
/-- The references of a word to the first words. -/
def refR (ws : List ByteArray) (i j : Nat) : List (Int × Int) := ((List.range j).filter fun x => prt ws i x).map fun x : Nat => ((i : Int), (x : Int))
/-- The references of the first words. -/
def refsUp (ws : List ByteArray) (k : Nat) : Nat → List (Int × Int)
  | 0 => []
  | i + 1 => refsUp ws k i ++ refR ws i k
/-- No other word of the first ones is a part. -/
def leastW (ws : List ByteArray) (i j : Nat) : Bool := !(List.range j).any fun x => prt ws i x
def wantsW (ws : List ByteArray) (k i : Nat) : List Int := ((List.range i).filter fun x => leastW ws x k).map fun x : Nat => (x : Int)
theorem refR_succ (ws : List ByteArray) (i j : Nat) : refR ws i (j + 1) = refR ws i j ++ (bif prt ws i j then [((i : Int), (j : Int))] else []) := by
  unfold refR
  rw [List.range_succ, List.filter_append, List.map_append]
  congr 1
  cases h : prt ws i j <;> simp [List.filter, h]
theorem leastW_succ (ws : List ByteArray) (i j : Nat) : leastW ws i (j + 1) = (leastW ws i j && !prt ws i j) := by
  unfold leastW
  rw [List.range_succ, List.any_append]
  simp
theorem wantsW_succ (ws : List ByteArray) (k i : Nat) : wantsW ws k (i + 1) = wantsW ws k i ++ (bif leastW ws i k then [(i : Int)] else []) := by
  unfold wantsW
  rw [List.range_succ, List.filter_append, List.map_append]
  congr 1
  cases h : leastW ws i k <;> simp [List.filter, h]
theorem refR_len (ws : List ByteArray) (i j : Nat) : (refR ws i j).length ≤ j := by
  unfold refR
  rw [List.length_map]
  exact Nat.le_trans (List.length_filter_le _ _) (by simp)
theorem refsUp_len (ws : List ByteArray) (k : Nat) : ∀ i, (refsUp ws k i).length ≤ i * k
  | 0 => by simp [refsUp]
  | i + 1 => by
    have := refsUp_len ws k i
    have := refR_len ws i k
    rw [refsUp, List.length_append, Nat.succ_mul]
    omega
theorem wantsW_len (ws : List ByteArray) (k i : Nat) : (wantsW ws k i).length ≤ i := by
  unfold wantsW
  rw [List.length_map]
  exact Nat.le_trans (List.length_filter_le _ _) (by simp)
theorem refR_mem (ws : List ByteArray) (i j : Nat) (p : Int × Int) : p ∈ refR ws i j ↔ ∃ x : Nat, x < j ∧ p = ((i : Int), (x : Int)) ∧ prt ws i x = true := by
  unfold refR
  simp only [List.mem_map, List.mem_filter, List.mem_range]
  constructor
  · rintro ⟨x, ⟨h1, h2⟩, rfl⟩; exact ⟨x, h1, rfl, h2⟩
  · rintro ⟨x, h1, rfl, h2⟩; exact ⟨x, ⟨h1, h2⟩, rfl⟩
theorem refsUp_mem (ws : List ByteArray) (k : Nat) (p : Int × Int) : ∀ i, p ∈ refsUp ws k i ↔ ∃ a x : Nat, a < i ∧ x < k ∧ p = ((a : Int), (x : Int)) ∧ prt ws a x = true
  | 0 => ⟨fun h => (by cases h), fun ⟨_, _, h, _⟩ => by omega⟩
  | i + 1 => by
    rw [refsUp, List.mem_append, refsUp_mem ws k p i, refR_mem]
    constructor
    · rintro (⟨a, x, h1, h2⟩ | ⟨x, h1, h2⟩)
      · exact ⟨a, x, by omega, h2⟩
      · exact ⟨i, x, by omega, h1, h2⟩
    · rintro ⟨a, x, h1, h2, h3⟩
      by_cases e : a = i
      · subst e; exact .inr ⟨x, h2, h3⟩
      · exact .inl ⟨a, x, by omega, h2, h3⟩
theorem refs_pair (ws : List ByteArray) (k : Nat) (a x : Nat) : ((a : Int), (x : Int)) ∈ refsUp ws k k ↔ a < k ∧ x < k ∧ prt ws a x = true := by
  rw [refsUp_mem]
  constructor
  · rintro ⟨a', x', h1, h2, h3, h4⟩
    obtain ⟨e1, e2⟩ := Prod.mk.inj h3
    obtain rfl : a = a' := by omega
    obtain rfl : x = x' := by omega
    exact ⟨h1, h2, h4⟩
  · rintro ⟨h1, h2, h3⟩; exact ⟨a, x, h1, h2, rfl, h3⟩
theorem refR_nodup (ws : List ByteArray) (i j : Nat) : (refR ws i j).Nodup := by
  unfold refR
  refine List.pairwise_map.2 ?_
  have h : ((List.range j).filter fun x => prt ws i x).Nodup := List.Nodup.sublist List.filter_sublist List.nodup_range
  refine List.Pairwise.imp (fun hab e => hab ?_) h
  have := (Prod.mk.inj e).2
  omega
theorem refsUp_nodup (ws : List ByteArray) (k : Nat) : ∀ i, (refsUp ws k i).Nodup
  | 0 => List.nodup_nil
  | i + 1 => by
    rw [refsUp, List.nodup_append]
    refine ⟨refsUp_nodup ws k i, refR_nodup ws i k, fun a ha b hb e => ?_⟩
    obtain ⟨x, y, h1, _, rfl, _⟩ := (refsUp_mem ws k a i).1 ha
    obtain ⟨z, _, h2, _⟩ := (refR_mem ws i k b).1 hb
    rw [h2] at e
    have := (Prod.mk.inj e).1
    omega
/-- All pairs of six words, each once. -/
def pairs15 : List (Int × Int) := [(0, 1), (0, 2), (0, 3), (0, 4), (0, 5), (1, 2), (1, 3), (1, 4), (1, 5), (2, 3), (2, 4), (2, 5), (3, 4), (3, 5), (4, 5)]
theorem pairs15_all : ((List.range 6).all fun a => (List.range 6).all fun b => !decide (a < b) || decide (((a : Int), (b : Int)) ∈ pairs15)) = true := by decide +kernel
theorem pairs15_mem {a b : Nat} (h : a < b) (hb : b < 6) : ((a : Int), (b : Int)) ∈ pairs15 := by
  have := List.all_eq_true.1 (List.all_eq_true.1 pairs15_all a (List.mem_range.2 (by omega))) b (List.mem_range.2 hb)
  simpa [h] using this
def sortP (p : Int × Int) : Int × Int := if p.1 < p.2 then p else (p.2, p.1)
theorem refs_len {ws : List ByteArray} (hd : Dif ws) (h6 : ws.length ≤ 6) : (refsUp ws ws.length ws.length).length ≤ 15 := by
  have hn := refsUp_nodup ws ws.length ws.length
  have hm : ((refsUp ws ws.length ws.length).map sortP).Nodup := by
    refine List.pairwise_map.2 (List.Pairwise.imp_of_mem (fun {p q} hp hq hne e => ?_) hn)
    obtain ⟨a, x, h1, h2, rfl, h3⟩ := (refsUp_mem ws ws.length p ws.length).1 hp
    obtain ⟨b, y, g1, g2, rfl, g3⟩ := (refsUp_mem ws ws.length q ws.length).1 hq
    have l1 := prt_less hd h1 h2 h3
    have l2 := prt_less hd g1 g2 g3
    unfold sortP at e
    simp only at e
    have key : (a = b ∧ x = y) ∨ (a = y ∧ x = b) := by
      split at e <;> split at e <;> (obtain ⟨e1, e2⟩ := Prod.mk.inj e; first | exact .inl ⟨by omega, by omega⟩ | exact .inr ⟨by omega, by omega⟩)
    rcases key with ⟨rfl, rfl⟩ | ⟨rfl, rfl⟩
    · exact hne rfl
    · omega
  have hs : (refsUp ws ws.length ws.length).map sortP ⊆ pairs15 := by
    intro p hp
    obtain ⟨q, hq, rfl⟩ := List.mem_map.1 hp
    obtain ⟨a, x, h1, h2, rfl, h3⟩ := (refsUp_mem ws ws.length q ws.length).1 hq
    have hne := ((prt_iff ws a x).1 h3).1
    unfold sortP
    simp only
    split
    · exact pairs15_mem (by omega) (by omega)
    · exact pairs15_mem (by omega) (by omega)
  have := List.Nodup.length_le_of_subset hm hs
  rw [List.length_map] at this
  exact this
theorem book_ord {ws : List ByteArray} (hd : Dif ws) (h1 : 1 ≤ ws.length) (h6 : ws.length ≤ 6) : Ord ((ws.length : Int), refsUp ws ws.length ws.length) := by
  refine ⟨by simp; omega, by simp; omega, ?_, fun p hp => ?_, fun p hp => ?_, refsUp_nodup ws _ _, fun p hp q hq e => ?_⟩
  · have := refs_len hd h6
    show (refsUp ws ws.length ws.length).length ≤ 16
    omega
  · obtain ⟨a, x, h1, h2, rfl, h3⟩ := (refsUp_mem ws ws.length p ws.length).1 hp
    simp only
    omega
  · obtain ⟨a, x, h1, h2, rfl, h3⟩ := (refsUp_mem ws ws.length p ws.length).1 hp
    have hne := ((prt_iff ws a x).1 h3).1
    simp only
    omega
  · obtain ⟨a, x, h1, h2, rfl, h3⟩ := (refsUp_mem ws ws.length p ws.length).1 hp
    obtain ⟨b, y, g1, g2, rfl, g3⟩ := (refsUp_mem ws ws.length q ws.length).1 hq
    obtain rfl : x = b := by simp only at e; omega
    exact (refs_pair ws _ a y).2 ⟨h1, g2, prt_trans hd h1 h2 g2 h3 g3⟩
theorem book_rk {ws : List ByteArray} (hw : ∀ w ∈ ws, Wrd w) (hd : Dif ws) (h1 : 1 ≤ ws.length) (h6 : ws.length ≤ 6) :
    Rk ws.length (rowsOf (refsUp ws ws.length ws.length)) (fun i => (Bw ws i).length) := by
  have ho := book_ord hd h1 h6
  have hr : ∀ i j, (rowsOf (refsUp ws ws.length ws.length) i).testBit j = true ↔ i < ws.length ∧ j < ws.length ∧ prt ws i j = true := fun i j => by
    have := rows_ref ho i j
    simp only at this
    rw [this, decide_eq_true_eq, refs_pair]
  refine ⟨h1, by omega, fun i => rows_lt ho i, fun i j h => ?_, fun i => ?_, fun i j l h g => ?_⟩
  · obtain ⟨a, b, c⟩ := (hr i j).1 h
    exact ⟨b, prt_less hd a b c⟩
  · by_cases hi : i < ws.length
    · have := (hw ws[i] (List.getElem_mem _)).len
      show (Bw ws i).length ≤ 6
      rw [Bw_get hi, strBytes_size]
      omega
    · show (Bw ws i).length ≤ 6
      unfold Bw
      rw [List.getD_eq_getElem?_getD, List.getElem?_map, List.getElem?_eq_none (by omega)]
      simp
  · obtain ⟨a, b, c⟩ := (hr i j).1 h
    obtain ⟨a', b', c'⟩ := (hr j l).1 g
    exact (hr i l).2 ⟨a, b', prt_trans hd a b b' c c'⟩
theorem least_row {ws : List ByteArray} (hd : Dif ws) (h1 : 1 ≤ ws.length) (h6 : ws.length ≤ 6) {i : Nat} (hi : i < ws.length) :
    leastW ws i ws.length = decide (rowsOf (refsUp ws ws.length ws.length) i = 0) := by
  have ho := book_ord hd h1 h6
  have hr : ∀ j, (rowsOf (refsUp ws ws.length ws.length) i).testBit j = true ↔ i < ws.length ∧ j < ws.length ∧ prt ws i j = true := fun j => by
    have := rows_ref ho i j
    simp only at this
    rw [this, decide_eq_true_eq, refs_pair]
  unfold leastW
  rw [Bool.eq_iff_iff, decide_eq_true_eq, Bool.not_eq_true', List.any_eq_false]
  constructor
  · intro h
    refine Decidable.byContradiction fun hne => ?_
    obtain ⟨j, hj⟩ := bit_ne hne
    obtain ⟨_, b, c⟩ := (hr j).1 hj
    exact h j (List.mem_range.2 b) c
  · intro h j hj hp
    have := (hr j).2 ⟨hi, List.mem_range.1 hj, hp⟩
    rw [h, Nat.zero_testBit] at this
    cases this
theorem filter_range (p : Nat → Bool) (k : Nat) : ∀ d, (List.range (k + d)).filter (fun j => decide (j < k) && p j) = (List.range k).filter p
  | 0 => by
    refine List.filter_congr fun x hx => ?_
    have : x < k := List.mem_range.1 hx
    simp [this]
  | d + 1 => by
    rw [← Nat.add_assoc, List.range_succ, List.filter_append, filter_range p k d]
    simp
    intro h
    omega
theorem wants_mins {ws : List ByteArray} (hd : Dif ws) (h1 : 1 ≤ ws.length) (h6 : ws.length ≤ 6) :
    wantsW ws ws.length ws.length = bitsL (mins (rowsOf (refsUp ws ws.length ws.length)) ws.length) := by
  unfold wantsW bitsL
  congr 1
  have e : (List.range 7).filter (fun j => (mins (rowsOf (refsUp ws ws.length ws.length)) ws.length).testBit j) = (List.range (ws.length + (7 - ws.length))).filter (fun j => decide (j < ws.length) && decide (rowsOf (refsUp ws ws.length ws.length) j = 0)) := by
    rw [show ws.length + (7 - ws.length) = 7 by omega]
    exact List.filter_congr fun x _ => mins_bit _ _ _
  rw [e, filter_range (fun j => decide (rowsOf (refsUp ws ws.length ws.length) j = 0))]
  exact List.filter_congr fun x hx => least_row hd h1 h6 (List.mem_range.1 hx)
def rowsL (k : Nat) (m : Nat → Nat) : List Int := [(m 0 : Int), (m 1 : Int), (m 2 : Int), (m 3 : Int), (m 4 : Int), (m 5 : Int), (m 6 : Int)].take k
theorem rowsL_len {k : Nat} (hk : k ≤ 7) (m : Nat → Nat) : (rowsL k m).length = k := by
  unfold rowsL
  rw [List.length_take]
  exact Nat.min_eq_left hk
theorem rowsL_idx {k i : Nat} (hk : k ≤ 7) (hi : i < k) (m : Nat → Nat) : idx (rowsL k m) (i : Int) = some (m i : Int) := by
  unfold idx
  rw [if_pos (by omega), Int.toNat_natCast]
  unfold rowsL
  rw [List.getElem?_take_of_lt hi]
  match i, Nat.lt_of_lt_of_le hi hk with
  | 0, _ => rfl
  | 1, _ => rfl
  | 2, _ => rfl
  | 3, _ => rfl
  | 4, _ => rfl
  | 5, _ => rfl
  | 6, _ => rfl
def andE (x y : Int) : Int := (wr .u64 (BitVec.ofInt (IntKind.bits .u64) x &&& BitVec.ofInt (IntKind.bits .u64) y).toNat)
theorem and_tab : ((List.range 128).all fun a => (List.range 128).all fun b => andE (a : Int) (b : Int) == ((a &&& b : Nat) : Int)) = true := by decide +kernel
theorem and_nat {a b : Nat} (ha : a < 128) (hb : b < 128) : andE (a : Int) (b : Int) = ((a &&& b : Nat) : Int) := by
  have := List.all_eq_true.1 (List.all_eq_true.1 and_tab a (List.mem_range.2 ha)) b (List.mem_range.2 hb)
  simpa using this
theorem and_hits {a b : Nat} (ha : a < 128) (hb : b < 128) : (andE (a : Int) (b : Int) != 0) = hits a b := by
  rw [and_nat ha hb, Bool.eq_iff_iff, hits_iff ha, bne_iff_ne]
  constructor
  · intro h
    obtain ⟨j, hj⟩ := bit_ne (a := a &&& b) (by omega)
    rw [Nat.testBit_and, Bool.and_eq_true] at hj
    exact ⟨j, hj⟩
  · rintro ⟨j, h1, h2⟩ e
    have e : a &&& b = 0 := by omega
    have : (a &&& b).testBit j = true := by rw [Nat.testBit_and, h1, h2]; rfl
    rw [e, Nat.zero_testBit] at this
    cases this
theorem and_none {a b : Nat} (ha : a < 128) (hb : b < 128) : (andE (a : Int) (b : Int) == 0) = !hits a b := by
  rw [← and_hits ha hb]
  unfold bne
  rw [Bool.not_not]
def shE (c i : Int) : Int := (wr .u64 (BitVec.ofInt (IntKind.bits .u64) (Int.fdiv c (2 ^ (min (Int.toNat i) (IntKind.bits .u64)))) &&& BitVec.ofInt (IntKind.bits .u64) 1).toNat)
theorem sh_tab : ((List.range 128).all fun c => (List.range 7).all fun i => shE (c : Int) (i : Int) == (c.testBit i).toNat) = true := by decide +kernel
theorem sh_nat {c i : Nat} (hc : c < 128) (hi : i < 7) : shE (c : Int) (i : Int) = ((c.testBit i).toNat : Int) := by
  have := List.all_eq_true.1 (List.all_eq_true.1 sh_tab c (List.mem_range.2 hc)) i (List.mem_range.2 hi)
  simpa using this
theorem sh_one {c i : Nat} (hc : c < 128) (hi : i < 7) : (shE (c : Int) (i : Int) == 1) = c.testBit i := by
  rw [sh_nat hc hi]
  cases c.testBit i <;> rfl
theorem sh_zero {c i : Nat} (hc : c < 128) (hi : i < 7) : (shE (c : Int) (i : Int) == 0) = !c.testBit i := by
  rw [sh_nat hc hi]
  cases c.testBit i <;> rfl
theorem judged_loop (n : Nat × Nat) {k s : Nat} (hk : k ≤ 7) (hs : s < 128) {m : Nat → Nat} (hm : ∀ i, m i < 128) : ∀ (d i f : Nat) (v : Bool), i + d = k → d < f →
    DL34_1 n f (s : Int) v (rowsL k m) (k : Int) (i : Int) = some (Jd m s i d v)
  | 0, i, f, v, hi, hf => by
    obtain ⟨f, rfl⟩ : ∃ j, f = j + 1 := ⟨f - 1, by omega⟩
    rw [DL34_1_succ]
    unfold DF34_1
    rw [show decide ((i : Int) < (k : Int)) = false by simp; omega, cond_false]
    cases v <;> rfl
  | d + 1, i, f, v, hi, hf => by
    obtain ⟨f, rfl⟩ : ∃ j, f = j + 1 := ⟨f - 1, by omega⟩
    have ih := fun v => judged_loop n hk hs hm d (i + 1) f v (by omega) (by omega)
    have e1 := sh_one hs (i := i) (by omega)
    have e2 := and_hits (hm i) hs
    have e3 := and_none (hm i) hs
    unfold shE at e1
    unfold andE at e2 e3
    rw [DL34_1_succ]
    unfold DF34_1 DL34_2
    rw [show decide ((i : Int) < (k : Int)) = true by simp; omega, cond_true, rowsL_idx hk (by omega) m, Option.bind_some, show decide ((i : Int) < 0) = false by simp, cond_false, e1, e2, e3, wr_w (by omega) (by omega), show (i : Int) + 1 = ((i + 1 : Nat) : Int) from rfl, ih, ih]
    rw [Jd_succ]
    cases s.testBit i <;> cases hits (m i) s <;> cases v <;> rfl
theorem judged_eq {n : Nat × Nat} (hn : 200 ≤ n.1) {k s : Nat} (hk : k ≤ 7) (hs : s < 128) {m : Nat → Nat} (hm : ∀ i, m i < 128) : D34 n (tupR k m) (s : Int) = some (Jd m s 0 k false) := by
  have h := judged_loop n hk hs hm k 0 n.1 false (by omega) (by omega)
  have hl := rowsL_len hk m
  unfold D34
  rw [boundsI hk, cond_true]
  show DL34_1 n n.1 (s : Int) false ([(m 0 : Int), (m 1 : Int), (m 2 : Int), (m 3 : Int), (m 4 : Int), (m 5 : Int), (m 6 : Int)].take (Int.toNat (k : Int))) _ _ = _
  rw [Int.toNat_natCast]
  show DL34_1 n n.1 (s : Int) false (rowsL k m) ((rowsL k m).length : Int) ((0 : Nat) : Int) = _
  rw [hl]
  exact h
theorem list_tab (n : Nat × Nat) (f : Nat) : ((List.range 128).all fun c => decide (DL35_1 n (f + 8) (c : Int) [] = some (bitsL c))) = true := by kernel_rfl
theorem list_eq {n : Nat × Nat} (hn : 200 ≤ n.1) {c : Nat} (hc : c < 128) : D35 n (c : Int) = some (bitsL c) := by
  have h := of_decide_eq_true (List.all_eq_true.1 (list_tab n (n.1 - 8)) c (List.mem_range.2 hc))
  rw [show n.1 - 8 + 8 = n.1 by omega] at h
  exact h
theorem pow_tab : ((List.range 8).all fun k => wr .u64 (1 * 2 ^ (min (Int.toNat (k : Int)) (IntKind.bits .u64))) == ((2 ^ k : Nat) : Int)) = true := by decide +kernel
theorem pow_eq {k : Nat} (hk : k ≤ 7) : wr .u64 (1 * 2 ^ (min (Int.toNat (k : Int)) (IntKind.bits .u64))) = ((2 ^ k : Nat) : Int) := by
  have := List.all_eq_true.1 pow_tab k (List.mem_range.2 (by omega))
  simpa using this
theorem lim_t {a : Nat} (h : a ≤ 1000) : decide (a ≤ lim) = true := by
  have : (1000 : Nat) ≤ lim := by unfold lim; omega
  exact decide_eq_true (Nat.le_trans h this)
theorem wr_u {x : Int} (h0 : 0 ≤ x) (h1 : x ≤ 1000000) : wr .u64 x = x := by
  show IntKind.u64.wrap _ = _
  rw [IntKind.wrap_u64]
  omega
theorem all_loop {n : Nat × Nat} (hn : 200 ≤ n.1) {k : Nat} {m rk : Nat → Nat} (H : Rk k m rk) : ∀ (d s f : Nat) (out : List (List Int)), s + d = 2 ^ k → d < f → out = (if mins m k < s then [bitsL (mins m k)] else []) →
    DL11_1 n f ((2 ^ k : Nat) : Int) (s : Int) (k : Int) (m 0 : Int) (m 1 : Int) (m 2 : Int) (m 3 : Int) (m 4 : Int) (m 5 : Int) (m 6 : Int) out = some ([bitsL (mins m k)], 0)
  | 0, s, f, out, hs, hf, ho => by
    obtain ⟨f, rfl⟩ : ∃ j, f = j + 1 := ⟨f - 1, by omega⟩
    have hm := mins_lt m k
    rw [if_pos (by omega)] at ho
    subst ho
    rw [DL11_1_succ]
    unfold DF11_1
    rw [show decide ((s : Int) < ((2 ^ k : Nat) : Int)) = false by rw [decide_eq_false_iff_not]; omega, cond_false]
    rfl
  | d + 1, s, f, out, hs, hf, ho => by
    obtain ⟨f, rfl⟩ : ∃ j, f = j + 1 := ⟨f - 1, by omega⟩
    have h7 : (2 : Nat) ^ k ≤ 2 ^ 7 := Nat.pow_le_pow_right (by decide) H.hi
    have ej := judged_eq hn H.hi (s := s) (by omega) H.lt
    have hj := Jd_mins H (s := s) (by omega)
    unfold tupR at ej
    rw [DL11_1_succ]
    unfold DF11_1 DL11_2
    rw [show decide ((s : Int) < ((2 ^ k : Nat) : Int)) = true by rw [decide_eq_true_eq]; omega, cond_true, ej, Option.bind_some, list_eq hn (c := s) (by omega), Option.bind_some, wr_u (by omega) (by omega), show (s : Int) + 1 = ((s + 1 : Nat) : Int) from rfl]
    by_cases e : s = mins m k
    · rw [hj.2 e, show ((0 : Int) == 0) = true from rfl, cond_true]
      rw [if_neg (by omega)] at ho
      subst ho
      rw [show decide (([] : List (List Int)).length + [bitsL s].length ≤ lim) = true from lim_t (by simp), cond_true]
      exact all_loop hn H d (s + 1) f _ (by omega) (by omega) (by rw [if_pos (by omega), e]; rfl)
    · rw [show (Jd m s 0 k false == 0) = false by rw [← Bool.not_eq_true, beq_iff_eq]; exact fun h => e (hj.1 h), cond_false]
      refine all_loop hn H d (s + 1) f out (by omega) (by omega) ?_
      rw [ho]
      have : (mins m k < s) = (mins m k < s + 1) := propext (by omega)
      simp only [this]
theorem all_eq {n : Nat × Nat} (hn : 200 ≤ n.1) {b : Int × List (Int × Int)} {k : Nat} {m rk : Nat → Nat} (H : Rk k m rk) (hw : D33 n b = some (tupR (k : Int) m, 0)) : D11 n b = some ([bitsL (mins m k)], 0) := by
  have h7 : (2 : Nat) ^ k ≤ 2 ^ 7 := Nat.pow_le_pow_right (by decide) H.hi
  have h := all_loop hn H (2 ^ k) 0 n.1 [] (by omega) (by omega) (by simp)
  unfold D11
  rw [hw, Option.bind_some]
  show (bif ((0 : Int) != 0) then _ else (bif decide ((k : Int) < 0) then none else DL11_1 n n.1 (wr .u64 (1 * 2 ^ (min (Int.toNat (k : Int)) (IntKind.bits .u64)))) 0 (k : Int) (m 0 : Int) (m 1 : Int) (m 2 : Int) (m 3 : Int) (m 4 : Int) (m 5 : Int) (m 6 : Int) [])) = _
  rw [show ((0 : Int) != 0) = false from rfl, cond_false, show decide ((k : Int) < 0) = false by simp, cond_false, pow_eq H.hi]
  exact h
def nots (a b : Nat) : Bool := (List.range 7).any fun j => a.testBit j && !b.testBit j
def notE (x y : Int) : Int := (wr .u64 (BitVec.ofInt (IntKind.bits .u64) x &&& ~~~BitVec.ofInt (IntKind.bits .u64) y).toNat)
theorem not_tab : ((List.range 128).all fun a => (List.range 128).all fun b => (notE (a : Int) (b : Int) != 0) == nots a b) = true := by decide +kernel
theorem not_eq {a b : Nat} (ha : a < 128) (hb : b < 128) : (notE (a : Int) (b : Int) != 0) = nots a b := by
  have := List.all_eq_true.1 (List.all_eq_true.1 not_tab a (List.mem_range.2 ha)) b (List.mem_range.2 hb)
  simpa using this
theorem nots_false {a b : Nat} (ha : a < 128) : nots a b = false ↔ ∀ j, a.testBit j = true → b.testBit j = true := by
  unfold nots
  rw [List.any_eq_false]
  constructor
  · intro h j hj
    have := h j (List.mem_range.2 (bit_small ha hj))
    rw [hj] at this
    simpa using this
  · intro h j _ hj
    rw [Bool.and_eq_true] at hj
    rw [h j hj.1] at hj
    exact absurd hj.2 (by simp)
def mexE (v : Int) : Int := (wr .u64 (BitVec.ofInt (IntKind.bits .u64) (if IntKind.signed .u64 then -1 else IntKind.max .u64) ^^^ BitVec.ofInt (IntKind.bits .u64) v).toNat)
def mexB (v : Nat) (o : Option Int) : Bool := match o with
  | some r => decide (0 ≤ r) && ((r == 0) == !v.testBit 0) && (List.range 8).all fun k => !decide (v < 2 ^ k) || decide (r ≤ (k : Int))
  | none => false
theorem mex_tab (n : Nat × Nat) : ((List.range 128).all fun v => mexB v (D41 n (mexE (v : Int)))) = true := by kernel_rfl
theorem mex_eq (n : Nat × Nat) {v r : Nat} (hr : r ≤ 7) (hv : v < 2 ^ r) : ∃ g : Nat, D41 n (mexE (v : Int)) = some (g : Int) ∧ g ≤ r ∧ (g = 0 ↔ v.testBit 0 = false) := by
  have h7 : (2 : Nat) ^ r ≤ 2 ^ 7 := Nat.pow_le_pow_right (by decide) hr
  have h := List.all_eq_true.1 (mex_tab n) v (List.mem_range.2 (by omega))
  unfold mexB at h
  split at h
  case h_2 => cases h
  case h_1 o g e =>
    simp only [Bool.and_eq_true, decide_eq_true_eq] at h
    obtain ⟨⟨h1, h2⟩, h3⟩ := h
    obtain ⟨g, rfl⟩ := Int.eq_ofNat_of_zero_le h1
    refine ⟨g, e, ?_, ?_⟩
    · have := List.all_eq_true.1 h3 r (List.mem_range.2 (by omega))
      simp [hv] at this
      omega
    · have h2 := eq_of_beq h2
      constructor
      · rintro rfl
        cases hb : v.testBit 0 with
        | false => rfl
        | true => rw [hb] at h2; exact absurd h2 (by decide)
      · intro hb
        rw [hb] at h2
        have := eq_of_beq (h2 : ((g : Int) == 0) = true)
        omega
/-- What is known of numbers. -/
structure Nums (k : Nat) (m rk : Nat → Nat) (c : Nat) (out : List Int) : Prop where
  len : out.length = k
  lt : c < 128
  num : ∀ x, x < k → c.testBit x = true → ∃ g : Nat, out[x]? = some (g : Int) ∧ g ≤ rk x ∧ (g = 0 ↔ m x = 0)
theorem num_loop (n : Nat × Nat) (f1 : Int → Int → Int → Int → Int → Int → Int → Int → Int → Int → Int → List Int → Option R13) (f2 : Int → Int → Int → Int → Int → Int → Int → Int → Int → Int → Int → List Int → Int → Int → List Int → Option R13)
    (w0 w1 w2 w3 w4 w5 w6 w7 c x v26 v27 : Int) (v32 : List Int) (v33 v34 : Int) (out l : List Int) (ho : out.length ≤ 7) (hl : l.length ≤ 7) {r : Nat} (hr : r ≤ 7) :
    ∀ (d i f v : Nat), i + d = l.length → d < f → v < 2 ^ r → (∀ y ∈ l.drop i, ∃ j g : Nat, y = (j : Int) ∧ out[j]? = some (g : Int) ∧ g < r) →
      ∃ (v' : Nat) (f3 : _), v' < 2 ^ r ∧ (v'.testBit 0 = true ↔ v.testBit 0 = true ∨ ∃ y ∈ l.drop i, ∃ j : Nat, y = (j : Int) ∧ out[j]? = some 0) ∧
        DL13_4 n f1 f2 f w0 w1 w2 w3 w4 w5 w6 w7 c x (v : Int) v26 v27 v32 v33 v34 (l.length : Int) (i : Int) out l = DF13_4 n f1 f2 f3 w0 w1 w2 w3 w4 w5 w6 w7 c x (v' : Int) v26 v27 v32 v33 v34 (l.length : Int) (l.length : Int) out l
  | 0, i, f, v, hi, hf, hv, hy => by
    obtain ⟨f, rfl⟩ : ∃ j, f = j + 1 := ⟨f - 1, by omega⟩
    obtain rfl : i = l.length := by omega
    refine ⟨v, DL13_4 n f1 f2 f, hv, ?_, by rw [DL13_4_succ]⟩
    simp
  | d + 1, i, f, v, hi, hf, hv, hy => by
    obtain ⟨f, rfl⟩ : ∃ j, f = j + 1 := ⟨f - 1, by omega⟩
    have h7 : (2 : Nat) ^ r ≤ 2 ^ 7 := Nat.pow_le_pow_right (by decide) hr
    have hlt : i < l.length := by omega
    have e1 : idx l (i : Int) = some l[i] := by
      unfold idx
      rw [if_pos (by omega), Int.toNat_natCast, List.getElem?_eq_getElem hlt]
    obtain ⟨j, g, ej, eg, hg⟩ := hy l[i] (by rw [List.drop_eq_getElem_cons hlt]; exact List.mem_cons_self)
    have hj : j < out.length := (List.getElem?_eq_some_iff.1 eg).1
    have e2 : idx out (j : Int) = some (g : Int) := by
      unfold idx
      rw [if_pos (by omega), Int.toNat_natCast, eg]
    have ho2 := or_bit (a := v) (c := g) (by omega) (by omega)
    unfold orE at ho2
    obtain ⟨v', f3, h1, h2, h3⟩ := num_loop n f1 f2 w0 w1 w2 w3 w4 w5 w6 w7 c x v26 v27 v32 v33 v34 out l ho hl hr d (i + 1) f (v ||| 2 ^ g) (by omega) (by omega)
      (Nat.or_lt_two_pow hv (Nat.pow_lt_pow_right (by decide) hg)) (fun y hy2 => hy y (by rw [List.drop_eq_getElem_cons hlt]; exact List.mem_cons_of_mem _ hy2))
    refine ⟨v', f3, h1, ?_, ?_⟩
    · rw [h2, Nat.testBit_or, Nat.testBit_two_pow, List.drop_eq_getElem_cons hlt, Bool.or_eq_true, decide_eq_true_eq]
      constructor
      · rintro ((h | h) | ⟨y, hy2, h⟩)
        · exact .inl h
        · exact .inr ⟨l[i], List.mem_cons_self, j, ej, by rw [eg, h]; rfl⟩
        · exact .inr ⟨y, List.mem_cons_of_mem _ hy2, h⟩
      · rintro (h | ⟨y, hy2, j2, e, h⟩)
        · exact .inl (.inl h)
        · rcases List.mem_cons.1 hy2 with rfl | hy2
          · have : j2 = j := by omega
            subst this
            rw [eg] at h
            have := Option.some.inj h
            exact .inl (.inr (by omega))
          · exact .inr ⟨y, hy2, j2, e, h⟩
    · rw [← h3, DL13_4_succ]
      conv => lhs; unfold DF13_4
      rw [show decide ((i : Int) < (l.length : Int)) = true by simp; omega, cond_true, show inB (i : Int) l.length = true by unfold inB; simp; omega, cond_true, e1, Option.bind_some, ej, show inB (j : Int) out.length = true by unfold inB; simp; omega, cond_true, e2, Option.bind_some, show decide ((g : Int) < 0) = false by simp, cond_false, ho2, wr_w (by omega) (by omega)]
      rfl
theorem round_loop {n : Nat × Nat} (hn : 200 ≤ n.1) (f1 : Int → Int → Int → Int → Int → Int → Int → Int → Int → Int → Int → List Int → Option R13) (v26 v27 : Int) {k : Nat} {m rk : Nat → Nat} (H : Rk k m rk) : ∀ (d i f c : Nat) (out : List Int), i + d = k → d < f → Nums k m rk c out →
    ∃ c' out', Nums k m rk c' out' ∧ (∀ x, c.testBit x = true → c'.testBit x = true) ∧ (∀ x, i ≤ x → x < k → (∀ j, (m x).testBit j = true → c.testBit j = true) → c'.testBit x = true) ∧
      DL13_2 n f1 f (k : Int) (m 0 : Int) (m 1 : Int) (m 2 : Int) (m 3 : Int) (m 4 : Int) (m 5 : Int) (m 6 : Int) (c : Int) v26 v27 (rowsL k m) (k : Int) (i : Int) out = f1 (k : Int) (m 0 : Int) (m 1 : Int) (m 2 : Int) (m 3 : Int) (m 4 : Int) (m 5 : Int) (m 6 : Int) (c' : Int) v26 (wr .i64 (v27 + 1)) out'
  | 0, i, f, c, out, hi, hf, hs => by
    obtain ⟨f, rfl⟩ : ∃ j, f = j + 1 := ⟨f - 1, by omega⟩
    refine ⟨c, out, hs, fun x h => h, fun x h1 h2 => by omega, ?_⟩
    rw [DL13_2_succ]
    unfold DF13_2
    rw [show decide ((i : Int) < (k : Int)) = false by simp; omega, cond_false]
  | d + 1, i, f, c, out, hi, hf, hs => by
    obtain ⟨f, rfl⟩ : ∃ j, f = j + 1 := ⟨f - 1, by omega⟩
    have hk := H.hi
    have hc := hs.lt
    have e1 := sh_one hc (i := i) (by omega)
    have e2 := not_eq (H.lt i) hc
    unfold shE at e1
    unfold notE at e2
    have ew : wr .i64 ((i : Int) + 1) = ((i + 1 : Nat) : Int) := wr_w (by omega) (by omega)
    by_cases hb : c.testBit i = true ∨ nots (m i) c = true
    · obtain ⟨c', out', h1, h2, h3, h4⟩ := round_loop hn f1 v26 v27 H d (i + 1) f c out (by omega) (by omega) hs
      refine ⟨c', out', h1, h2, fun x hx1 hx2 hx3 => ?_, ?_⟩
      · by_cases e : x = i
        · subst e
          rcases hb with hb | hb
          · exact h2 x hb
          · rw [(nots_false (H.lt x)).2 hx3] at hb; cases hb
        · exact h3 x (by omega) hx2 hx3
      · rw [← h4, DL13_2_succ]
        unfold DF13_2 DL13_3
        rw [show decide ((i : Int) < (k : Int)) = true by simp; omega, cond_true, rowsL_idx hk (by omega) m, Option.bind_some, show decide ((i : Int) < 0) = false by simp, cond_false, e1, e2, ew]
        rcases hb with hb | hb
        · rw [hb]; rfl
        · rw [hb]; cases c.testBit i <;> rfl
    · have hb1 : c.testBit i = false := by
        cases h : c.testBit i with
        | false => rfl
        | true => exact absurd (.inl h) hb
      have hb2 : nots (m i) c = false := by
        cases h : nots (m i) c with
        | false => rfl
        | true => exact absurd (.inr h) hb
      have hsub := (nots_false (H.lt i)).1 hb2
      have hlen := hs.len
      have htop := H.top i
      have hbl : (bitsL (m i)).length ≤ 7 := by
        unfold bitsL
        rw [List.length_map]
        exact Nat.le_trans (List.length_filter_le _ _) (by simp)
      obtain ⟨v', f3, g1, g2, g3⟩ := num_loop n f1 (DL13_2 n f1 f) (k : Int) (m 0 : Int) (m 1 : Int) (m 2 : Int) (m 3 : Int) (m 4 : Int) (m 5 : Int) (m 6 : Int) (c : Int) (i : Int) v26 v27 (rowsL k m) (k : Int) (i : Int) out (bitsL (m i)) (by omega) hbl (r := rk i) (by omega) _ 0 n.1 0 (Nat.zero_add _) (by omega) (Nat.pow_pos (by decide)) (by
        intro y hy
        rw [List.drop_zero] at hy
        obtain ⟨j, e, hj⟩ := (bitsL_mem (H.lt i) y).1 hy
        have hjk := H.dn i j hj
        obtain ⟨g, eg, hg, _⟩ := hs.num j hjk.1 (hsub j hj)
        exact ⟨j, g, e, eg, by omega⟩)
      obtain ⟨g, e3, hg1, hg2⟩ := mex_eq n (r := rk i) (by omega) g1
      have hz : g = 0 ↔ m i = 0 := by
        rw [hg2]
        constructor
        · intro hv
          refine Decidable.byContradiction fun hne => ?_
          obtain ⟨j, j1, j2, j3⟩ := least_in H _ i (Nat.lt_succ_self _) hne
          obtain ⟨q, eq, hq, hq0⟩ := hs.num j j1 (hsub j j2)
          obtain rfl := hq0.2 j3
          have : v'.testBit 0 = true := g2.2 (.inr ⟨(j : Int), by rw [List.drop_zero]; exact (bitsL_mem (H.lt i) _).2 ⟨j, rfl, j2⟩, j, rfl, eq⟩)
          rw [hv] at this; cases this
        · intro hm0
          cases hv : v'.testBit 0 with
          | false => rfl
          | true =>
            rcases g2.1 hv with h | ⟨y, hy, _⟩
            · exact absurd h (by decide)
            · rw [List.drop_zero] at hy
              obtain ⟨j, _, hj⟩ := (bitsL_mem (H.lt i) y).1 hy
              rw [hm0, Nat.zero_testBit] at hj; cases hj
      have hs' : Nums k m rk (c ||| 2 ^ i) (out.set i (g : Int)) := by
        refine ⟨by rw [List.length_set]; exact hlen, Nat.or_lt_two_pow (n := 7) hc (Nat.pow_lt_pow_right (by decide) (by omega)), fun x hx hxb => ?_⟩
        by_cases e : i = x
        · subst e
          exact ⟨g, by rw [List.getElem?_set_self (by omega)], hg1, hz⟩
        · rw [Nat.testBit_or, Nat.testBit_two_pow] at hxb
          rw [List.getElem?_set_ne e]
          exact hs.num x hx (by simpa [e] using hxb)
      obtain ⟨c', out', h1, h2, h3, h4⟩ := round_loop hn f1 v26 v27 H d (i + 1) f _ _ (by omega) (by omega) hs'
      refine ⟨c', out', h1, fun x hx => h2 x (by rw [Nat.testBit_or, hx]; rfl), fun x hx1 hx2 hx3 => ?_, ?_⟩
      · by_cases e : x = i
        · subst e
          exact h2 x (by rw [Nat.testBit_or, Nat.testBit_two_pow]; simp)
        · exact h3 x (by omega) hx2 fun j hj => by rw [Nat.testBit_or, hx3 j hj]; rfl
      · have ho2 := or_bit (a := c) (c := i) (by omega) (by omega)
        unfold orE at ho2
        unfold mexE at e3
        have ei : idx out (i : Int) = some out[i] := by
          unfold idx
          rw [if_pos (by omega), Int.toNat_natCast, List.getElem?_eq_getElem]
        rw [← h4, DL13_2_succ]
        unfold DF13_2
        rw [show decide ((i : Int) < (k : Int)) = true by simp; omega, cond_true, rowsL_idx hk (by omega) m, Option.bind_some, show decide ((i : Int) < 0) = false by simp, cond_false, e1, e2, hb1, hb2]
        show ((D35 n (m i : Int)).bind fun r6' => DL13_4 n f1 (DL13_2 n f1 f) n.1 (k : Int) (m 0 : Int) (m 1 : Int) (m 2 : Int) (m 3 : Int) (m 4 : Int) (m 5 : Int) (m 6 : Int) (c : Int) (i : Int) 0 v26 v27 (rowsL k m) (k : Int) (i : Int) (r6'.length : Int) 0 out r6') = _
        rw [list_eq hn (H.lt i), Option.bind_some]
        refine g3.trans ?_
        unfold DF13_4 DL13_3
        rw [show decide (((bitsL (m i)).length : Int) < ((bitsL (m i)).length : Int)) = false by simp, cond_false, e3, Option.bind_some, show inB (i : Int) out.length = true by unfold inB; simp; omega, cond_true, ei, Option.bind_some, show decide ((i : Int) < 0) = false by simp, cond_false, ho2, ew, Int.toNat_natCast]
theorem lacks_loop (n : Nat × Nat) (s : List Int) (v : Int) (hs : s.length ≤ 100) (hv : v ∉ s) : ∀ (d i m : Nat), i + d = s.length → d < m → DL74_1 n m s v (s.length : Int) (i : Int) = some (-1)
  | 0, i, m, hi, hm => by
    obtain ⟨m, rfl⟩ : ∃ j, m = j + 1 := ⟨m - 1, by omega⟩
    rw [DL74_1_succ]
    unfold DF74_1
    rw [show decide ((i : Int) < (s.length : Int)) = false by simp; omega, cond_false]
  | d + 1, i, m, hi, hm => by
    obtain ⟨m, rfl⟩ : ∃ j, m = j + 1 := ⟨m - 1, by omega⟩
    have hlt : i < s.length := by omega
    have e1 : idx s (i : Int) = some s[i] := by
      unfold idx
      rw [if_pos (by omega), Int.toNat_natCast, List.getElem?_eq_getElem hlt]
    rw [DL74_1_succ]
    unfold DF74_1
    rw [show decide ((i : Int) < (s.length : Int)) = true by simp; omega, cond_true, e1, Option.bind_some, show (v == s[i]) = false by rw [← Bool.not_eq_true, beq_iff_eq]; exact fun e => hv (e ▸ List.getElem_mem _), cond_false, wr_w (by omega) (by omega)]
    exact lacks_loop n s v hs hv d (i + 1) m (by omega) (by omega)
theorem lacks_eq {n : Nat × Nat} (hn : 200 ≤ n.1) (s : List Int) (v : Int) (hs : s.length ≤ 100) (hv : v ∉ s) : D42 n s v = some false := by
  unfold D42 D74
  rw [show DL74_1 n n.1 s v (s.length : Int) 0 = some (-1) from lacks_loop n s v hs hv s.length 0 n.1 (by omega) (by omega)]
  rfl
theorem nums_loop {n : Nat × Nat} (hn : 200 ≤ n.1) {k : Nat} {m rk : Nat → Nat} (H : Rk k m rk) : ∀ (d t f c : Nat) (out : List Int), t + d = k → d < f → Nums k m rk c out → lack k c ≤ d →
    ∃ out', out'.length = k ∧ (∀ x, x < k → ∃ g : Nat, out'[x]? = some (g : Int) ∧ (g = 0 ↔ m x = 0)) ∧
      DL13_1 n f (k : Int) (m 0 : Int) (m 1 : Int) (m 2 : Int) (m 3 : Int) (m 4 : Int) (m 5 : Int) (m 6 : Int) (c : Int) (k : Int) (t : Int) out = some (out', 0)
  | 0, t, f, c, out, ht, hf, hs, hc => by
    obtain ⟨f, rfl⟩ : ∃ j, f = j + 1 := ⟨f - 1, by omega⟩
    have hall := lack_zero.1 (Nat.le_zero.1 hc)
    have hlen := hs.len
    have hk := H.hi
    refine ⟨out, hlen, fun x hx => ?_, ?_⟩
    · obtain ⟨g, h1, _, h2⟩ := hs.num x hx (hall x hx)
      exact ⟨g, h1, h2⟩
    · rw [DL13_1_succ]
      unfold DF13_1
      rw [show decide ((t : Int) < (k : Int)) = false by simp; omega, cond_false, lacks_eq hn out (-1) (by omega) (fun h => by
        obtain ⟨x, hx, e⟩ := List.getElem_of_mem h
        obtain ⟨g, h1, _⟩ := hs.num x (by omega) (hall x (by omega))
        rw [List.getElem?_eq_getElem hx, e] at h1
        have := Option.some.inj h1
        omega)]
      rfl
  | d + 1, t, f, c, out, ht, hf, hs, hc => by
    obtain ⟨f, rfl⟩ : ∃ j, f = j + 1 := ⟨f - 1, by omega⟩
    have hk := H.hi
    obtain ⟨c', out', h1, h2, h3, h4⟩ := round_loop hn (DL13_1 n f) (k : Int) (t : Int) H k 0 n.1 c out (by omega) (by omega) hs
    have hst := lack_step H h2 fun x hx hj => h3 x (by omega) hx hj
    obtain ⟨o2, g1, g2, g3⟩ := nums_loop hn H d (t + 1) f c' out' (by omega) (by omega) h1 (by omega)
    refine ⟨o2, g1, g2, ?_⟩
    rw [← g3, DL13_1_succ]
    unfold DF13_1
    rw [show decide ((t : Int) < (k : Int)) = true by simp; omega, cond_true, boundsI hk, cond_true, Int.toNat_natCast]
    show DL13_2 n (DL13_1 n f) n.1 (k : Int) (m 0 : Int) (m 1 : Int) (m 2 : Int) (m 3 : Int) (m 4 : Int) (m 5 : Int) (m 6 : Int) (c : Int) (k : Int) (t : Int) (rowsL k m) ((rowsL k m).length : Int) ((0 : Nat) : Int) out = _
    rw [rowsL_len hk, h4, wr_w (by omega) (by omega)]
    rfl
theorem rep_tab (n : Nat × Nat) (f : Nat) : ((List.range 8).all fun k => decide (k = 0) || decide ((D71 n (wr .u64 1) (wr .u64 (k : Int))) = some (0, (k : Int))) && decide (DL40_1 n (f + 8) 1 ((List.replicate k (0 : Int)).take 0 ++ [(-1 : Int)].take (min 1 k) ++ (List.replicate k (0 : Int)).drop (0 + min 1 k)) = some (List.replicate k (-1)))) = true := by kernel_rfl
theorem rep_eq {n : Nat × Nat} (hn : 200 ≤ n.1) {k : Nat} (h0 : 1 ≤ k) (hk : k ≤ 7) : D40 n [-1] (k : Int) = some (List.replicate k (-1)) := by
  have h := List.all_eq_true.1 (rep_tab n (n.1 - 8)) k (List.mem_range.2 (by omega))
  rw [show n.1 - 8 + 8 = n.1 by omega, show decide (k = 0) = false by simp; omega, Bool.false_or, Bool.and_eq_true, decide_eq_true_eq, decide_eq_true_eq] at h
  unfold D40
  have e1 : wr .i64 (k : Int) = (k : Int) := wr_w (by omega) (by omega)
  rw [show decide ((k : Int) < 0) = false by simp, cond_false, show ((([-1] : List Int).length : Nat) : Int) = 1 from rfl, h.1, Option.bind_some]
  show (bif decide ((k : Int) > 9223372036854775807) then none else _) = _
  rw [show decide ((k : Int) > 9223372036854775807) = false by simp; omega, cond_false]
  show (bif decide (0 ≤ wr .i64 (k : Int)) && decide (wr .i64 (k : Int) ≤ wr .i64 (k : Int)) && decide (wr .i64 (k : Int) ≤ lim) then _ else none) = _
  rw [e1, show (decide (0 ≤ (k : Int)) && decide ((k : Int) ≤ (k : Int)) && decide ((k : Int) ≤ lim)) = true by
    have : (1000 : Int) ≤ lim := by unfold lim; omega
    simp; omega, cond_true, Int.toNat_natCast, List.length_replicate]
  have h2 := h.2
  rw [show min 1 k = 1 by omega] at h2
  rw [show min ([-1] : List Int).length k = 1 by rw [show ([-1] : List Int).length = 1 from rfl]; omega]
  exact h2
theorem nums_eq {n : Nat × Nat} (hn : 200 ≤ n.1) {b : Int × List (Int × Int)} {k : Nat} {m rk : Nat → Nat} (H : Rk k m rk) (hw : D33 n b = some (tupR (k : Int) m, 0)) :
    ∃ out, D13 n b = some (out, 0) ∧ out.length = k ∧ ∀ x, x < k → ∃ g : Nat, out[x]? = some (g : Int) ∧ (g = 0 ↔ m x = 0) := by
  have hk := H.hi
  obtain ⟨out, h1, h2, h3⟩ := nums_loop hn H k 0 n.1 0 (List.replicate k (-1)) (by omega) (by omega) ⟨List.length_replicate .., by decide, fun x _ h => by rw [Nat.zero_testBit] at h; cases h⟩ (lack_le k 0)
  refine ⟨out, ?_, h1, h2⟩
  unfold D13
  rw [hw, Option.bind_some]
  show (bif ((0 : Int) != 0) then _ else (D40 n [-1] (k : Int)).bind fun r2' => DL13_1 n n.1 (k : Int) (m 0 : Int) (m 1 : Int) (m 2 : Int) (m 3 : Int) (m 4 : Int) (m 5 : Int) (m 6 : Int) 0 (k : Int) 0 r2') = _
  rw [show ((0 : Int) != 0) = false from rfl, cond_false, rep_eq hn H.lo hk, Option.bind_some]
  exact h3
theorem set_tab (n : Nat × Nat) (f : Nat) (w1 w2 w3 w4 w5 w6 w7 : Int) : ((List.range 8).all fun k => (List.range (2 ^ k)).all fun c => decide (DL43_1 n (f + 8) 0 (-1) (bitsL c) ((bitsL c).length : Int) 0 (k : Int) w1 w2 w3 w4 w5 w6 w7 = some ((c : Int), 0))) = true := by kernel_rfl
theorem set_eq {n : Nat × Nat} (hn : 200 ≤ n.1) {k c : Nat} (hk : k ≤ 7) (hc : c < 2 ^ k) (m : Nat → Nat) : D43 n (tupR (k : Int) m) (bitsL c) = some ((c : Int), 0) := by
  have h := of_decide_eq_true (List.all_eq_true.1 (List.all_eq_true.1 (set_tab n (n.1 - 8) (m 0 : Int) (m 1 : Int) (m 2 : Int) (m 3 : Int) (m 4 : Int) (m 5 : Int) (m 6 : Int)) k (List.mem_range.2 (by omega))) c (List.mem_range.2 hc))
  rw [show n.1 - 8 + 8 = n.1 by omega] at h
  exact h
theorem tz_tab (n : Nat × Nat) : ((List.range 128).all fun v => (D41 n (v : Int)).isSome) = true := by kernel_rfl
theorem wide_loop (n : Nat × Nat) (f1 : Int → Int → Int → Int → Int → Int → Int → Int → Int → List Int → Option R15) (w : Int) {k s : Nat} (hk : k ≤ 7) (hs : s < 128) {m : Nat → Nat} (hm : ∀ i, m i < 128) (near : List Int) : ∀ (d x f c : Nat), x + d = k → d < f → c < 128 →
    ∃ c' : Nat, c' < 128 ∧ (∀ y, c'.testBit y = true ↔ (c.testBit y = true ∨ (x ≤ y ∧ y < k ∧ hits (m y) s = true))) ∧
      DL15_2 n f1 f w (k : Int) (m 0 : Int) (m 1 : Int) (m 2 : Int) (m 3 : Int) (m 4 : Int) (m 5 : Int) (m 6 : Int) (s : Int) (c : Int) (rowsL k m) (k : Int) (x : Int) near =
        (bif ((c' : Int) == (s : Int)) then some ([], 12)
        else (bif decide (near.length + [(c' : Int)].length ≤ lim) then f1 w (k : Int) (m 0 : Int) (m 1 : Int) (m 2 : Int) (m 3 : Int) (m 4 : Int) (m 5 : Int) (m 6 : Int) (near ++ [(c' : Int)])
        else none))
  | 0, x, f, c, hx, hf, hc => by
    obtain ⟨f, rfl⟩ : ∃ j, f = j + 1 := ⟨f - 1, by omega⟩
    refine ⟨c, hc, fun y => ⟨.inl, fun h => h.elim id fun ⟨h1, h2, _⟩ => by omega⟩, ?_⟩
    rw [DL15_2_succ]
    unfold DF15_2
    rw [show decide ((x : Int) < (k : Int)) = false by simp; omega, cond_false]
  | d + 1, x, f, c, hx, hf, hc => by
    obtain ⟨f, rfl⟩ : ∃ j, f = j + 1 := ⟨f - 1, by omega⟩
    have e2 := and_hits (hm x) hs
    unfold andE at e2
    have ho2 := or_bit (a := c) (c := x) hc (by omega)
    unfold orE at ho2
    have ew : wr .i64 ((x : Int) + 1) = ((x + 1 : Nat) : Int) := wr_w (by omega) (by omega)
    have step : DL15_2 n f1 (f + 1) w (k : Int) (m 0 : Int) (m 1 : Int) (m 2 : Int) (m 3 : Int) (m 4 : Int) (m 5 : Int) (m 6 : Int) (s : Int) (c : Int) (rowsL k m) (k : Int) (x : Int) near =
        DL15_2 n f1 f w (k : Int) (m 0 : Int) (m 1 : Int) (m 2 : Int) (m 3 : Int) (m 4 : Int) (m 5 : Int) (m 6 : Int) (s : Int) ((if hits (m x) s then c ||| 2 ^ x else c : Nat) : Int) (rowsL k m) (k : Int) ((x + 1 : Nat) : Int) near := by
      rw [DL15_2_succ]
      conv => lhs; unfold DF15_2 DL15_4
      rw [show decide ((x : Int) < (k : Int)) = true by simp; omega, cond_true, rowsL_idx hk (by omega) m, Option.bind_some, e2, show decide ((x : Int) < 0) = false by simp, cond_false, ho2, ew]
      cases hits (m x) s <;> rfl
    rw [step]
    cases hh : hits (m x) s with
    | true =>
      obtain ⟨c', h1, h2, h3⟩ := wide_loop n f1 w hk hs hm near d (x + 1) f (c ||| 2 ^ x) (by omega) (by omega) (Nat.or_lt_two_pow (n := 7) hc (Nat.pow_lt_pow_right (by decide) (by omega)))
      refine ⟨c', h1, fun y => (h2 y).trans ?_, h3⟩
      rw [Nat.testBit_or, Nat.testBit_two_pow, Bool.or_eq_true, decide_eq_true_eq]
      constructor
      · rintro ((h | rfl) | ⟨a, b, h⟩)
        · exact .inl h
        · exact .inr ⟨by omega, by omega, hh⟩
        · exact .inr ⟨by omega, b, h⟩
      · rintro (h | ⟨a, b, h⟩)
        · exact .inl (.inl h)
        · by_cases e : x = y
          · exact .inl (.inr e)
          · exact .inr ⟨by omega, b, h⟩
    | false =>
      obtain ⟨c', h1, h2, h3⟩ := wide_loop n f1 w hk hs hm near d (x + 1) f c (by omega) (by omega) hc
      refine ⟨c', h1, fun y => (h2 y).trans ?_, h3⟩
      constructor
      · rintro (h | ⟨a, b, h⟩)
        · exact .inl h
        · exact .inr ⟨by omega, b, h⟩
      · rintro (h | ⟨a, b, h⟩)
        · exact .inl h
        · by_cases e : x = y
          · rw [← e, hh] at h; cases h
          · exact .inr ⟨by omega, b, h⟩
theorem back_none (n : Nat × Nat) (f : Nat) (a w0 w1 w2 w3 w4 w5 w6 w7 : Int) (near out : List Int) : DL15_3 n (f + 1) a w0 w1 w2 w3 w4 w5 w6 w7 (-1) near out = some (out, 0) := rfl
theorem way_eq {n : Nat × Nat} (hn : 200 ≤ n.1) {b : Int × List (Int × Int)} {k : Nat} {m rk : Nat → Nat} (H : Rk k m rk) (hw : D33 n b = some (tupR (k : Int) m, 0)) {i : Nat} (hi : i < k) :
    ∃ way : List Int, D15 n b (bitsL (mins m k)) (i : Int) = some (way, 0) ∧ way.length = if m i = 0 then 1 else 2 := by
  have hk := H.hi
  have h7 : (2 : Nat) ^ k ≤ 2 ^ 7 := Nat.pow_le_pow_right (by decide) hk
  have hM := mins_lt m k
  obtain ⟨f, hf⟩ : ∃ f, n.1 = f + 1 + 1 + 1 := ⟨n.1 - 3, by omega⟩
  have hne : ((bitsL (mins m k)).length : Int) ≠ 0 := by
    have hl : bitsL (mins m k) ≠ [] := by
      have : ∃ j : Nat, j < k ∧ m j = 0 := by
        by_cases h0 : m 0 = 0
        · exact ⟨0, H.lo, h0⟩
        · obtain ⟨j, h1, _, h2⟩ := least_in H _ 0 (Nat.lt_succ_self _) h0
          exact ⟨j, h1, h2⟩
      obtain ⟨j, h1, h2⟩ := this
      have h3 : (j : Int) ∈ bitsL (mins m k) := (bitsL_mem (by omega) _).2 ⟨j, rfl, by rw [mins_bit]; simp [h1, h2]⟩
      intro e
      rw [e] at h3
      cases h3
    have := List.length_pos_iff.2 hl
    omega
  have e1 : D15 n b (bitsL (mins m k)) (i : Int) = DL15_1 n n.1 (i : Int) (k : Int) (m 0 : Int) (m 1 : Int) (m 2 : Int) (m 3 : Int) (m 4 : Int) (m 5 : Int) (m 6 : Int) [(mins m k : Int)] := by
    unfold D15
    rw [hw, Option.bind_some]
    show (bif ((0 : Int) != 0) then _ else (bif (((bitsL (mins m k)).length : Int) == 0) then some ([], 4) else (D43 n (tupR (k : Int) m) (bitsL (mins m k))).bind fun r2' => (bif (r2'.2 != 0) then some ([], r2'.2) else ((bif (decide ((i : Int) < 0) == false) then some (decide ((i : Int) ≥ (k : Int))) else some true)).bind fun b3' => (bif b3' then some ([], 2) else DL15_1 n n.1 (i : Int) (k : Int) (m 0 : Int) (m 1 : Int) (m 2 : Int) (m 3 : Int) (m 4 : Int) (m 5 : Int) (m 6 : Int) [r2'.1])))) = _
    rw [show ((0 : Int) != 0) = false from rfl, cond_false, show (((bitsL (mins m k)).length : Int) == 0) = false by rw [← Bool.not_eq_true, beq_iff_eq]; exact hne, cond_false, set_eq hn hk hM, Option.bind_some]
    show (bif ((0 : Int) != 0) then _ else _) = _
    rw [show ((0 : Int) != 0) = false from rfl, cond_false, show decide ((i : Int) < 0) = false by simp, show (bif (false == false) then some (decide ((i : Int) ≥ (k : Int))) else some true) = some (decide ((i : Int) ≥ (k : Int))) from rfl, Option.bind_some, show decide ((i : Int) ≥ (k : Int)) = false by simp; omega, cond_false]
  have e2 : ∀ (c : Nat) (near : List Int) (g : Nat), c < 128 → idx near ((near.length : Int) - 1) = some (c : Int) → near.length ≤ 100 → 1 ≤ near.length →
      DL15_1 n (g + 1) (i : Int) (k : Int) (m 0 : Int) (m 1 : Int) (m 2 : Int) (m 3 : Int) (m 4 : Int) (m 5 : Int) (m 6 : Int) near =
        (bif !c.testBit i then DL15_2 n (DL15_1 n g) n.1 (i : Int) (k : Int) (m 0 : Int) (m 1 : Int) (m 2 : Int) (m 3 : Int) (m 4 : Int) (m 5 : Int) (m 6 : Int) (c : Int) (c : Int) (rowsL k m) (k : Int) 0 near
        else DL15_3 n n.1 (i : Int) (k : Int) (m 0 : Int) (m 1 : Int) (m 2 : Int) (m 3 : Int) (m 4 : Int) (m 5 : Int) (m 6 : Int) ((near.length : Int) - 2) near [(i : Int)]) := by
    intro c near g hc h1 h2 h3
    have es := sh_zero hc (i := i) (by omega)
    unfold shE at es
    rw [DL15_1_succ]
    unfold DF15_1
    rw [wr_w (x := (near.length : Int) - 1) (by omega) (by omega), wr_w (x := (near.length : Int) - 2) (by omega) (by omega), show inB ((near.length : Int) - 1) near.length = true by unfold inB; simp; omega, cond_true, h1, Option.bind_some, show decide ((i : Int) < 0) = false by simp, cond_false, es, cond_true, Option.bind_some, boundsI hk, cond_true, Int.toNat_natCast]
    show (bif !c.testBit i then DL15_2 n (DL15_1 n g) n.1 (i : Int) (k : Int) (m 0 : Int) (m 1 : Int) (m 2 : Int) (m 3 : Int) (m 4 : Int) (m 5 : Int) (m 6 : Int) (c : Int) (c : Int) (rowsL k m) ((rowsL k m).length : Int) 0 near else _) = _
    rw [rowsL_len hk]
  have em := mins_bit m i k
  rw [e1]
  by_cases hz : m i = 0
  · refine ⟨[(i : Int)], ?_, by rw [if_pos hz]; rfl⟩
    rw [show n.1 = (n.1 - 1) + 1 by omega, e2 (mins m k) _ _ (by omega) rfl (by simp) (by simp), em, show (decide (i < k) && decide (m i = 0)) = true by simp [hi, hz], Bool.not_true, cond_false, show n.1 = (n.1 - 1) + 1 by omega]
    exact back_none n _ _ _ _ _ _ _ _ _ _ _ _
  · obtain ⟨c', h1, h2, h3⟩ := wide_loop n (DL15_1 n (f + 1 + 1)) (i : Int) hk (s := mins m k) (by omega) H.lt [(mins m k : Int)] k 0 n.1 (mins m k) (by omega) (by omega) (by omega)
    have hb : (mins m k).testBit i = false := by rw [em]; simp [hz]
    have hc : c'.testBit i = true := (h2 i).2 (.inr ⟨by omega, hi, by rw [hits_mins H]; simp [hz]⟩)
    have hcne : ((c' : Int) == (mins m k : Int)) = false := by
      rw [← Bool.not_eq_true, beq_iff_eq]
      intro e
      have e : c' = mins m k := by omega
      rw [e, hb] at hc
      cases hc
    have hv : m i &&& mins m k < 128 := Nat.lt_of_le_of_lt Nat.and_le_left (H.lt i)
    have hsome := List.all_eq_true.1 (tz_tab n) _ (List.mem_range.2 hv)
    obtain ⟨r, hr⟩ := Option.isSome_iff_exists.1 hsome
    refine ⟨[(i : Int), r], ?_, by rw [if_neg hz]; rfl⟩
    have ea := and_nat (H.lt i) (b := mins m k) (by omega)
    unfold andE at ea
    have eix : idx [(m 0 : Int), (m 1 : Int), (m 2 : Int), (m 3 : Int), (m 4 : Int), (m 5 : Int), (m 6 : Int)] (i : Int) = some (m i : Int) := rowsL_idx (k := 7) (by omega) (by omega) m
    rw [hf, e2 (mins m k) _ _ (by omega) rfl (by simp) (by simp), hb, Bool.not_false, cond_true]
    refine h3.trans ?_
    rw [hcne, cond_false, show decide ([(mins m k : Int)].length + [(c' : Int)].length ≤ lim) = true from lim_t (by simp), cond_true, e2 c' _ _ h1 rfl (by simp) (by simp), hc, Bool.not_true, cond_false, hf]
    show DL15_3 n (f + 1 + 1 + 1) (i : Int) (k : Int) (m 0 : Int) (m 1 : Int) (m 2 : Int) (m 3 : Int) (m 4 : Int) (m 5 : Int) (m 6 : Int) 0 [(mins m k : Int), (c' : Int)] [(i : Int)] = _
    rw [DL15_3_succ]
    unfold DF15_3
    rw [show decide ((0 : Int) ≥ 0) = true from rfl, cond_true, eix, Option.bind_some, show inB 0 [(mins m k : Int), (c' : Int)].length = true from rfl, cond_true, show idx [(mins m k : Int), (c' : Int)] 0 = some (mins m k : Int) from rfl, Option.bind_some, ea, hr, Option.bind_some, show decide ([(i : Int)].length + [r].length ≤ lim) = true from lim_t (by simp), cond_true]
    exact back_none n _ _ _ _ _ _ _ _ _ _ _ _
theorem same_loop (n : Nat × Nat) (l : List Int) (hl : l.length ≤ 100) : ∀ (d i f : Nat), i + d = l.length → d < f → DL14_1 n f l l (l.length : Int) (i : Int) = some true
  | 0, i, f, hi, hf => by
    obtain ⟨f, rfl⟩ : ∃ j, f = j + 1 := ⟨f - 1, by omega⟩
    rw [DL14_1_succ]
    unfold DF14_1
    rw [show decide ((i : Int) < (l.length : Int)) = false by simp; omega, cond_false]
  | d + 1, i, f, hi, hf => by
    obtain ⟨f, rfl⟩ : ∃ j, f = j + 1 := ⟨f - 1, by omega⟩
    have hlt : i < l.length := by omega
    have e1 : idx l (i : Int) = some l[i] := by
      unfold idx
      rw [if_pos (by omega), Int.toNat_natCast, List.getElem?_eq_getElem hlt]
    rw [DL14_1_succ]
    unfold DF14_1
    rw [show decide ((i : Int) < (l.length : Int)) = true by simp; omega, cond_true, e1, Option.bind_some, Option.bind_some, show (l[i] != l[i]) = false by simp, cond_false, wr_w (by omega) (by omega)]
    exact same_loop n l hl d (i + 1) f (by omega) (by omega)
theorem same_self {n : Nat × Nat} (hn : 500 ≤ n.1) (l : List Int) (hl : l.length ≤ 100) : D14 n l l = some true := by
  unfold D14
  rw [show ((l.length : Int) != (l.length : Int)) = false by simp, cond_false]
  exact same_loop n l hl l.length 0 n.1 (by omega) (by omega)
theorem inner_loop {n : Nat × Nat} (hn : 500 ≤ n.1) (f1 : Int → Int → List ByteArray → Int → List Int → (List (Int × Int)) → Option R3) {ws : List ByteArray} (hw : ∀ w ∈ ws, Wrd w) (h6 : ws.length ≤ 6) {i : Nat} (hi : i < ws.length) :
    ∀ (d j f : Nat), j + d = ws.length → d < f →
      DL3_2 n f1 f (i : Int) ws[i] (leastW ws i j) (ws.length : Int) (i : Int) (ws.length : Int) (j : Int) ws (ws.length : Int) (wantsW ws ws.length i) (refsUp ws ws.length i ++ refR ws i j) =
        f1 (ws.length : Int) ((i + 1 : Nat) : Int) ws (ws.length : Int) (wantsW ws ws.length (i + 1)) (refsUp ws ws.length (i + 1))
  | 0, j, f, hj, hf => by
    obtain ⟨f, rfl⟩ : ∃ x, f = x + 1 := ⟨f - 1, by omega⟩
    obtain rfl : j = ws.length := by omega
    have hl := wantsW_len ws ws.length i
    rw [DL3_2_succ, wantsW_succ]
    unfold DF3_2 DL3_5
    rw [show decide ((ws.length : Int) < (ws.length : Int)) = false by simp, cond_false, show decide ((wantsW ws ws.length i).length + [(i : Int)].length ≤ lim) = true from lim_t (by simp; omega), cond_true, wr_w (by omega) (by omega), refsUp]
    cases leastW ws i ws.length with
    | true => rfl
    | false => rw [cond_false, cond_false, List.append_nil]; rfl
  | d + 1, j, f, hj, hf => by
    obtain ⟨f, rfl⟩ : ∃ x, f = x + 1 := ⟨f - 1, by omega⟩
    have hjl : j < ws.length := by omega
    have e1 : idx ws (j : Int) = some ws[j] := by
      unfold idx
      rw [if_pos (by omega), Int.toNat_natCast, List.getElem?_eq_getElem hjl]
    have w1 := hw ws[i] (List.getElem_mem _)
    have w2 := hw ws[j] (List.getElem_mem _)
    have eh := holds_eq (n := n) (by omega) w1 w2
    have ep := part_eq (n := n) (p := ws[j]) (by omega) w1
    have l1 := refsUp_len ws ws.length i
    have l2 := refR_len ws i j
    have l3 : i * ws.length ≤ 6 * 6 := Nat.mul_le_mul (by omega) h6
    have ew : wr .i64 ((j : Int) + 1) = ((j + 1 : Nat) : Int) := wr_w (by omega) (by omega)
    have ih := inner_loop hn f1 hw h6 hi d (j + 1) f (by omega) (by omega)
    rw [leastW_succ, refR_succ, ← List.append_assoc] at ih
    rw [← ih, DL3_2_succ]
    conv => lhs; unfold DF3_2 DL3_4
    have hp : prt ws i j = (decide (i ≠ j) && (strBytes ws[j]).isSublist (strBytes ws[i])) := by unfold prt; rw [Bw_get hi, Bw_get hjl]
    rw [show decide ((j : Int) < (ws.length : Int)) = true by simp; omega, cond_true, show inB (j : Int) ws.length = true by unfold inB; simp; omega, cond_true, e1, Option.bind_some, eh, Option.bind_some, ep, Option.bind_some, hp, ew, show decide ((refsUp ws ws.length i ++ refR ws i j).length + [((i : Int), (j : Int))].length ≤ lim) = true from lim_t (by simp; omega), show ((i : Int) != (j : Int)) = decide (i ≠ j) by rw [Bool.eq_iff_iff, bne_iff_ne, decide_eq_true_eq]; omega]
    cases decide (i ≠ j) <;> cases (strBytes ws[j]).isSublist (strBytes ws[i]) <;> cases leastW ws i j <;> first | rfl | (simp only [Bool.and_false, Bool.and_true, Bool.not_false, Bool.not_true, Bool.false_and, cond_false, cond_true, List.append_nil]; rfl)
theorem ways_loop {n : Nat × Nat} (hn : 500 ≤ n.1) (hs : D16 n = some true) {b : Int × List (Int × Int)} {k : Nat} {m rk : Nat → Nat} (H : Rk k m rk) (hw : D33 n b = some (tupR (k : Int) m, 0)) {out : List Int} (hl : out.length = k) (ho : ∀ x, x < k → ∃ g : Nat, out[x]? = some (g : Int) ∧ (g = 0 ↔ m x = 0)) :
    ∀ (d i f : Nat), i + d = k → d < f → DL3_3 n f (k : Int) (i : Int) b.1 b.2 (bitsL (mins m k)) out = some true
  | 0, i, f, hi, hf => by
    obtain ⟨f, rfl⟩ : ∃ x, f = x + 1 := ⟨f - 1, by omega⟩
    rw [DL3_3_succ]
    unfold DF3_3
    rw [show decide ((i : Int) < (k : Int)) = false by simp; omega, cond_false, hs]
    rfl
  | d + 1, i, f, hi, hf => by
    obtain ⟨f, rfl⟩ : ∃ x, f = x + 1 := ⟨f - 1, by omega⟩
    have hk := H.hi
    obtain ⟨way, e1, e2⟩ := way_eq (n := n) (by omega) H hw (i := i) (by omega)
    obtain ⟨g, g1, g2⟩ := ho i (by omega)
    have e3 : idx out (i : Int) = some (g : Int) := by
      unfold idx
      rw [if_pos (by omega), Int.toNat_natCast, g1]
    have e4 : (((way.length : Int) == 1) != ((g : Int) == 0)) = false := by
      rw [e2]
      by_cases hz : m i = 0
      · rw [if_pos hz, g2.2 hz]; rfl
      · have : g ≠ 0 := fun h => hz (g2.1 h)
        rw [if_neg hz, show ((g : Int) == 0) = false by rw [← Bool.not_eq_true, beq_iff_eq]; omega]; rfl
    have e5 : decide ((way.length : Int) > 2) = false := by
      rw [decide_eq_false_iff_not, e2]
      split <;> omega
    have ih := ways_loop hn hs H hw hl ho d (i + 1) f (by omega) (by omega)
    rw [DL3_3_succ]
    unfold DF3_3
    rw [show decide ((i : Int) < (k : Int)) = true by simp; omega, cond_true, e1, Option.bind_some]
    show ((bif true then some (decide ((way.length : Int) > 2)) else some true).bind _) = _
    rw [e5, cond_true, Option.bind_some]
    show ((bif inB (i : Int) out.length then (idx out (i : Int)).bind fun x21' => some (((way.length : Int) == 1) != (x21' == 0)) else none).bind _) = _
    rw [show inB (i : Int) out.length = true by unfold inB; simp; omega, cond_true, e3, Option.bind_some, e4, Option.bind_some, cond_false, wr_w (by omega) (by omega)]
    exact ih
theorem outer_loop {n : Nat × Nat} (hn : 500 ≤ n.1) (hs : D16 n = some true) {ws : List ByteArray} (hw : ∀ w ∈ ws, Wrd w) (hd : Dif ws) (h1 : 1 ≤ ws.length) (h6 : ws.length ≤ 6) :
    ∀ (d i f : Nat), i + d = ws.length → d < f → DL3_1 n f (ws.length : Int) (i : Int) ws (ws.length : Int) (wantsW ws ws.length i) (refsUp ws ws.length i) = some true
  | 0, i, f, hi, hf => by
    obtain ⟨f, rfl⟩ : ∃ x, f = x + 1 := ⟨f - 1, by omega⟩
    obtain rfl : i = ws.length := by omega
    have ho := book_ord hd h1 h6
    have H := book_rk hw hd h1 h6
    have hw3 := web_eq (n := n) (by omega) ho
    have ea := all_eq (n := n) (by omega) H hw3
    obtain ⟨out, en, hl, hout⟩ := nums_eq (n := n) (by omega) H hw3
    have ec : D12 n ((ws.length : Int), refsUp ws ws.length ws.length) = some (0, 0) := by
      unfold D12 HF12
      rw [(okB_iff _).2 ho]
      rfl
    have hwl := wantsW_len ws ws.length ws.length
    have ef := ways_loop hn hs H hw3 hl hout ws.length 0 n.1 (by omega) (by omega)
    have es := same_self (n := n) hn (wantsW ws ws.length ws.length) (by omega)
    rw [← wants_mins hd h1 h6] at ea ef
    rw [DL3_1_succ]
    unfold DF3_1
    rw [show decide ((ws.length : Int) < (ws.length : Int)) = false by simp, cond_false, ea, Option.bind_some, ec, Option.bind_some, en, Option.bind_some]
    show ((D14 n (wantsW ws ws.length ws.length) (wantsW ws ws.length ws.length)).bind fun r11' => some (!r11')).bind (fun b12' => ((bif (b12' == false) then some ((out.length : Int) != (ws.length : Int)) else some true)).bind fun b13' => (bif b13' then some false else DL3_3 n n.1 (ws.length : Int) 0 (ws.length : Int) (refsUp ws ws.length ws.length) (wantsW ws ws.length ws.length) out)) = _
    rw [es, Option.bind_some, Option.bind_some, show ((out.length : Int) != (ws.length : Int)) = false by rw [hl]; simp]
    exact ef
  | d + 1, i, f, hi, hf => by
    obtain ⟨f, rfl⟩ : ∃ x, f = x + 1 := ⟨f - 1, by omega⟩
    have hil : i < ws.length := by omega
    have e1 : idx ws (i : Int) = some ws[i] := by
      unfold idx
      rw [if_pos (by omega), Int.toNat_natCast, List.getElem?_eq_getElem hil]
    have hin := inner_loop hn (DL3_1 n f) hw h6 hil ws.length 0 n.1 (by omega) (by omega)
    have e2 : refsUp ws ws.length i ++ refR ws i 0 = refsUp ws ws.length i := List.append_nil _
    rw [e2] at hin
    rw [DL3_1_succ]
    unfold DF3_1
    rw [show decide ((i : Int) < (ws.length : Int)) = true by simp; omega, cond_true, show inB (i : Int) ws.length = true by unfold inB; simp; omega, cond_true, e1, Option.bind_some]
    refine hin.trans ?_
    exact outer_loop hn hs hw hd h1 h6 d (i + 1) f (by omega) (by omega)
theorem parts_eq {n : Nat × Nat} (hn : 500 ≤ n.1) (hs : D16 n = some true) (v : (Int × Int × Int × Int × Int × Int) × (Int × Int × Int × Int × Int × Int) × (Int × Int × Int × Int × Int × Int) × (Int × Int × Int × Int × Int × Int) × (Int × Int × Int × Int × Int × Int) × (Int × Int × Int × Int × Int × Int) × (Int × Int × Int × Int × Int × Int) × Int × Int × Int × Int × Int × Int)
    (hv : ∀ r ∈ [v.1, v.2.1, v.2.2.1, v.2.2.2.1, v.2.2.2.2.1, v.2.2.2.2.2.1], ∀ x ∈ row6 r, 0 ≤ x ∧ x ≤ 255) : D3 n v = some true := by
  obtain ⟨ws, a1, a2, a3, a4, a5⟩ := words_loop hn [v.1, v.2.1, v.2.2.1, v.2.2.2.1, v.2.2.2.2.1, v.2.2.2.2.2.1] (by simp) hv 6 0 n.1 [] rfl (by omega) (by simp) (by intro w h; cases h) List.Pairwise.nil
  have h1 : 1 ≤ List.length ws := List.length_pos_iff.2 (a5 (.inl (by decide)))
  have e8 : D8 n v 6 5 = some ws := a1
  unfold D3
  rw [e8, Option.bind_some]
  exact outer_loop hn hs a3 a4 h1 a2 (List.length ws) 0 n.1 (by omega) (by
    have : List.length ws ≤ 6 := a2
    omega)
theorem parts_ok (v : (Int × Int × Int × Int × Int × Int) × (Int × Int × Int × Int × Int × Int) × (Int × Int × Int × Int × Int × Int) × (Int × Int × Int × Int × Int × Int) × (Int × Int × Int × Int × Int × Int) × (Int × Int × Int × Int × Int × Int) × (Int × Int × Int × Int × Int × Int) × Int × Int × Int × Int × Int × Int)
    (hv : ∀ r ∈ [v.1, v.2.1, v.2.2.1, v.2.2.2.1, v.2.2.2.2.1, v.2.2.2.2.2.1], ∀ x ∈ row6 r, 0 ≤ x ∧ x ≤ 255) : D3 M v = some true :=
  parts_eq (by decide) sees_ok v hv
abbrev ShW6 : Sh := .pair (.int .u8) (.pair (.int .u8) (.pair (.int .u8) (.pair (.int .u8) (.pair (.int .u8) (.int .u8)))))
abbrev ShWs : Sh := .pair ShW6 (.pair ShW6 (.pair ShW6 (.pair ShW6 (.pair ShW6 (.pair ShW6 (.pair ShW6 ShW6))))))
theorem row_ok {r : Int × Int × Int × Int × Int × Int} (h : Wf ShW6 r) : ∀ x ∈ row6 r, 0 ≤ x ∧ x ≤ 255 := by
  obtain ⟨h0, h1, h2, h3, h4, h5⟩ := h
  intro x hx
  simp only [row6, List.mem_cons, List.not_mem_nil, or_false] at hx
  rcases hx with rfl | rfl | rfl | rfl | rfl | rfl
  · exact by_u8 h0
  · exact by_u8 h1
  · exact by_u8 h2
  · exact by_u8 h3
  · exact by_u8 h4
  · exact by_u8 h5
theorem parts_wf (v : ShWs.den) (h : Wf ShWs v) : D3 M v = some true := by
  obtain ⟨h0, h1, h2, h3, h4, h5, h6⟩ := h
  refine parts_ok v fun r hr => ?_
  simp only [List.mem_cons, List.not_mem_nil, or_false] at hr
  rcases hr with rfl | rfl | rfl | rfl | rfl | rfl
  · exact row_ok h0
  · exact row_ok h1
  · exact row_ok h2
  · exact row_ok h3
  · exact row_ok h4
  · exact row_ok h5
end Go.Proofs.YtkfkbebinhkdlaaDoor
