/- Texts of this claim, joined: D92 to Zy. -/
import Derived.KernelRfl
import Derived.Test.YtkfkbebinhkdlaaGreatDoorProg
import Derived.WalkKit
import Derived.Test.YtkfkbebinhkdlaaGreatDoorQTopSheetsCard7
set_option linter.unusedVariables false
set_option linter.unusedSimpArgs false
set_option maxRecDepth 100000
namespace Go.Proofs.YtkfkbebinhkdlaaGreatDoor
open Go.Vi
/-D 92 -/
noncomputable def DF92_1 (n : Nat × Nat) (f1 : List ByteArray → Int → Int → Option R92) (v6 : List ByteArray) (v7 : Int) (v8 : Int) : Option R92 :=
 (bif decide (v8 < v7) then (idx v6 v8).bind fun x1' =>
 (D100 n x1').bind fun r2' =>
 (bif (r2' != 0) then some r2'
 else f1 v6 v7 (wr .i64 (v8 + 1)))
 else some 0)
noncomputable def DL92_1 (n : Nat × Nat) (m : Nat) : List ByteArray → Int → Int → Option R92 := Nat.rec (motive := fun _ => List ByteArray → Int → Int → Option R92) (fun _ _ _ => none) (fun _ ih => DF92_1 n ih) m
theorem DL92_1_succ (n : Nat × Nat) (m : Nat) : DL92_1 n (m + 1) = DF92_1 n (DL92_1 n m) := rfl
theorem DL92_1_eq (n : Nat × Nat) (hn : n.2 = 1) : ∀ m, L92_1 n m = DL92_1 n m
  | 0 => by funext v6 v7 v8; kernel_rfl
  | m + 1 => by
    have ih := DL92_1_eq n hn m
    funext v6 v7 v8; refine (L92_1_eq n m v6 v7 v8).trans ?_
    rw [DL92_1_succ]
    unfold DF92_1
    (try simp only [ih, S100_D n hn]) <;> first | with_reducible rfl | rfl
noncomputable def D92 (n : Nat × Nat) (words0 : List ByteArray) : Option R92 :=
    DL92_1 n n.1 words0 (words0.length : Int) 0
theorem S92_D (n : Nat × Nat) (hn : n.2 = 1) : S92 n = D92 n := by
  funext words0; refine (S92_eq n words0).trans ?_
  unfold D92
  (try simp only [DL92_1_eq n hn, S100_D n hn]) <;> first | with_reducible rfl | rfl
/-D 78 -/
noncomputable def DL78_3 (n : Nat × Nat) (f1 : ByteArray → List Int → Int → Int → List Int → Option R78) (f2 : ByteArray → Int → Int → List Int → Int → Int → List Int → Option R78) (part1 : ByteArray) (c9 : Int) (k10 : Int) (v25 : List Int) (v26 : Int) (v27 : Int) (begun7 : List Int) : Option R78 :=
    f2 part1 c9 (wr .i64 (k10 - 1)) v25 v26 v27 begun7
theorem DL78_3_eq (n : Nat × Nat) (hn : n.2 = 1) (m1 m2 : Nat) : L78_3 n m1 m2 = DL78_3 n (L78_1 n m1) (L78_2 n m1 m2) := by
  funext part1 c9 k10 v25 v26 v27 begun7; refine ((held_eq hn _).trans (L78_3_raw n m1 m2 part1 c9 k10 v25 v26 v27 begun7)).trans ?_
  unfold DL78_3
  (try simp only [S92_D n hn]) <;> first | with_reducible rfl | rfl
noncomputable def DF78_2 (n : Nat × Nat) (f1 : ByteArray → List Int → Int → Int → List Int → Option R78) (f2 : ByteArray → Int → Int → List Int → Int → Int → List Int → Option R78) (part1 : ByteArray) (c9 : Int) (k10 : Int) (v25 : List Int) (v26 : Int) (v27 : Int) (begun7 : List Int) : Option R78 :=
 (bif decide (k10 > 0) then (idx (strBytes part1) (wr .i64 (k10 - 1))).bind fun x5' =>
 (bif (x5' == c9) then (bif inB k10 begun7.length then (idx begun7 k10).bind fun x6' =>
 (bif inB (wr .i64 (k10 - 1)) begun7.length then (idx begun7 (wr .i64 (k10 - 1))).bind fun x7' =>
 (bif inB k10 begun7.length then (idx begun7 k10).bind fun x8' =>
              DL78_3 n f1 f2 part1 c9 k10 v25 v26 v27 (begun7.set (Int.toNat k10) (wr .i64 (x6' + x7')))
 else none)
 else none)
 else none)
 else DL78_3 n f1 f2 part1 c9 k10 v25 v26 v27 begun7)
 else f1 part1 v25 v26 (wr .i64 (v27 + 1)) begun7)
noncomputable def DL78_2 (n : Nat × Nat) (f1 : ByteArray → List Int → Int → Int → List Int → Option R78) (m : Nat) : ByteArray → Int → Int → List Int → Int → Int → List Int → Option R78 := Nat.rec (motive := fun _ => ByteArray → Int → Int → List Int → Int → Int → List Int → Option R78) (fun _ _ _ _ _ _ _ => none) (fun _ ih => DF78_2 n f1 ih) m
theorem DL78_2_succ (n : Nat × Nat) (f1 : ByteArray → List Int → Int → Int → List Int → Option R78) (m : Nat) : DL78_2 n f1 (m + 1) = DF78_2 n f1 (DL78_2 n f1 m) := rfl
theorem DL78_2_eq (n : Nat × Nat) (hn : n.2 = 1) (m1 : Nat) : ∀ m, L78_2 n m1 m = DL78_2 n (L78_1 n m1) m
  | 0 => by funext part1 c9 k10 v25 v26 v27 begun7; kernel_rfl
  | m + 1 => by
    have ih := DL78_2_eq n hn m1 m
    funext part1 c9 k10 v25 v26 v27 begun7; refine (L78_2_eq n m1 m part1 c9 k10 v25 v26 v27 begun7).trans ?_
    rw [DL78_2_succ]
    unfold DF78_2
    (try simp only [ih, DL78_3_eq n hn, S92_D n hn]) <;> first | with_reducible rfl | rfl
noncomputable def DF78_1 (n : Nat × Nat) (f1 : ByteArray → List Int → Int → Int → List Int → Option R78) (part1 : ByteArray) (v25 : List Int) (v26 : Int) (v27 : Int) (begun7 : List Int) : Option R78 :=
 (bif decide (v27 < v26) then (idx v25 v27).bind fun x3' =>
      DL78_2 n f1 n.1 part1 x3' (part1.size : Int) v25 v26 v27 begun7
 else (bif inB (part1.size : Int) begun7.length then (idx begun7 (part1.size : Int)).bind fun x4' =>
 some (x4', 0)
 else none))
noncomputable def DL78_1 (n : Nat × Nat) (m : Nat) : ByteArray → List Int → Int → Int → List Int → Option R78 := Nat.rec (motive := fun _ => ByteArray → List Int → Int → Int → List Int → Option R78) (fun _ _ _ _ _ => none) (fun _ ih => DF78_1 n ih) m
theorem DL78_1_succ (n : Nat × Nat) (m : Nat) : DL78_1 n (m + 1) = DF78_1 n (DL78_1 n m) := rfl
theorem DL78_1_eq (n : Nat × Nat) (hn : n.2 = 1) : ∀ m, L78_1 n m = DL78_1 n m
  | 0 => by funext part1 v25 v26 v27 begun7; kernel_rfl
  | m + 1 => by
    have ih := DL78_1_eq n hn m
    funext part1 v25 v26 v27 begun7; refine (L78_1_eq n m part1 v25 v26 v27 begun7).trans ?_
    rw [DL78_1_succ]
    unfold DF78_1
    (try simp only [ih, DL78_3_eq n hn, DL78_2_eq n hn, S92_D n hn]) <;> first | with_reducible rfl | rfl
noncomputable def D78 (n : Nat × Nat) (word0 : ByteArray) (part1 : ByteArray) : Option R78 :=
 (D92 n [word0, part1]).bind fun r1' =>
 (bif (r1' != 0) then some (0, r1')
 else (bif decide (0 ≤ wr .i64 ((part1.size : Int) + 1)) && decide (wr .i64 ((part1.size : Int) + 1) ≤ wr .i64 ((part1.size : Int) + 1)) && decide (wr .i64 ((part1.size : Int) + 1) ≤ lim) then (bif inB 0 (List.replicate (Int.toNat (wr .i64 ((part1.size : Int) + 1))) (0 : Int)).length then (idx (List.replicate (Int.toNat (wr .i64 ((part1.size : Int) + 1))) (0 : Int)) 0).bind fun x2' =>
          DL78_1 n n.1 part1 (strBytes word0) ((strBytes word0).length : Int) 0 ((List.replicate (Int.toNat (wr .i64 ((part1.size : Int) + 1))) (0 : Int)).set (Int.toNat 0) 1)
 else none)
 else none))
theorem S78_D (n : Nat × Nat) (hn : n.2 = 1) : S78 n = D78 n := by
  funext word0 part1; refine (S78_eq n word0 part1).trans ?_
  unfold D78
  (try simp only [DL78_3_eq n hn, DL78_2_eq n hn, DL78_1_eq n hn, S92_D n hn]) <;> first | with_reducible rfl | rfl
/-D 93 -/
noncomputable def DF93_1 (n : Nat × Nat) (f1 : Int → ByteArray → Nat → Option R93) (letters1 : Int) (v22s : ByteArray) (v22p : Nat) : Option R93 :=
 (bif Nat.blt v22p v22s.size then ((strBytes v22s)[v22p]?).bind fun x3' =>
 (bif decide (x3' < 128) then (bif decide (x3' ≥ wr .i32 (97 + (wr .i32 letters1))) then some 2
 else f1 letters1 v22s (v22p + 1))
 else none)
 else some 0)
noncomputable def DL93_1 (n : Nat × Nat) (m : Nat) : Int → ByteArray → Nat → Option R93 := Nat.rec (motive := fun _ => Int → ByteArray → Nat → Option R93) (fun _ _ _ => none) (fun _ ih => DF93_1 n ih) m
theorem DL93_1_succ (n : Nat × Nat) (m : Nat) : DL93_1 n (m + 1) = DF93_1 n (DL93_1 n m) := rfl
theorem DL93_1_eq (n : Nat × Nat) (hn : n.2 = 1) : ∀ m, L93_1 n m = DL93_1 n m
  | 0 => by funext letters1 v22s v22p; kernel_rfl
  | m + 1 => by
    have ih := DL93_1_eq n hn m
    funext letters1 v22s v22p; refine (L93_1_eq n m letters1 v22s v22p).trans ?_
    rw [DL93_1_succ]
    unfold DF93_1
    (try simp only [ih, S100_D n hn]) <;> first | with_reducible rfl | rfl
noncomputable def D93 (n : Nat × Nat) (word0 : ByteArray) (letters1 : Int) : Option R93 :=
 (D100 n word0).bind fun r1' =>
 (bif (r1' != 0) then some r1'
 else ((bif (decide (letters1 < 1) == false) then some (decide (letters1 > 6))
 else some true)).bind fun b2' =>
 (bif b2' then some 1
 else DL93_1 n n.1 letters1 word0 0))
theorem S93_D (n : Nat × Nat) (hn : n.2 = 1) : S93 n = D93 n := by
  funext word0 letters1; refine (S93_eq n word0 letters1).trans ?_
  unfold D93
  (try simp only [DL93_1_eq n hn, S100_D n hn]) <;> first | with_reducible rfl | rfl
/-D 94 -/
noncomputable def DF94_1 (n : Nat × Nat) (f1 : Int → List Int → (List (Int × Bool)) → ByteArray → Nat → Option R94) (letters1 : Int) (out5 : List Int) (met6 : List (Int × Bool)) (v11s : ByteArray) (v11p : Nat) : Option R94 :=
 (bif Nat.blt v11p v11s.size then ((strBytes v11s)[v11p]?).bind fun x1' =>
 (bif decide (x1' < 128) then (bif (((aset met6 x1' true).length : Int) == letters1) then (bif decide (out5.length + [wr .i64 ((v11p : Int) + 1)].length ≤ lim) then f1 letters1 (out5 ++ [wr .i64 ((v11p : Int) + 1)]) [] v11s (v11p + 1)
 else none)
 else f1 letters1 out5 (aset met6 x1' true) v11s (v11p + 1))
 else none)
 else some out5)
noncomputable def DL94_1 (n : Nat × Nat) (m : Nat) : Int → List Int → (List (Int × Bool)) → ByteArray → Nat → Option R94 := Nat.rec (motive := fun _ => Int → List Int → (List (Int × Bool)) → ByteArray → Nat → Option R94) (fun _ _ _ _ _ => none) (fun _ ih => DF94_1 n ih) m
theorem DL94_1_succ (n : Nat × Nat) (m : Nat) : DL94_1 n (m + 1) = DF94_1 n (DL94_1 n m) := rfl
theorem DL94_1_eq (n : Nat × Nat) (hn : n.2 = 1) : ∀ m, L94_1 n m = DL94_1 n m
  | 0 => by funext letters1 out5 met6 v11s v11p; kernel_rfl
  | m + 1 => by
    have ih := DL94_1_eq n hn m
    funext letters1 out5 met6 v11s v11p; refine (L94_1_eq n m letters1 out5 met6 v11s v11p).trans ?_
    rw [DL94_1_succ]
    unfold DF94_1
    (try simp only [ih]) <;> first | with_reducible rfl | rfl
noncomputable def D94 (n : Nat × Nat) (word0 : ByteArray) (letters1 : Int) : Option R94 :=
    DL94_1 n n.1 letters1 [] [] word0 0
theorem S94_D (n : Nat × Nat) (hn : n.2 = 1) : S94 n = D94 n := by
  funext word0 letters1; refine (S94_eq n word0 letters1).trans ?_
  unfold D94
  (try simp only [DL94_1_eq n hn]) <;> first | with_reducible rfl | rfl
/-D 95 -/
noncomputable def DF95_1 (n : Nat × Nat) (f1 : List Int → Int → Int → Int → Option R95) (s0 : List Int) (v1 : Int) (v7 : Int) (v8 : Int) : Option R95 :=
 (bif decide (v8 < v7) then (idx s0 v8).bind fun x1' =>
 (bif (v1 == x1') then some v8
 else f1 s0 v1 v7 (wr .i64 (v8 + 1)))
 else some (-1))
noncomputable def DL95_1 (n : Nat × Nat) (m : Nat) : List Int → Int → Int → Int → Option R95 := Nat.rec (motive := fun _ => List Int → Int → Int → Int → Option R95) (fun _ _ _ _ => none) (fun _ ih => DF95_1 n ih) m
theorem DL95_1_succ (n : Nat × Nat) (m : Nat) : DL95_1 n (m + 1) = DF95_1 n (DL95_1 n m) := rfl
theorem DL95_1_eq (n : Nat × Nat) (hn : n.2 = 1) : ∀ m, L95_1 n m = DL95_1 n m
  | 0 => by funext s0 v1 v7 v8; kernel_rfl
  | m + 1 => by
    have ih := DL95_1_eq n hn m
    funext s0 v1 v7 v8; refine (L95_1_eq n m s0 v1 v7 v8).trans ?_
    rw [DL95_1_succ]
    unfold DF95_1
    (try simp only [ih]) <;> first | with_reducible rfl | rfl
noncomputable def D95 (n : Nat × Nat) (s0 : List Int) (v1 : Int) : Option R95 :=
    DL95_1 n n.1 s0 v1 (s0.length : Int) 0
theorem S95_D (n : Nat × Nat) (hn : n.2 = 1) : S95 n = D95 n := by
  funext s0 v1; refine (S95_eq n s0 v1).trans ?_
  unfold D95
  (try simp only [DL95_1_eq n hn]) <;> first | with_reducible rfl | rfl
/-D 79 -/
noncomputable def DL79_3 (n : Nat × Nat) (f1 : ByteArray → Int → List Int → Option R79) (f2 : ByteArray → Int → Int → Bool → Int → List Int → Option R79) (word0 : ByteArray) (letters1 : Int) (left8 : Int) (found9 : Bool) (c10 : Int) (out7 : List Int) : Option R79 :=
    f2 word0 letters1 left8 found9 (wr .u8 (c10 + 1)) out7
theorem DL79_3_eq (n : Nat × Nat) (hn : n.2 = 1) (m1 m2 : Nat) : L79_3 n m1 m2 = DL79_3 n (L79_1 n m1) (L79_2 n m1 m2) := by
  funext word0 letters1 left8 found9 c10 out7; refine ((held_eq hn _).trans (L79_3_raw n m1 m2 word0 letters1 left8 found9 c10 out7)).trans ?_
  unfold DL79_3
  (try simp only [S93_D n hn, S94_D n hn, S95_D n hn]) <;> first | with_reducible rfl | rfl
noncomputable def DF79_2 (n : Nat × Nat) (f1 : ByteArray → Int → List Int → Option R79) (f2 : ByteArray → Int → Int → Bool → Int → List Int → Option R79) (word0 : ByteArray) (letters1 : Int) (left8 : Int) (found9 : Bool) (c10 : Int) (out7 : List Int) : Option R79 :=
 ((bif (decide (c10 < wr .u8 (wr .i64 (97 + letters1))) == true) then some (!found9)
 else some false)).bind fun b3' =>
 (bif b3' then (D95 n (strBytes word0) c10).bind fun r4' =>
 (bif decide (r4' < 0) then (bif decide (out7.length + [c10].length ≤ lim) then some (strNums (out7 ++ [c10]), 0)
 else none)
 else ((bif (decide (left8 > 0) == true) then (bif bounds (some (wr .i64 (r4' + 1))) none none word0.size then (D94 n (strCut (some (wr .i64 (r4' + 1))) none word0) letters1).bind fun r5' =>
 some ((r5'.length : Int) == (wr .i64 (left8 - 1)))
 else none)
 else some false)).bind fun b6' =>
 (bif b6' then (bif decide (out7.length + [c10].length ≤ lim) then (bif bounds (some (wr .i64 (r4' + 1))) none none word0.size then DL79_3 n f1 f2 (strCut (some (wr .i64 (r4' + 1))) none word0) letters1 left8 true c10 (out7 ++ [c10])
 else none)
 else none)
 else DL79_3 n f1 f2 word0 letters1 left8 found9 c10 out7))
 else f1 word0 letters1 out7)
noncomputable def DL79_2 (n : Nat × Nat) (f1 : ByteArray → Int → List Int → Option R79) (m : Nat) : ByteArray → Int → Int → Bool → Int → List Int → Option R79 := Nat.rec (motive := fun _ => ByteArray → Int → Int → Bool → Int → List Int → Option R79) (fun _ _ _ _ _ _ => none) (fun _ ih => DF79_2 n f1 ih) m
theorem DL79_2_succ (n : Nat × Nat) (f1 : ByteArray → Int → List Int → Option R79) (m : Nat) : DL79_2 n f1 (m + 1) = DF79_2 n f1 (DL79_2 n f1 m) := rfl
theorem DL79_2_eq (n : Nat × Nat) (hn : n.2 = 1) (m1 : Nat) : ∀ m, L79_2 n m1 m = DL79_2 n (L79_1 n m1) m
  | 0 => by funext word0 letters1 left8 found9 c10 out7; kernel_rfl
  | m + 1 => by
    have ih := DL79_2_eq n hn m1 m
    funext word0 letters1 left8 found9 c10 out7; refine (L79_2_eq n m1 m word0 letters1 left8 found9 c10 out7).trans ?_
    rw [DL79_2_succ]
    unfold DF79_2
    (try simp only [ih, DL79_3_eq n hn, S93_D n hn, S94_D n hn, S95_D n hn]) <;> first | with_reducible rfl | rfl
noncomputable def DF79_1 (n : Nat × Nat) (f1 : ByteArray → Int → List Int → Option R79) (word0 : ByteArray) (letters1 : Int) (out7 : List Int) : Option R79 :=
 (D94 n word0 letters1).bind fun r2' =>
    DL79_2 n f1 n.1 word0 letters1 (r2'.length : Int) false 97 out7
noncomputable def DL79_1 (n : Nat × Nat) (m : Nat) : ByteArray → Int → List Int → Option R79 := Nat.rec (motive := fun _ => ByteArray → Int → List Int → Option R79) (fun _ _ _ => none) (fun _ ih => DF79_1 n ih) m
theorem DL79_1_succ (n : Nat × Nat) (m : Nat) : DL79_1 n (m + 1) = DF79_1 n (DL79_1 n m) := rfl
theorem DL79_1_eq (n : Nat × Nat) (hn : n.2 = 1) : ∀ m, L79_1 n m = DL79_1 n m
  | 0 => by funext word0 letters1 out7; kernel_rfl
  | m + 1 => by
    have ih := DL79_1_eq n hn m
    funext word0 letters1 out7; refine (L79_1_eq n m word0 letters1 out7).trans ?_
    rw [DL79_1_succ]
    unfold DF79_1
    (try simp only [ih, DL79_3_eq n hn, DL79_2_eq n hn, S93_D n hn, S94_D n hn, S95_D n hn]) <;> first | with_reducible rfl | rfl
noncomputable def D79 (n : Nat × Nat) (word0 : ByteArray) (letters1 : Int) : Option R79 :=
 (D93 n word0 letters1).bind fun r1' =>
 (bif (r1' != 0) then some ((⟨#[]⟩ : ByteArray), r1')
 else DL79_1 n n.1 word0 letters1 [])
theorem S79_D (n : Nat × Nat) (hn : n.2 = 1) : S79 n = D79 n := by
  funext word0 letters1; refine (S79_eq n word0 letters1).trans ?_
  unfold D79
  (try simp only [DL79_3_eq n hn, DL79_2_eq n hn, DL79_1_eq n hn, S93_D n hn, S94_D n hn, S95_D n hn]) <;> first | with_reducible rfl | rfl
/-D 80 -/
noncomputable def DL80_2 (n : Nat × Nat) (f1 : ByteArray → ByteArray → Int → Option R80) (word0 : ByteArray) (part1 : ByteArray) (i5 : Int) : Option R80 :=
    f1 word0 part1 (wr .i64 (i5 + 1))
theorem DL80_2_eq (n : Nat × Nat) (hn : n.2 = 1) (m1 : Nat) : L80_2 n m1 = DL80_2 n (L80_1 n m1) := by
  funext word0 part1 i5; refine ((held_eq hn _).trans (L80_2_raw n m1 word0 part1 i5)).trans ?_
  unfold DL80_2
  first | with_reducible rfl | rfl
noncomputable def DF80_1 (n : Nat × Nat) (f1 : ByteArray → ByteArray → Int → Option R80) (word0 : ByteArray) (part1 : ByteArray) (i5 : Int) : Option R80 :=
 ((bif (decide (i5 < (word0.size : Int)) == true) then some (!strEq part1 (⟨#[]⟩ : ByteArray))
 else some false)).bind fun b1' =>
 (bif b1' then (idx (strBytes word0) i5).bind fun x2' =>
 (idx (strBytes part1) 0).bind fun x3' =>
 (bif (x2' == x3') then (bif bounds (some 1) none none part1.size then DL80_2 n f1 word0 (strCut (some 1) none part1) i5
 else none)
 else DL80_2 n f1 word0 part1 i5)
 else some (strEq part1 (⟨#[]⟩ : ByteArray)))
noncomputable def DL80_1 (n : Nat × Nat) (m : Nat) : ByteArray → ByteArray → Int → Option R80 := Nat.rec (motive := fun _ => ByteArray → ByteArray → Int → Option R80) (fun _ _ _ => none) (fun _ ih => DF80_1 n ih) m
theorem DL80_1_succ (n : Nat × Nat) (m : Nat) : DL80_1 n (m + 1) = DF80_1 n (DL80_1 n m) := rfl
theorem DL80_1_eq (n : Nat × Nat) (hn : n.2 = 1) : ∀ m, L80_1 n m = DL80_1 n m
  | 0 => by funext word0 part1 i5; kernel_rfl
  | m + 1 => by
    have ih := DL80_1_eq n hn m
    funext word0 part1 i5; refine (L80_1_eq n m word0 part1 i5).trans ?_
    rw [DL80_1_succ]
    unfold DF80_1
    (try simp only [ih, DL80_2_eq n hn]) <;> first | with_reducible rfl | rfl
noncomputable def D80 (n : Nat × Nat) (word0 : ByteArray) (part1 : ByteArray) : Option R80 :=
    DL80_1 n n.1 word0 part1 0
theorem S80_D (n : Nat × Nat) (hn : n.2 = 1) : S80 n = D80 n := by
  funext word0 part1; refine (S80_eq n word0 part1).trans ?_
  unfold D80
  (try simp only [DL80_2_eq n hn, DL80_1_eq n hn]) <;> first | with_reducible rfl | rfl
/-D 70 -/
noncomputable def D70 (n : Nat × Nat) : Option R70 :=
 (D78 n (⟨#[97, 98, 99, 97]⟩ : ByteArray) (⟨#[97]⟩ : ByteArray)).bind fun r1' =>
 (D79 n (⟨#[97, 98, 98, 97]⟩ : ByteArray) 2).bind fun r2' =>
 ((bif ((r1'.2 == 0) == true) then some (r2'.2 == 0)
 else some false)).bind fun b3' =>
 ((bif (b3' == true) then some (r1'.1 == 2)
 else some false)).bind fun b4' =>
 ((bif (b4' == true) then some (strEq r2'.1 (⟨#[97, 97, 97]⟩ : ByteArray))
 else some false)).bind fun b5' =>
 ((bif (b5' == true) then (D80 n (⟨#[100, 97, 121, 45, 98, 111, 111, 107]⟩ : ByteArray) (⟨#[121, 98, 107]⟩ : ByteArray)).bind fun r6' =>
 some r6'
 else some false)).bind fun b7' =>
 some b7'
theorem S70_D (n : Nat × Nat) (hn : n.2 = 1) : S70 n = D70 n := by
  refine (S70_eq n).trans ?_
  unfold D70
  (try simp only [S78_D n hn, S79_D n hn, S80_D n hn]) <;> first | with_reducible rfl | rfl
/-D 58 -/
noncomputable def D58 (n : Nat × Nat) : Option R58 :=
 (D69 n (3, [(0, 1), (1, 2)])).bind fun r1' =>
 ((bif ((r1'.2 == 0) == true) then (D16 n r1'.1 [0, 2]).bind fun r2' =>
 some r2'
 else some false)).bind fun b3' =>
 ((bif (b3' == true) then (D70 n).bind fun r4' =>
 some r4'
 else some false)).bind fun b5' =>
 some b5'
theorem S58_D (n : Nat × Nat) (hn : n.2 = 1) : S58 n = D58 n := by
  refine (S58_eq n).trans ?_
  unfold D58
  (try simp only [S16_D n hn, S69_D n hn, S70_D n hn]) <;> first | with_reducible rfl | rfl
/-D 49 -/
noncomputable def D49 (n : Nat × Nat) : Option R49 :=
 (D57 n (3, [(0, 1), (0, 2), (1, 2)])).bind fun r1' =>
 ((bif ((r1'.2 == 0) == true) then (D16 n r1'.1 [0, 1]).bind fun r2' =>
 some r2'
 else some false)).bind fun b3' =>
 ((bif (b3' == true) then (D58 n).bind fun r4' =>
 some r4'
 else some false)).bind fun b5' =>
 some b5'
theorem S49_D (n : Nat × Nat) (hn : n.2 = 1) : S49 n = D49 n := by
  refine (S49_eq n).trans ?_
  unfold D49
  (try simp only [S16_D n hn, S57_D n hn, S58_D n hn]) <;> first | with_reducible rfl | rfl
/-D 41 -/
noncomputable def D41 (n : Nat × Nat) : Option R41 :=
 (D48 n (2, [0, 1, 2, 0, 1])).bind fun r1' =>
 ((bif ((r1'.2 == 0) == true) then some (r1'.1 == 4)
 else some false)).bind fun b2' =>
 ((bif (b2' == true) then (D49 n).bind fun r3' =>
 some r3'
 else some false)).bind fun b4' =>
 some b4'
theorem S41_D (n : Nat × Nat) (hn : n.2 = 1) : S41 n = D41 n := by
  refine (S41_eq n).trans ?_
  unfold D41
  (try simp only [S48_D n hn, S49_D n hn]) <;> first | with_reducible rfl | rfl
/-D 26 -/
noncomputable def D26 (n : Nat × Nat) : Option R26 :=
 (D40 n [(3, 1), (1, 1), (2, 1)]).bind fun r1' =>
 ((bif ((r1'.2 == 0) == true) then (D16 n r1'.1 [0]).bind fun r2' =>
 some r2'
 else some false)).bind fun b3' =>
 ((bif (b3' == true) then (D41 n).bind fun r4' =>
 some r4'
 else some false)).bind fun b5' =>
 some b5'
theorem S26_D (n : Nat × Nat) (hn : n.2 = 1) : S26 n = D26 n := by
  refine (S26_eq n).trans ?_
  unfold D26
  (try simp only [S16_D n hn, S40_D n hn, S41_D n hn]) <;> first | with_reducible rfl | rfl
/-D 11 -/
noncomputable def D11 (n : Nat × Nat) : Option R11 :=
 (D25 n ([(1, 3), (1, 4), (1, 2)], 7, 0) 2).bind fun r1' =>
 ((bif ((r1'.2 == 0) == true) then some (r1'.1 == 6)
 else some false)).bind fun b2' =>
 ((bif (b2' == true) then (D26 n).bind fun r3' =>
 some r3'
 else some false)).bind fun b4' =>
 some b4'
theorem S11_D (n : Nat × Nat) (hn : n.2 = 1) : S11 n = D11 n := by
  refine (S11_eq n).trans ?_
  unfold D11
  (try simp only [S25_D n hn, S26_D n hn]) <;> first | with_reducible rfl | rfl
/-D 3 -/
noncomputable def DF3_2 (n : Nat × Nat) (f1 : Int → Bool → Int → Int → List Int → Int → List Int → List Int → Option R3) (k15 : Int) (is17 : Bool) (v123 : Int) (v124 : Int) (l10 : List Int) (bound14 : Int) (falling22 : List Int) (v122 : List Int) : Option R3 :=
 (bif decide (v124 < v123) then (bif inB v124 v122.length then (idx v122 v124).bind fun x14' =>
 ((bif (decide (x14' < 0) == false) then some (decide (x14' ≥ (l10.length : Int)))
 else some true)).bind fun b15' =>
 ((bif (b15' == false) then ((bif (decide (v124 > 0) == true) then (bif inB x14' l10.length then (idx l10 x14').bind fun x16' =>
 (bif inB (wr .i64 (v124 - 1)) falling22.length then (idx falling22 (wr .i64 (v124 - 1))).bind fun x17' =>
 some (decide (x16' > x17'))
 else none)
 else none)
 else some false)).bind fun b18' =>
 some b18'
 else some true)).bind fun b19' =>
 (bif b19' then some false
 else (bif inB x14' l10.length then (idx l10 x14').bind fun x20' =>
 (bif decide (falling22.length + [x20'].length ≤ lim) then f1 k15 is17 v123 (wr .i64 (v124 + 1)) l10 bound14 (falling22 ++ [x20']) v122
 else none)
 else none))
 else none)
 else (D6 n falling22 bound14).bind fun r21' =>
 ((bif (decide (r21' ≥ k15) == true) then some (decide (r21' < wr .i64 (2 * k15)))
 else some false)).bind fun b22' =>
 ((bif (b22' == true) then ((bif ((!is17) == false) then some (r21' == k15)
 else some true)).bind fun b23' =>
 some b23'
 else some false)).bind fun b24' =>
 ((bif (b24' == true) then (D11 n).bind fun r25' =>
 some r25'
 else some false)).bind fun b26' =>
 some b26')
noncomputable def DL3_2 (n : Nat × Nat) (m : Nat) : Int → Bool → Int → Int → List Int → Int → List Int → List Int → Option R3 := Nat.rec (motive := fun _ => Int → Bool → Int → Int → List Int → Int → List Int → List Int → Option R3) (fun _ _ _ _ _ _ _ _ => none) (fun _ ih => DF3_2 n ih) m
theorem DL3_2_succ (n : Nat × Nat) (m : Nat) : DL3_2 n (m + 1) = DF3_2 n (DL3_2 n m) := rfl
theorem DL3_2_eq (n : Nat × Nat) (hn : n.2 = 1) : ∀ m, L3_2 n m = DL3_2 n m
  | 0 => by funext k15 is17 v123 v124 l10 bound14 falling22 v122; kernel_rfl
  | m + 1 => by
    have ih := DL3_2_eq n hn m
    funext k15 is17 v123 v124 l10 bound14 falling22 v122; refine (L3_2_eq n m k15 is17 v123 v124 l10 bound14 falling22 v122).trans ?_
    rw [DL3_2_succ]
    unfold DF3_2
    (try simp only [ih, S10_D n hn, S11_D n hn, S6_D n hn, S8_D n hn, S9_D n hn]) <;> first | with_reducible rfl | rfl
noncomputable def DF3_1 (n : Nat × Nat) (f1 : Int → List Int → Int → Int → Int → List Int → Option R3) (chain2 : Int) (v37 : List Int) (v38 : Int) (v39 : Int) (v9 : Int) (l10 : List Int) : Option R3 :=
 (bif decide (v39 < v38) then (idx v37 v39).bind fun x1' =>
 (bif v9 == 0 then none
 else (bif 2 == 0 then none
 else (bif ((Int.tmod chain2 2) == 1) then (bif 5 == 0 then none
 else (bif inB (Int.tmod x1' 5) [1, 2, 4, 12, 24].length then (idx [1, 2, 4, 12, 24] (Int.tmod x1' 5)).bind fun x2' =>
 (bif decide (l10.length + [x2'].length ≤ lim) then f1 chain2 v37 v38 (wr .i64 (v39 + 1)) v9 (l10 ++ [x2'])
 else none)
 else none))
 else (bif decide (l10.length + [wr .i64 (1 + (Int.tmod (wr .i64 x1') v9))].length ≤ lim) then f1 chain2 v37 v38 (wr .i64 (v39 + 1)) v9 (l10 ++ [wr .i64 (1 + (Int.tmod (wr .i64 x1') v9))])
 else none))))
 else (D8 n v9 l10).bind fun r3' =>
 (D9 n v9 l10).bind fun r4' =>
 (D10 n v9 l10).bind fun r5' =>
 (D6 n l10 v9).bind fun r6' =>
 ((bif ((r3'.2 != 0) == false) then some (r4'.2 != 0)
 else some true)).bind fun b7' =>
 ((bif (b7' == false) then some (r5'.2 != 0)
 else some true)).bind fun b8' =>
 ((bif (b8' == false) then some ((r5'.1.length : Int) != (l10.length : Int))
 else some true)).bind fun b9' =>
 ((bif (b9' == false) then some (decide (r6' < r3'.1))
 else some true)).bind fun b10' =>
 ((bif (b10' == false) then some (decide (r6' > wr .i64 ((wr .i64 (2 * r3'.1)) - 1)))
 else some true)).bind fun b11' =>
 ((bif (b11' == false) then (bif 2 == 0 then none
 else ((bif (((Int.tmod chain2 2) == 1) == true) then some (!r4'.1)
 else some false)).bind fun b12' =>
 some b12')
 else some true)).bind fun b13' =>
 (bif b13' then some false
 else DL3_2 n n.1 r3'.1 r4'.1 (r5'.1.length : Int) 0 l10 v9 [] r5'.1))
noncomputable def DL3_1 (n : Nat × Nat) (m : Nat) : Int → List Int → Int → Int → Int → List Int → Option R3 := Nat.rec (motive := fun _ => Int → List Int → Int → Int → Int → List Int → Option R3) (fun _ _ _ _ _ _ => none) (fun _ ih => DF3_1 n ih) m
theorem DL3_1_succ (n : Nat × Nat) (m : Nat) : DL3_1 n (m + 1) = DF3_1 n (DL3_1 n m) := rfl
theorem DL3_1_eq (n : Nat × Nat) (hn : n.2 = 1) : ∀ m, L3_1 n m = DL3_1 n m
  | 0 => by funext chain2 v37 v38 v39 v9 l10; kernel_rfl
  | m + 1 => by
    have ih := DL3_1_eq n hn m
    funext chain2 v37 v38 v39 v9 l10; refine (L3_1_eq n m chain2 v37 v38 v39 v9 l10).trans ?_
    rw [DL3_1_succ]
    unfold DF3_1
    (try simp only [ih, DL3_2_eq n hn, S10_D n hn, S11_D n hn, S6_D n hn, S8_D n hn, S9_D n hn]) <;> first | with_reducible rfl | rfl
noncomputable def D3 (n : Nat × Nat) (size0 : Int) (many1 : Int) (chain2 : Int) (pieces3 : Int × Int × Int × Int × Int × Int × Int × Int) : Option R3 :=
 (bif 24 == 0 then none
 else (bif 2 == 0 then none
 else (bif ((Int.tmod chain2 2) == 1) then (bif 8 == 0 then none
 else (bif bounds none (some (wr .i64 (1 + (Int.tmod (wr .i64 many1) 8)))) none 8 then DL3_1 n n.1 chain2 ([pieces3.1, pieces3.2.1, pieces3.2.2.1, pieces3.2.2.2.1, pieces3.2.2.2.2.1, pieces3.2.2.2.2.2.1, pieces3.2.2.2.2.2.2.1, pieces3.2.2.2.2.2.2.2].take (Int.toNat (wr .i64 (1 + (Int.tmod (wr .i64 many1) 8))))) (([pieces3.1, pieces3.2.1, pieces3.2.2.1, pieces3.2.2.2.1, pieces3.2.2.2.2.1, pieces3.2.2.2.2.2.1, pieces3.2.2.2.2.2.2.1, pieces3.2.2.2.2.2.2.2].take (Int.toNat (wr .i64 (1 + (Int.tmod (wr .i64 many1) 8))))).length : Int) 0 24 []
 else none))
 else (bif 8 == 0 then none
 else (bif bounds none (some (wr .i64 (1 + (Int.tmod (wr .i64 many1) 8)))) none 8 then DL3_1 n n.1 chain2 ([pieces3.1, pieces3.2.1, pieces3.2.2.1, pieces3.2.2.2.1, pieces3.2.2.2.2.1, pieces3.2.2.2.2.2.1, pieces3.2.2.2.2.2.2.1, pieces3.2.2.2.2.2.2.2].take (Int.toNat (wr .i64 (1 + (Int.tmod (wr .i64 many1) 8))))) (([pieces3.1, pieces3.2.1, pieces3.2.2.1, pieces3.2.2.2.1, pieces3.2.2.2.2.1, pieces3.2.2.2.2.2.1, pieces3.2.2.2.2.2.2.1, pieces3.2.2.2.2.2.2.2].take (Int.toNat (wr .i64 (1 + (Int.tmod (wr .i64 many1) 8))))).length : Int) 0 (wr .i64 (1 + (Int.tmod (wr .i64 size0) 24))) []
 else none)))))
theorem S3_D (n : Nat × Nat) (hn : n.2 = 1) : S3 n = D3 n := by
  funext size0 many1 chain2 pieces3; refine (S3_eq n size0 many1 chain2 pieces3).trans ?_
  unfold D3
  (try simp only [DL3_2_eq n hn, DL3_1_eq n hn, S10_D n hn, S11_D n hn, S6_D n hn, S8_D n hn, S9_D n hn]) <;> first | with_reducible rfl | rfl
end Go.Proofs.YtkfkbebinhkdlaaGreatDoor
/-
  The payment by greatest coins: the walk.
-/
set_option linter.unusedVariables false
set_option linter.unusedSimpArgs false
set_option maxRecDepth 100000
namespace Go.Proofs.YtkfkbebinhkdlaaGreatDoor
open Go.RowKit Go.Shelf
section
attribute [local go_sem] Oper.semAt_some
end
open Go.Vi
end Go.Proofs.YtkfkbebinhkdlaaGreatDoor
set_option linter.unusedVariables false
set_option linter.unusedSimpArgs false
set_option maxRecDepth 100000
namespace Go.Proofs.YtkfkbebinhkdlaaGreatDoor
open Go.Vi
noncomputable def c4 : Code := bodyOf Tryz.f4
/-D 27 -/
/-D 30 -/
/-D 32 -/
/-D 28 -/
/-D 12 -/
/-D 29 -/
/-D 31 -/
/-D 13 -/
/-D 14 -/
/-D 15 -/
/-D 17 -/
/-D 4 -/
def M : Nat × Nat := (100000, 1)
theorem by_u8 {n : Int} (h : Wf (.int .u8) n) : 0 ≤ n ∧ n ≤ 255 := by
  have h : (Lit.int .u8 n).wf = true := h
  simp only [Lit.wf, Bool.and_eq_true, decide_eq_true_eq] at h
  exact h
theorem tmod_small (k : Nat) (hk : 0 < k) {m : Int} (h : 0 ≤ m ∧ m ≤ 255) : ∃ a : Nat, a < k ∧ Int.tmod (wr .i64 m) (k : Int) = (a : Int) := by
  obtain ⟨x, rfl⟩ := Int.eq_ofNat_of_zero_le h.1
  have e : wr .i64 (x : Int) = (x : Int) := by
    show IntKind.i64.wrap _ = _
    rw [IntKind.wrap_i64]
    omega
  rw [e]
  exact ⟨x % k, Nat.mod_lt _ hk, (Int.ofNat_tmod x k).symm⟩
end Go.Proofs.YtkfkbebinhkdlaaGreatDoor
/-
  Sheets: the fewest, chains, the falling order.
-/
set_option linter.unusedVariables false
set_option linter.unusedSimpArgs false
set_option maxRecDepth 100000
namespace Go.Proofs.YtkfkbebinhkdlaaGreatDoor.Sht
open Go.Vi
abbrev N : Nat × Nat := (1000000, 1)
theorem hN1 : 1000 ≤ N.1 := by decide
theorem wr_ok {x : Int} (h1 : -9223372036854775808 ≤ x) (h2 : x ≤ 9223372036854775807) : wr .i64 x = x := by
  have : wr .i64 x = (x + 9223372036854775808) % 18446744073709551616 - 9223372036854775808 := by
    simp only [wr, IntKind.wrap, IntKind.signed, IntKind.bits]
    simp
    split <;> omega
  rw [this]
  omega
theorem wr_succ {k : Nat} (h : k < 1000000) : wr .i64 ((k : Int) + 1) = ((k + 1 : Nat) : Int) := by
  rw [wr_ok (by omega) (by omega)]; omega
theorem idx_nat {α : Type} {l : List α} {k : Nat} (h : k < l.length) : idx l (k : Int) = some l[k] := by
  unfold idx
  rw [if_pos (by omega), Int.toNat_natCast, List.getElem?_eq_getElem h]
theorem idx_int {α : Type} {l : List α} {k : Nat} {i : Int} (hi : i = k) (h : k < l.length) : idx l i = some l[k] := by
  subst hi
  exact idx_nat h
theorem drop_cons {α : Type} {l : List α} {k : Nat} (h : k < l.length) : l.drop k = l[k] :: l.drop (k + 1) := List.drop_eq_getElem_cons h
theorem inB_nat {k n : Nat} (h : k < n) : inB (k : Int) n = true := by
  unfold inB
  simp [h]
theorem dlt_t {a b : Nat} (h : a < b) : decide ((a : Int) < (b : Int)) = true := decide_eq_true (by omega)
theorem dlt_f {a b : Nat} (h : ¬ a < b) : decide ((a : Int) < (b : Int)) = false := decide_eq_false (by omega)
theorem take_snoc {α : Type} {l : List α} {k : Nat} (h : k < l.length) : l.take (k + 1) = l.take k ++ [l[k]] := (List.take_append_getElem h).symm
/-- The first place at which something holds, or -1. -/
def fnd (q : Int → Bool) : Nat → List Int → Int
  | _, [] => -1
  | k, x :: l => if q x then (k : Int) else fnd q (k + 1) l
theorem fnd_bnd (q : Int → Bool) : ∀ (l : List Int) (k : Nat), fnd q k l = -1 ∧ (∀ x ∈ l, q x = false) ∨ (k ≤ fnd q k l ∧ fnd q k l < k + l.length ∧ ∃ x ∈ l, q x = true)
  | [], k => by simp [fnd]
  | x :: l, k => by
    unfold fnd
    by_cases h : q x = true
    · rw [if_pos h]
      exact .inr ⟨by omega, by simp; omega, x, by simp, h⟩
    · rw [if_neg h]
      rcases fnd_bnd q l (k + 1) with ⟨h1, h2⟩ | ⟨h1, h2, y, hy, hq⟩
      · exact .inl ⟨h1, fun y hy => (List.mem_cons.1 hy).elim (fun e => by rw [e]; simpa using h) (fun hy => h2 y hy)⟩
      · exact .inr ⟨by omega, by simp; omega, y, by simp [hy], hq⟩
theorem fnd_ge (q : Int → Bool) (l : List Int) (k : Nat) : (0 ≤ fnd q k l) ↔ ∃ x ∈ l, q x = true := by
  rcases fnd_bnd q l k with ⟨h1, h2⟩ | ⟨h1, h2, h3⟩
  · constructor
    · intro h; omega
    · rintro ⟨x, hx, hq⟩; rw [h2 x hx] at hq; cases hq
  · exact ⟨fun _ => h3, fun _ => by omega⟩
/-- A job's error. -/
def BadP (sz p : Int) : Prop := p < 1 ∨ sz < p
instance (sz p : Int) : Decidable (BadP sz p) := inferInstanceAs (Decidable (_ ∨ _))
def chk (sz : Int) (ps : List Int) : Int := if sz < 1 ∨ 24 < sz then 1 else if 8 < ps.length then 3 else if ∃ p ∈ ps, BadP sz p then 1 else 0
structure Job (sz : Int) (ps : List Int) : Prop where
  lo : 1 ≤ sz
  hi : sz ≤ 24
  len : ps.length ≤ 8
  ok : ∀ p ∈ ps, 1 ≤ p ∧ p ≤ sz
theorem chk_job {sz : Int} {ps : List Int} : chk sz ps = 0 ↔ Job sz ps := by
  unfold chk
  constructor
  · intro h
    split at h
    · omega
    · split at h
      · omega
      · split at h
        · omega
        · rename_i h1 h2 h3
          refine ⟨by omega, by omega, by omega, fun p hp => ?_⟩
          have : ¬ BadP sz p := fun hb => h3 ⟨p, hp, hb⟩
          unfold BadP at this
          omega
  · intro h
    have := h.lo
    have := h.hi
    have := h.len
    rw [if_neg (by omega), if_neg (by omega), if_neg]
    rintro ⟨p, hp, hb⟩
    have := h.ok p hp
    unfold BadP at hb
    omega
theorem bad_eq (n : Nat × Nat) (p sz : Int) : D35 n p sz = some (decide (BadP sz p)) := by
  unfold D35 BadP
  by_cases h : p < 1
  · rw [decide_eq_true h]; simp [h]
  · rw [decide_eq_false h]; simp [h]
theorem idxf_loop (n : Nat × Nat) (l : List Int) (sz : Int) (hs : l.length < 100000) : ∀ (m k : Nat), k ≤ l.length → l.length - k < m → DL43c35_1 n m l sz (l.length : Int) (k : Int) = some (fnd (fun p => decide (BadP sz p)) k (l.drop k))
  | 0, k, _, h => by omega
  | m + 1, k, hk, h => by
    rw [DL43c35_1_succ]
    unfold DF43c35_1
    by_cases hlt : k < l.length
    · have ih := idxf_loop n l sz hs m (k + 1) (by omega) (by omega)
      rw [dlt_t hlt, cond_true, idx_nat hlt, Option.bind_some, bad_eq, Option.bind_some, wr_succ (by omega), ih, drop_cons hlt]
      generalize l.drop (k + 1) = t at *
      generalize l[k] = x at *
      unfold fnd
      by_cases e : BadP sz x
      · simp [e]
      · simp only [e, decide_false, cond_false, Bool.false_eq_true, if_false]
        cases t <;> rfl
    · rw [dlt_f hlt, cond_false, List.drop_of_length_le (by omega)]
      rfl
theorem anyb_eq {n : Nat × Nat} (l : List Int) (sz : Int) (hs : l.length < n.1) (hs2 : l.length < 100000) : D34c35 n l sz = some (decide (∃ p ∈ l, BadP sz p)) := by
  unfold D34c35 D43c35
  have := idxf_loop n l sz hs2 n.1 0 (by omega) (by omega)
  rw [show ((0 : Nat) : Int) = 0 from rfl, List.drop_zero] at this
  rw [this, Option.bind_some]
  congr 1
  apply decide_eq_decide.2
  have := fnd_ge (fun p => decide (BadP sz p)) l 0
  simp only [decide_eq_true_eq] at this
  exact this
theorem Check_eq {n : Nat × Nat} (hn : 1000 ≤ n.1) (sz : Int) (ps : List Int) : D22 n sz ps = some (chk sz ps) := by
  unfold D22 chk
  by_cases h1 : sz < 1
  · rw [decide_eq_true h1, if_pos (.inl h1)]; rfl
  · rw [decide_eq_false h1]
    by_cases h2 : 24 < sz
    · rw [if_pos (.inr h2), decide_eq_true (show sz > 24 from h2)]; rfl
    · rw [if_neg (by omega), decide_eq_false (show ¬ sz > 24 from h2)]
      simp only [beq_self_eq_true, cond_true, Option.bind_some, cond_false]
      by_cases h3 : 8 < ps.length
      · rw [if_pos h3, decide_eq_true (show (ps.length : Int) > 8 by omega), cond_true]
      · rw [if_neg h3, decide_eq_false (show ¬ (ps.length : Int) > 8 by omega), cond_false, anyb_eq ps sz (by omega) (by omega), Option.bind_some]
        by_cases h4 : ∃ p ∈ ps, BadP sz p
        · rw [if_pos h4, decide_eq_true h4, cond_true]
        · rw [if_neg h4, decide_eq_false h4, cond_false]
/-- How many sheets a plan has. -/
def mny (l : List Int) : Int := l.foldl (fun a s => max a (s + 1)) 0
/-- How much of a sheet is used. -/
def usd : List Int → List Int → Int → Int
  | p :: ps, x :: l, s => (if x = s then p else 0) + usd ps l s
  | _, _, _ => 0
theorem fold_mny : ∀ (l : List Int) (a : Int), a ≤ l.foldl (fun a s => max a (s + 1)) a ∧ (∀ x ∈ l, x < l.foldl (fun a s => max a (s + 1)) a)
  | [], a => by simp
  | x :: l, a => by
    rw [List.foldl_cons]
    obtain ⟨h1, h2⟩ := fold_mny l (max a (x + 1))
    refine ⟨by omega, fun y hy => ?_⟩
    rcases List.mem_cons.1 hy with rfl | hy
    · omega
    · exact h2 y hy
theorem mny_nn (l : List Int) : 0 ≤ mny l := (fold_mny l 0).1
theorem mny_lt {l : List Int} {x : Int} (h : x ∈ l) : x < mny l := (fold_mny l 0).2 x h
theorem mny_snoc (l : List Int) (x : Int) : mny (l ++ [x]) = max (mny l) (x + 1) := by simp [mny, List.foldl_append]
theorem usd_snoc (s x p : Int) : ∀ {ps l : List Int}, ps.length = l.length → usd (ps ++ [p]) (l ++ [x]) s = usd ps l s + if x = s then p else 0
  | [], [], _ => by simp [usd]
  | q :: ps, y :: l, h => by
    simp only [List.cons_append, usd]
    rw [usd_snoc s x p (by simpa using h)]
    omega
  | [], _ :: _, h => by simp at h
  | _ :: _, [], h => by simp at h
theorem usd_none {s : Int} : ∀ {ps l : List Int}, s ∉ l → usd ps l s = 0
  | [], [], _ => rfl
  | [], _ :: _, _ => rfl
  | _ :: _, [], _ => rfl
  | q :: ps, y :: l, h => by
    simp only [List.mem_cons, not_or] at h
    simp only [usd, if_neg (fun e => h.1 (Eq.symm e)), usd_none h.2]
    omega
/-- The error of sheets' order. -/
def oer : Int → List Int → Int
  | _, [] => 0
  | m, x :: l => if x < 0 then 2 else if m < x then 7 else oer (max m (x + 1)) l
/-- What is left of each sheet. -/
def lf (sz : Int) (ps l : List Int) : List Int := (List.range (mny l).toNat).map fun s : Nat => sz - usd ps l (s : Int)
theorem lf_len (sz : Int) (ps l : List Int) : ((lf sz ps l).length : Int) = mny l := by
  have := mny_nn l
  simp [lf]
  omega
theorem lf_get {sz : Int} {ps l : List Int} {s : Nat} (h : s < (lf sz ps l).length) : (lf sz ps l)[s] = sz - usd ps l (s : Int) := by simp [lf]
theorem lf_step (sz p x : Int) {ps l : List Int} (hl : ps.length = l.length) (h0 : 0 ≤ x) (h1 : x ≤ mny l) :
    lf sz (ps ++ [p]) (l ++ [x]) = (if x = mny l then lf sz ps l ++ [sz] else lf sz ps l).set x.toNat (sz - usd ps l x - p) := by
  have hm := mny_nn l
  have hll := lf_len sz ps l
  apply List.ext_getElem
  · have := lf_len sz (ps ++ [p]) (l ++ [x])
    rw [mny_snoc] at this
    rw [List.length_set]
    split
    · simp only [List.length_append, List.length_cons, List.length_nil]; omega
    · omega
  · intro s h2 h3
    rw [lf_get h2, usd_snoc _ _ _ hl, List.getElem_set]
    by_cases e : x.toNat = s
    · rw [if_pos e, if_pos (show x = (s : Int) by omega), show (s : Int) = x by omega]
      omega
    · rw [if_neg e, if_neg (show ¬ x = (s : Int) by omega)]
      rw [List.length_set] at h3
      split at h3
      · rename_i hx
        simp only [List.length_append, List.length_cons, List.length_nil] at h3
        have h4 : s < (lf sz ps l).length := by omega
        simp only [if_pos hx]
        rw [List.getElem_append_left h4, lf_get h4]
        omega
      · rename_i hx
        simp only [if_neg hx]
        rw [lf_get h3]
        omega
/-- A plan that is one. -/
structure Pln (sz : Int) (ps l : List Int) : Prop where
  job : Job sz ps
  len : l.length = ps.length
  ord : oer 0 l = 0
  fit : ∀ x ∈ l, usd ps l x ≤ sz
theorem oer_bnd : ∀ (l : List Int) (m : Int), 0 ≤ m → oer m l = 0 → (∀ x ∈ l, 0 ≤ x ∧ x < m + l.length) ∧ l.foldl (fun a s => max a (s + 1)) m ≤ m + l.length
  | [], m, _, _ => by simp
  | x :: l, m, hm, h => by
    unfold oer at h
    split at h
    · omega
    · split at h
      · omega
      · obtain ⟨h1, h2⟩ := oer_bnd l _ (by omega) h
        rw [List.foldl_cons, List.length_cons]
        refine ⟨fun y hy => ?_, by omega⟩
        rcases List.mem_cons.1 hy with rfl | hy
        · omega
        · have := h1 y hy
          omega
theorem Pln.rng {sz : Int} {ps l : List Int} (h : Pln sz ps l) : ∀ x ∈ l, 0 ≤ x ∧ x ≤ 100000 := fun x hx => by
  have := (oer_bnd l 0 (by omega) h.ord).1 x hx
  have := h.job.len
  have := h.len
  omega
theorem Pln.mny {sz : Int} {ps l : List Int} (h : Pln sz ps l) : mny l ≤ 8 := by
  have h1 := (oer_bnd l 0 (by omega) h.ord).2
  have := h.job.len
  have := h.len
  unfold Proofs.YtkfkbebinhkdlaaGreatDoor.Sht.mny
  omega
theorem rep_eq : ∀ k ≤ 8, D44 N [-1] ((k : Nat) : Int) = some (List.replicate k (-1))
  | 0, _ => by kernel_rfl
  | 1, _ => by kernel_rfl
  | 2, _ => by kernel_rfl
  | 3, _ => by kernel_rfl
  | 4, _ => by kernel_rfl
  | 5, _ => by kernel_rfl
  | 6, _ => by kernel_rfl
  | 7, _ => by kernel_rfl
  | 8, _ => by kernel_rfl
  | k + 9, h => by omega
theorem sub_len : ∀ {a b : List Int}, a.Nodup → (∀ x ∈ a, x ∈ b) → a.length ≤ b.length
  | [], _, _, _ => by simp
  | x :: a, b, hn, h => by
    rw [List.nodup_cons] at hn
    have hp := List.perm_cons_erase (h x (by simp))
    have := sub_len (b := b.erase x) hn.2 (fun y hy => (List.mem_erase_of_ne (fun e => hn.1 (by rw [← e]; exact hy))).2 (h y (by simp [hy])))
    have e := hp.length_eq
    simp only [List.length_cons] at e ⊢
    omega
/-- What has been read of groups: where each piece is, and which have been met. -/
structure Rd (P : Nat) (pre : List (List Int)) (out met : List Int) : Prop where
  len : out.length = P
  rng : ∀ x ∈ met, 0 ≤ x ∧ x < P
  nodup : met.Nodup
  pos : ∀ i (h : i < out.length), 0 ≤ out[i] ↔ (i : Int) ∈ met
  no : ∀ i (h : i < out.length), ¬ 0 ≤ out[i] → out[i] = -1
  lt : ∀ i (h : i < out.length), out[i] < pre.length
  grp : ∀ i (h : i < out.length) j (hj : j < pre.length), (i : Int) ∈ pre[j] ↔ out[i] = j
theorem Rd.le {P : Nat} {pre : List (List Int)} {out met : List Int} (h : Rd P pre out met) : met.length ≤ P := by
  have := sub_len (b := (List.range P).map fun i : Nat => (i : Int)) h.nodup (fun x hx => by
    have := h.rng x hx
    exact List.mem_map.2 ⟨x.toNat, by simp; omega, by omega⟩)
  simpa using this
def rm (sz : Int) (L : List Int) (s : Nat) : Int := L.getD s sz
def up (sz : Int) (L : List Int) (s : Nat) (p : Int) : List Int := (if s = L.length then L ++ [sz] else L).set s (rm sz L s - p)
def pl (sz : Int) (mo : Nat) : List Int → List Int → List Int → List (List Int)
  | [], b, _ => [b]
  | p :: r, b, L => (List.range' 0 (min (L.length + 1) mo)).flatMap fun s => if p ≤ rm sz L s then pl sz mo r (b ++ [(s : Int)]) (up sz L s p) else []
/-- A function handed all plans, as long as it returns true. -/
def fv {V : Type} (c : List Int → V → Bool × V) : List (List Int) → V → Bool × V
  | [], v => (true, v)
  | q :: r, v => if (c q v).1 then fv c r (c q v).2 else (false, (c q v).2)
theorem fv_app {V : Type} (c : List Int → V → Bool × V) (b : List (List Int)) : ∀ (a : List (List Int)) (v : V), fv c (a ++ b) v = if (fv c a v).1 then fv c b (fv c a v).2 else (false, (fv c a v).2)
  | [], v => by simp [fv]
  | q :: r, v => by
    have e1 : ∀ l, fv c (q :: l) v = if (c q v).1 then fv c l (c q v).2 else (false, (c q v).2) := fun _ => rfl
    rw [List.cons_append, e1, e1]
    by_cases h : (c q v).1 = true
    · rw [if_pos h, if_pos h, fv_app c b r]
    · rw [if_neg h, if_neg h]; rfl
section
variable {V : Type}
abbrev SR (V : Type) := Unit × V × Unit
abbrev FN (V : Type) := Int → List Int → Int → Int → V → List Int → List Int → Option (SR V)
def lpF (b x f2 : FN V) : FN V := fun size0 pieces1 most2 i10 v plan8 left9 =>
    (bif inB i10 plan8.length then (idx plan8 i10).bind fun x21' =>
      (bif inB i10 plan8.length then (idx plan8 i10).bind fun x22' =>
        (bif inB i10 (plan8.set (Int.toNat i10) (wr .i64 (x21' + 1))).length then (idx (plan8.set (Int.toNat i10) (wr .i64 (x21' + 1))) i10).bind fun x23' =>
          ((bif (decide (x23' ≥ most2) == false) then ((bif (decide (x23' > 0) == true) then (bif inB (wr .i64 (x23' - 1)) left9.length then (idx left9 (wr .i64 (x23' - 1))).bind fun x24' =>
                    some (x24' == size0)
                  else none)
                else some false)).bind fun b25' =>
              some b25'
            else some true)).bind fun b26' =>
          (bif b26' then (bif inB i10 (plan8.set (Int.toNat i10) (wr .i64 (x21' + 1))).length then (idx (plan8.set (Int.toNat i10) (wr .i64 (x21' + 1))) i10).bind fun x27' =>
              b size0 pieces1 most2 i10 v ((plan8.set (Int.toNat i10) (wr .i64 (x21' + 1))).set (Int.toNat i10) (-1)) left9
            else none)
          else (bif inB x23' left9.length then (idx left9 x23').bind fun x28' =>
              (idx pieces1 i10).bind fun x29' =>
              (bif decide (x28' ≥ x29') then (bif inB x23' left9.length then (idx left9 x23').bind fun x30' =>
                  (idx pieces1 i10).bind fun x31' =>
                  (bif inB x23' left9.length then (idx left9 x23').bind fun x32' =>
                    x size0 pieces1 most2 (wr .i64 (i10 + 1)) v (plan8.set (Int.toNat i10) (wr .i64 (x21' + 1))) (left9.set (Int.toNat x23') (wr .i64 (x30' - x31')))
                  else none)
                else none)
              else f2 size0 pieces1 most2 i10 v (plan8.set (Int.toNat i10) (wr .i64 (x21' + 1))) left9)
            else none))
        else none)
      else none)
    else none)
def LP (b x : FN V) : Nat → FN V
  | 0 => fun _ _ _ _ _ _ _ => none
  | q + 1 => lpF b x (LP b x q)
def bkF (x : FN V) : FN V := fun size0 pieces1 most2 i10 v plan8 left9 =>
    (bif decide (wr .i64 (i10 - 1) < 0) then some ((), v, ())
    else (bif inB (wr .i64 (i10 - 1)) plan8.length then (idx plan8 (wr .i64 (i10 - 1))).bind fun x4' =>
        (bif inB x4' left9.length then (idx left9 x4').bind fun x5' =>
          (idx pieces1 (wr .i64 (i10 - 1))).bind fun x6' =>
          (bif inB x4' left9.length then (idx left9 x4').bind fun x7' =>
            x size0 pieces1 most2 (wr .i64 (i10 - 1)) v plan8 (left9.set (Int.toNat x4') (wr .i64 (x5' + x6')))
          else none)
        else none)
      else none))
def nxF (C : List Int → V → Option (Bool × List Int × V × Unit)) (q0 : Nat) (b x : FN V) : FN V := fun size0 pieces1 most2 i10 v plan8 left9 =>
    (bif (i10 == (pieces1.length : Int)) then (C plan8 v).bind fun r20' =>
      (bif Nat.beq r20'.2.1.length plan8.length then (bif (!r20'.1) then some ((), r20'.2.2.1, ())
        else b size0 pieces1 most2 i10 r20'.2.2.1 r20'.2.1 left9)
      else none)
    else LP b x q0 size0 pieces1 most2 i10 v plan8 left9)
def GB (C : List Int → V → Option (Bool × List Int × V × Unit)) (q0 : Nat) : Nat → FN V × FN V
  | 0 => ((fun _ _ _ _ _ _ _ => none), (fun _ _ _ _ _ _ _ => none))
  | m + 1 => (bkF (GB C q0 m).2, nxF C q0 (GB C q0 m).1 (GB C q0 m).2)
def srch (C : List Int → V → Option (Bool × List Int × V × Unit)) (q0 : Nat) (size0 : Int) (pieces1 : List Int) (most2 : Int) (cp : V) (r1' r2' : List Int) : Option (SR V) :=
    (bif (0 == (pieces1.length : Int)) then (C r1' cp).bind fun r3' =>
      (bif Nat.beq r3'.2.1.length r1'.length then (bif (!r3'.1) then some ((), r3'.2.2.1, ())
        else (GB C q0 q0).1 size0 pieces1 most2 0 r3'.2.2.1 r3'.2.1 r2')
      else none)
    else LP (GB C q0 q0).1 (GB C q0 q0).2 q0 size0 pieces1 most2 0 cp r1' r2')
theorem idx_app {α : Type} (b : List α) (t : α) (R : List α) : idx (b ++ t :: R) (b.length : Int) = some t := by
  rw [idx_nat (by simp)]
  simp
theorem set_app {α : Type} (b : List α) (t y : α) (R : List α) : (b ++ t :: R).set (Int.toNat (b.length : Int)) y = b ++ y :: R := by
  rw [Int.toNat_natCast]
  simp [List.set_append]
def fil (sz : Int) (mo : Nat) (L : List Int) : List Int := L ++ List.replicate (mo - L.length) sz
theorem fil_len {sz : Int} {mo : Nat} {L : List Int} (h : L.length ≤ mo) : (fil sz mo L).length = mo := by simp [fil]; omega
theorem fil_get {sz : Int} {mo : Nat} {L : List Int} {s : Nat} (hs : s < (fil sz mo L).length) : (fil sz mo L)[s] = rm sz L s := by
  unfold fil rm at *
  by_cases h : s < L.length
  · rw [List.getElem_append_left h, List.getD_eq_getElem?_getD, List.getElem?_eq_getElem h, Option.getD_some]
  · rw [List.getElem_append_right (by omega), List.getElem_replicate, List.getD_eq_getElem?_getD, List.getElem?_eq_none (by omega), Option.getD_none]
theorem fil_up {sz : Int} {mo : Nat} {L : List Int} {s : Nat} (p : Int) (h1 : s ≤ L.length) (h2 : s < mo) : (fil sz mo L).set s (rm sz L s - p) = fil sz mo (up sz L s p) := by
  unfold up
  generalize rm sz L s - p = y
  unfold fil
  by_cases h : s = L.length
  · rw [if_pos h]
    subst h
    obtain ⟨k, hk⟩ : ∃ k, mo - L.length = k + 1 := ⟨mo - L.length - 1, by omega⟩
    rw [hk, List.replicate_succ, List.set_append, if_neg (by omega), Nat.sub_self, List.set_cons_zero, List.set_append, if_neg (by omega), Nat.sub_self, List.set_cons_zero]
    simp only [List.length_append, List.length_cons, List.length_nil, List.append_assoc, List.singleton_append]
    rw [show mo - (L.length + (0 + 1)) = k by omega]
  · rw [if_neg h, List.set_append, if_pos (by omega), List.length_set]
theorem fil_back {sz : Int} {mo : Nat} {L : List Int} {s : Nat} (p : Int) (h1 : s ≤ L.length) (h2 : s < mo) (h3 : L.length ≤ mo) : (fil sz mo (up sz L s p)).set s (rm sz L s) = fil sz mo L := by
  rw [← fil_up p h1 h2, List.set_set]
  have hs : s < (fil sz mo L).length := by rw [fil_len h3]; exact h2
  rw [← fil_get hs]
  simp
theorem up_len {sz : Int} {L : List Int} {s : Nat} (p : Int) (h1 : s ≤ L.length) : (up sz L s p).length = max L.length (s + 1) := by
  unfold up
  rw [List.length_set]
  split
  · simp; omega
  · omega
theorem rm_get {sz : Int} {L : List Int} {s : Nat} (hs : s < L.length) : rm sz L s = L[s] := by unfold rm; rw [List.getD_eq_getElem?_getD, List.getElem?_eq_getElem hs, Option.getD_some]
theorem up_get {sz : Int} {L : List Int} {s i : Nat} (p : Int) (hi : i < (up sz L s p).length) : (up sz L s p)[i] = if s = i then rm sz L s - p else rm sz L i := by
  unfold up at hi ⊢
  rw [List.getElem_set]
  split
  · rfl
  · rename_i hne
    rw [List.length_set] at hi
    split
    · rename_i he
      simp only [if_pos he, List.length_append, List.length_cons, List.length_nil] at hi
      rw [List.getElem_append_left (by omega)]
      exact (rm_get _).symm
    · rename_i he
      simp only [if_neg he] at hi
      exact (rm_get _).symm
theorem rm_up {sz : Int} {L : List Int} {s : Nat} (p : Int) (h1 : s ≤ L.length) : rm sz (up sz L s p) s = rm sz L s - p := by
  have h := up_len (sz := sz) p h1
  have hs : s < (up sz L s p).length := by omega
  rw [rm_get hs, up_get p hs, if_pos rfl]
theorem up_mem {sz : Int} {L : List Int} {s : Nat} {p : Int} (h1 : s ≤ L.length) : ∀ x ∈ up sz L s p, x = rm sz L s - p ∨ x ∈ L := fun x hx => by
  obtain ⟨i, hi, e⟩ := List.getElem_of_mem hx
  have hl := up_len (sz := sz) p h1
  rw [up_get p hi] at e
  split at e
  · exact .inl e.symm
  · rename_i hne
    right
    rw [rm_get (by omega)] at e
    rw [← e]
    exact List.getElem_mem _
theorem rm_rng {sz : Int} {L : List Int} (hL : ∀ x ∈ L, 0 ≤ x ∧ x < sz) (h : 0 ≤ sz) (s : Nat) : 0 ≤ rm sz L s ∧ rm sz L s ≤ sz := by
  unfold rm
  by_cases hs : s < L.length
  · rw [List.getD_eq_getElem?_getD, List.getElem?_eq_getElem hs, Option.getD_some]
    have := hL _ (List.getElem_mem hs)
    omega
  · rw [List.getD_eq_getElem?_getD, List.getElem?_eq_none (by omega), Option.getD_none]
    omega
theorem up_rng {sz : Int} {L : List Int} {s : Nat} {p : Int} (hL : ∀ x ∈ L, 0 ≤ x ∧ x < sz) (h : 0 ≤ sz) (h1 : s ≤ L.length) (hp : 1 ≤ p) (hf : p ≤ rm sz L s) : ∀ x ∈ up sz L s p, 0 ≤ x ∧ x < sz := fun x hx => by
  have := rm_rng hL h s
  rcases up_mem h1 x hx with e | e
  · omega
  · exact hL x e
structure SI (sz : Int) (mo : Nat) (ps : List Int) (b L : List Int) : Prop where
  job : Job sz ps
  le : b.length ≤ ps.length
  lm : L.length ≤ mo
  lb : L.length ≤ b.length
  rng : ∀ x ∈ L, 0 ≤ x ∧ x < sz
  mo : mo ≤ 1000
theorem SI.child {sz : Int} {mo : Nat} {ps b L : List Int} (h : SI sz mo ps b L) (hb : b.length < ps.length) {s : Nat} (h1 : s ≤ L.length) (h2 : s < mo) (hf : ps[b.length] ≤ rm sz L s) : SI sz mo ps (b ++ [(s : Int)]) (up sz L s ps[b.length]) := by
  have hl := up_len (sz := sz) ps[b.length] h1
  have := h.lm
  have := h.lb
  have := h.job.lo
  have hp := h.job.ok _ (List.getElem_mem hb)
  exact ⟨h.job, by simp; omega, by omega, by simp; omega, up_rng h.rng (by omega) h1 hp.1 hf, h.mo⟩
variable {b1 x1 f2 : FN V} {sz : Int} {mo : Nat} {ps b L : List Int}
theorem lp_end (h : SI sz mo ps b L) (hb : b.length < ps.length) (v : V) (R : List Int) :
    lpF b1 x1 f2 sz ps mo (b.length : Int) v (b ++ (((min (L.length + 1) mo : Nat) : Int) - 1) :: R) (fil sz mo L) = b1 sz ps mo (b.length : Int) v (b ++ (-1) :: R) (fil sz mo L) := by
  have := h.mo
  have := h.lm
  have h8 := h.job.len
  have hlb := h.lb
  have hfl := fil_len (sz := sz) h.lm
  generalize hM : min (L.length + 1) mo = M
  unfold lpF
  rw [inB_nat (by simp), cond_true, idx_app, Option.bind_some, cond_true, Option.bind_some, wr_ok (by omega) (by omega), show (M : Int) - 1 + 1 = M by omega, set_app, inB_nat (by simp), cond_true, idx_app, Option.bind_some, cond_true, Option.bind_some, set_app]
  by_cases e : mo ≤ M
  · rw [decide_eq_true (show (M : Int) ≥ mo by omega)]
    simp only [show (true == false) = false from rfl, cond_false, Option.bind_some, cond_true]
  · have hM1 : M = L.length + 1 := by omega
    rw [decide_eq_false (show ¬ (M : Int) ≥ mo by omega), decide_eq_true (show (M : Int) > 0 by omega), wr_ok (by omega) (by omega), show (M : Int) - 1 = (L.length : Int) by omega, inB_nat (by omega), idx_nat (by omega), fil_get (by omega)]
    have : rm sz L L.length = sz := by unfold rm; rw [List.getD_eq_getElem?_getD, List.getElem?_eq_none (by omega), Option.getD_none]
    rw [this]
    simp only [beq_self_eq_true, cond_true, Option.bind_some]
/-- One sheet, which is used or the next one: whether the piece has room. -/
theorem lp_one (h : SI sz mo ps b L) (hb : b.length < ps.length) (v : V) (R : List Int) {s : Nat} (h1 : s ≤ L.length) (h2 : s < mo) :
    lpF b1 x1 f2 sz ps mo (b.length : Int) v (b ++ ((s : Int) - 1) :: R) (fil sz mo L) =
      if ps[b.length] ≤ rm sz L s then x1 sz ps mo ((b.length + 1 : Nat) : Int) v (b ++ (s : Int) :: R) (fil sz mo (up sz L s ps[b.length])) else f2 sz ps mo (b.length : Int) v (b ++ (s : Int) :: R) (fil sz mo L) := by
  have := h.mo
  have := h.lm
  have h8 := h.job.len
  have hlb := h.lb
  have hlo := h.job.lo
  have hhi := h.job.hi
  have hfl := fil_len (sz := sz) h.lm
  have hp := h.job.ok _ (List.getElem_mem hb)
  have hr := rm_rng h.rng (by omega) s
  unfold lpF
  rw [inB_nat (by simp), cond_true, idx_app, Option.bind_some, cond_true, Option.bind_some, wr_ok (by omega) (by omega), show (s : Int) - 1 + 1 = s by omega, set_app, inB_nat (by simp), cond_true, idx_app, Option.bind_some, cond_true, Option.bind_some, set_app]
  rw [decide_eq_false (show ¬ (s : Int) ≥ mo by omega)]
  have hc : ((bif (decide ((s : Int) > 0) == true) then (bif inB (wr .i64 ((s : Int) - 1)) (fil sz mo L).length then (idx (fil sz mo L) (wr .i64 ((s : Int) - 1))).bind fun x24' => some (x24' == sz) else none) else some false)) = some false := by
    by_cases e : s = 0
    · subst e; rfl
    · rw [decide_eq_true (show (s : Int) > 0 by omega), wr_ok (by omega) (by omega), show (s : Int) - 1 = ((s - 1 : Nat) : Int) by omega, inB_nat (by omega), idx_nat (by omega), fil_get (by omega)]
      simp only [beq_self_eq_true, cond_true, Option.bind_some]
      have hs : s - 1 < L.length := by omega
      have e2 : rm sz L (s - 1) = L[s - 1] := by unfold rm; rw [List.getD_eq_getElem?_getD, List.getElem?_eq_getElem hs, Option.getD_some]
      have := h.rng _ (List.getElem_mem hs)
      rw [e2, beq_false_of_ne (by omega)]
  simp only [beq_self_eq_true, cond_true]
  rw [hc]
  simp only [Option.bind_some, cond_false]
  rw [inB_nat (by omega : s < (fil sz mo L).length), idx_nat (by omega : s < (fil sz mo L).length), fil_get (by omega), idx_nat hb]
  simp only [Option.bind_some, cond_true]
  by_cases e : ps[b.length] ≤ rm sz L s
  · rw [decide_eq_true (show rm sz L s ≥ ps[b.length] from e), if_pos e, cond_true, wr_ok (x := rm sz L s - ps[b.length]) (by omega) (by omega), Int.toNat_natCast, fil_up _ h1 h2, wr_succ (by omega)]
  · rw [decide_eq_false (show ¬ rm sz L s ≥ ps[b.length] from e), if_neg e, cond_false]
def fu : Nat → Nat → Nat
  | 0, _ => 1
  | r + 1, i => 1 + (i + 1) * (2 + fu r (i + 1))
/-- What a function does that is handed plans and hands them back. -/
def Pure (C : List Int → V → Option (Bool × List Int × V × Unit)) (c : List Int → V → Bool × V) : Prop := ∀ (q : List Int) (v : V), q.length ≤ 8 → C q v = some ((c q v).1, q, (c q v).2, ())
variable {C : List Int → V → Option (Bool × List Int × V × Unit)} {c : List Int → V → Bool × V} {q0 : Nat}
theorem srch_leaf (hC : Pure C c) (h : SI sz mo ps b L) (hb : b.length = ps.length) (v : V) (m : Nat) :
    (GB C q0 (m + 1)).2 sz ps mo (b.length : Int) v b (fil sz mo L) = if (fv c [b] v).1 then (GB C q0 m).1 sz ps mo (b.length : Int) (fv c [b] v).2 b (fil sz mo L) else some ((), (fv c [b] v).2, ()) := by
  show nxF C q0 _ _ sz ps mo (b.length : Int) v b (fil sz mo L) = _
  unfold nxF
  have := h.job.len
  rw [show ((b.length : Int) == (ps.length : Int)) = true by simp [hb], cond_true, hC b v (by omega), Option.bind_some, show Nat.beq b.length b.length = true by simp, cond_true]
  unfold fv
  by_cases e : (c b v).1 = true
  · simp only [e, Bool.not_true, cond_false, if_true, fv]
  · simp only [Bool.not_eq_true] at e
    simp only [e, Bool.not_false, cond_true, Bool.false_eq_true, if_false]
/-- Back from a piece's sheet. -/
theorem srch_back (h : SI sz mo ps b L) (hb : b.length < ps.length) (v : V) (R : List Int) {s : Nat} (h1 : s ≤ L.length) (h2 : s < mo) (hf : ps[b.length] ≤ rm sz L s) (m : Nat) :
    (GB C q0 (m + 1)).1 sz ps mo ((b.length + 1 : Nat) : Int) v (b ++ (s : Int) :: R) (fil sz mo (up sz L s ps[b.length])) = (GB C q0 m).2 sz ps mo (b.length : Int) v (b ++ (s : Int) :: R) (fil sz mo L) := by
  have h8 := h.job.len
  have hlo := h.job.lo
  have hhi := h.job.hi
  have hlm := h.lm
  have hp := h.job.ok _ (List.getElem_mem hb)
  have hr := rm_rng h.rng (by omega) s
  have hul := up_len (sz := sz) ps[b.length] h1
  have hfl := fil_len (sz := sz) (mo := mo) (L := up sz L s ps[b.length]) (by omega)
  show bkF _ sz ps mo _ v _ _ = _
  unfold bkF
  rw [wr_ok (by omega) (by omega), show ((b.length + 1 : Nat) : Int) - 1 = (b.length : Int) by omega, decide_eq_false (by omega), cond_false, inB_nat (by simp), cond_true, idx_app, Option.bind_some, inB_nat (by omega), cond_true, idx_nat (by omega : s < (fil sz mo (up sz L s ps[b.length])).length), Option.bind_some, idx_nat hb, Option.bind_some, cond_true, Option.bind_some, fil_get (by omega), rm_up _ h1, wr_ok (by omega) (by omega), Int.toNat_natCast, show rm sz L s - ps[b.length] + ps[b.length] = rm sz L s by omega, fil_back _ h1 h2 hlm]
theorem srch_node (hC : Pure C c) (hq : 1100 ≤ q0) : ∀ (r b L : List Int), SI sz mo ps b L → ps.drop b.length = r → ∀ v, ∃ K, K ≤ fu r.length b.length ∧ ∀ m,
    (GB C q0 (m + K)).2 sz ps mo (b.length : Int) v (b ++ List.replicate (ps.length - b.length) (-1)) (fil sz mo L) = if (fv c (pl sz mo r b L) v).1 then (GB C q0 m).1 sz ps mo (b.length : Int) (fv c (pl sz mo r b L) v).2 (b ++ List.replicate (ps.length - b.length) (-1)) (fil sz mo L) else some ((), (fv c (pl sz mo r b L) v).2, ()) := by
  intro r
  induction r with
  | nil =>
    intro b L h hr v
    have hle := h.le
    have hb : b.length = ps.length := by have := List.drop_eq_nil_iff.1 hr; omega
    refine ⟨1, Nat.le_refl _, fun m => ?_⟩
    rw [hb, Nat.sub_self, List.replicate_zero, List.append_nil, ← hb]
    exact srch_leaf hC h hb v m
  | cons p r ih =>
    intro b L h hr v
    have hb : b.length < ps.length := by
      rcases Nat.lt_or_ge b.length ps.length with h | h
      · exact h
      · rw [List.drop_eq_nil_of_le h] at hr; cases hr
    have hp : ps[b.length] = p ∧ ps.drop (b.length + 1) = r := by
      rw [drop_cons hb] at hr
      exact ⟨(List.cons.inj hr).1, (List.cons.inj hr).2⟩
    obtain ⟨hp1, hp2⟩ := hp
    have hmo := h.mo
    have hlm := h.lm
    have hlb := h.lb
    have h8 := h.job.len
    -- the loop from some sheet on
    have loop : ∀ (d s : Nat), s + d = min (L.length + 1) mo → ∀ (v : V) (q : Nat), d < q → ∃ K, K ≤ d * (2 + fu r.length (b.length + 1)) ∧ ∀ m,
        LP (GB C q0 (m + K)).1 (GB C q0 (m + K)).2 q sz ps mo (b.length : Int) v (b ++ ((s : Int) - 1) :: List.replicate (ps.length - (b.length + 1)) (-1)) (fil sz mo L) =
          if (fv c ((List.range' s d).flatMap fun s => if p ≤ rm sz L s then pl sz mo r (b ++ [(s : Int)]) (up sz L s p) else []) v).1 then (GB C q0 m).1 sz ps mo (b.length : Int) (fv c ((List.range' s d).flatMap fun s => if p ≤ rm sz L s then pl sz mo r (b ++ [(s : Int)]) (up sz L s p) else []) v).2 (b ++ (-1) :: List.replicate (ps.length - (b.length + 1)) (-1)) (fil sz mo L)
          else some ((), (fv c ((List.range' s d).flatMap fun s => if p ≤ rm sz L s then pl sz mo r (b ++ [(s : Int)]) (up sz L s p) else []) v).2, ()) := by
      intro d
      induction d with
      | zero =>
        intro s hs v q hq1
        obtain ⟨q, rfl⟩ : ∃ k, q = k + 1 := ⟨q - 1, by omega⟩
        refine ⟨0, Nat.zero_le _, fun m => ?_⟩
        have := lp_end (b1 := (GB C q0 m).1) (x1 := (GB C q0 m).2) (f2 := LP (GB C q0 m).1 (GB C q0 m).2 q) h hb v (List.replicate (ps.length - (b.length + 1)) (-1))
        rw [← hs, Nat.add_zero] at this
        exact this
      | succ d ihd =>
        intro s hs v q hq1
        obtain ⟨q, rfl⟩ : ∃ k, q = k + 1 := ⟨q - 1, by omega⟩
        have h1 : s ≤ L.length := by omega
        have h2 : s < mo := by omega
        rw [List.range'_succ, List.flatMap_cons]
        have one := fun m => lp_one (b1 := (GB C q0 m).1) (x1 := (GB C q0 m).2) (f2 := LP (GB C q0 m).1 (GB C q0 m).2 q) h hb v (List.replicate (ps.length - (b.length + 1)) (-1)) h1 h2
        rw [hp1] at one
        by_cases hf : p ≤ rm sz L s
        · have hch := h.child hb h1 h2 (by rw [hp1]; exact hf)
          rw [hp1] at hch
          obtain ⟨Kc, hKc, hc⟩ := ih (b ++ [(s : Int)]) (up sz L s p) hch (by simp only [List.length_append, List.length_cons, List.length_nil]; exact hp2) v
          simp only [List.length_append, List.length_cons, List.length_nil, Nat.zero_add, List.append_assoc, List.singleton_append] at hc hKc
          rw [if_pos hf]
          simp only [if_pos hf] at one
          generalize hQ : pl sz mo r (b ++ [(s : Int)]) (up sz L s p) = Q at *
          by_cases hgo : (fv c Q v).1 = true
          · obtain ⟨K2, hK2, hl⟩ := ihd (s + 1) (by omega) (fv c Q v).2 q0 (by omega)
            refine ⟨K2 + 2 + Kc, ?_, fun m => ?_⟩
            · rw [Nat.add_mul, Nat.one_mul]; omega
            · refine (one _).trans ?_
              have := hc (m + (K2 + 2))
              rw [show m + (K2 + 2) + Kc = m + (K2 + 2 + Kc) by omega] at this
              rw [this, if_pos hgo, show m + (K2 + 2) = (m + K2 + 1) + 1 by omega]
              have hbk := srch_back (C := C) (q0 := q0) h hb (fv c Q v).2 (List.replicate (ps.length - (b.length + 1)) (-1)) h1 h2 (by rw [hp1]; exact hf) (m + K2 + 1)
              rw [hp1] at hbk
              rw [hbk]
              have hx : (GB C q0 (m + K2 + 1)).2 = nxF C q0 (GB C q0 (m + K2)).1 (GB C q0 (m + K2)).2 := rfl
              rw [hx]
              unfold nxF
              rw [beq_false_of_ne (show (b.length : Int) ≠ (ps.length : Int) by omega), cond_false]
              have := hl m
              rw [show ((s + 1 : Nat) : Int) - 1 = (s : Int) by omega] at this
              rw [this]
              simp only [fv_app]
              simp only [if_pos hgo]
          · refine ⟨Kc, ?_, fun m => ?_⟩
            · rw [Nat.add_mul, Nat.one_mul]; omega
            · refine (one _).trans ?_
              rw [hc m, if_neg hgo]
              simp only [fv_app]
              simp only [if_neg hgo]
              simp
        · rw [if_neg hf, List.nil_append]
          obtain ⟨K, hK, hl⟩ := ihd (s + 1) (by omega) v q (by omega)
          refine ⟨K, ?_, fun m => ?_⟩
          · rw [Nat.add_mul, Nat.one_mul]; omega
          · have := one (m + K)
            rw [if_neg hf] at this
            refine this.trans ?_
            rw [← hl m, show ((s + 1 : Nat) : Int) - 1 = (s : Int) by omega]
    obtain ⟨K, hK, hl⟩ := loop (min (L.length + 1) mo) 0 (by omega) v q0 (by omega)
    refine ⟨K + 1, ?_, fun m => ?_⟩
    · have : min (L.length + 1) mo * (2 + fu r.length (b.length + 1)) ≤ (b.length + 1) * (2 + fu r.length (b.length + 1)) := Nat.mul_le_mul_right _ (by omega)
      simp only [List.length_cons, fu]
      omega
    · have hx : (GB C q0 (m + (K + 1))).2 = nxF C q0 (GB C q0 (m + K)).1 (GB C q0 (m + K)).2 := rfl
      have hrep : List.replicate (ps.length - b.length) (-1 : Int) = (-1) :: List.replicate (ps.length - (b.length + 1)) (-1) := by
        rw [← List.replicate_succ]; congr 1; omega
      rw [hx, hrep]
      unfold nxF
      rw [beq_false_of_ne (show (b.length : Int) ≠ (ps.length : Int) by omega), cond_false]
      have := hl m
      rw [show ((0 : Nat) : Int) - 1 = -1 by omega] at this
      rw [this]
      rfl
/-- The search hands over all plans with at most so many sheets, in ascending order. -/
theorem srch_eq (hC : Pure C c) (hq : 1000000 ≤ q0) (hj : Job sz ps) (hm : mo ≤ 1000) (v : V) : srch C q0 sz ps mo v (List.replicate ps.length (-1)) (List.replicate mo sz) = some ((), (fv c (pl sz mo ps [] []) v).2, ()) := by
  have hsi : SI sz mo ps [] [] := ⟨hj, by simp, by simp, by simp, by simp, hm⟩
  have h8 := hj.len
  have back0 : ∀ (m : Nat) (v : V) (a l : List Int), (GB C q0 (m + 1)).1 sz ps mo 0 v a l = some ((), v, ()) := fun m v a l => rfl
  have hfu : fu ps.length 0 ≤ 900000 := by
    have : ∀ k ≤ 8, fu k 0 ≤ 900000 := by decide
    exact this _ h8
  obtain ⟨K, hK, h⟩ := srch_node (q0 := q0) hC (by omega) ps [] [] hsi rfl v
  rw [List.length_nil] at hK
  have key : ∀ m, K ≤ m → (GB C q0 (m + 1)).2 sz ps mo 0 v (List.replicate ps.length (-1)) (List.replicate mo sz) = some ((), (fv c (pl sz mo ps [] []) v).2, ()) := fun m hm => by
    have := h (m + 1 - K)
    rw [show m + 1 - K + K = m + 1 by omega] at this
    have e : fil sz mo [] = List.replicate mo sz := by simp [fil]
    rw [e] at this
    refine Eq.trans this ?_
    split
    · rw [show m + 1 - K = (m - K) + 1 by omega]
      rfl
    · rfl
  have hx : ∀ m, (GB C q0 (m + 1)).2 = nxF C q0 (GB C q0 m).1 (GB C q0 m).2 := fun _ => rfl
  have k2 := key q0 (by omega)
  rw [hx] at k2
  unfold nxF at k2
  unfold srch
  exact k2
end
theorem rep2_eq (x : Int) : ∀ k ≤ 8, D44 N [x] ((k : Nat) : Int) = some (List.replicate k x)
  | 0, _ => by kernel_rfl
  | 1, _ => by kernel_rfl
  | 2, _ => by kernel_rfl
  | 3, _ => by kernel_rfl
  | 4, _ => by kernel_rfl
  | 5, _ => by kernel_rfl
  | 6, _ => by kernel_rfl
  | 7, _ => by kernel_rfl
  | 8, _ => by kernel_rfl
  | k + 9, h => by omega
theorem L84c98io0001_LP (n : Nat × Nat) (f1 : FN (Bool) × FN (Bool)) : ∀ q, DL36c37io0001_4 n f1 q = LP f1.1 f1.2 q
  | 0 => rfl
  | q + 1 => by
    rw [DL36c37io0001_4_succ, L84c98io0001_LP n f1 q]
    rfl
theorem G84c98io0001_GB (n : Nat × Nat) : ∀ m, DG36c37io0001_1 n m = GB (D37io11 n) n.1 m
  | 0 => rfl
  | m + 1 => by
    rw [DG36c37io0001_1_succ, G84c98io0001_GB n m]
    refine Prod.ext rfl ?_
    funext a b d e v p l
    show DF36c37io0001_3 n _ a b d e v p l = nxF (D37io11 n) n.1 _ _ a b d e v p l
    unfold DF36c37io0001_3 nxF
    rw [L84c98io0001_LP]
theorem M84c98io0001_LP (n : Nat × Nat) : ∀ q, DL36c37io0001_2 n q = LP (GB (D37io11 n) n.1 n.1).1 (GB (D37io11 n) n.1 n.1).2 q
  | 0 => rfl
  | q + 1 => by
    rw [DL36c37io0001_2_succ, M84c98io0001_LP n q, ← G84c98io0001_GB]
    rfl
theorem D36c37io0001_srch (n : Nat × Nat) (sz : Int) (ps : List Int) (most : Int) (v : Bool) : D36c37io0001 n sz ps most v = (D44 n [-1] (ps.length : Int)).bind fun r1 => (D44 n [sz] most).bind fun r2 => srch (D37io11 n) n.1 sz ps most v r1 r2 := by
  unfold D36c37io0001 srch
  rw [M84c98io0001_LP, ← G84c98io0001_GB]
  rfl
theorem D36c37io0001_eq {c : List Int → Bool → Bool × Bool} (hC : Pure (D37io11 N) c) {sz : Int} {ps : List Int} (hj : Job sz ps) {mo : Nat} (hm : mo ≤ 8) (v : Bool) : D36c37io0001 N sz ps mo v = some ((), (fv c (pl sz mo ps [] []) v).2, ()) := by
  rw [D36c37io0001_srch, rep_eq _ hj.len, Option.bind_some, rep2_eq _ _ hm, Option.bind_some]
  exact srch_eq hC (Nat.le_refl _) hj (by omega) v
theorem pure98 : Pure (D37io11 N) (fun _ _ => (false, true)) := fun q v h => rfl
theorem fv98 : ∀ (l : List (List Int)), (fv (fun _ (_ : Bool) => (false, true)) l false).2 = !l.isEmpty
  | [] => rfl
  | _ :: _ => rfl
/-- What begins a plan. -/
structure Rs (sz : Int) (ps b L : List Int) : Prop where
  job : Job sz ps
  le : b.length ≤ ps.length
  nn : ∀ x ∈ b, 0 ≤ x
  my : mny b ≤ b.length
  left : L = lf sz (ps.take b.length) b
theorem Rs.len {sz : Int} {ps b L : List Int} (h : Rs sz ps b L) : (L.length : Int) = mny b := by rw [h.left]; exact lf_len _ _ _
theorem Rs.rm {sz : Int} {ps b L : List Int} (h : Rs sz ps b L) {s : Nat} (hs : s ≤ L.length) : rm sz L s = sz - usd (ps.take b.length) b s := by
  have hl := h.len
  by_cases e : s < L.length
  · rw [rm_get e]
    have := h.left
    subst this
    exact lf_get e
  · unfold Proofs.YtkfkbebinhkdlaaGreatDoor.Sht.rm
    rw [List.getD_eq_getElem?_getD, List.getElem?_eq_none (by omega), Option.getD_none, usd_none (fun hm => by have := mny_lt hm; omega)]
    omega
theorem Rs.child {sz : Int} {ps b L : List Int} (h : Rs sz ps b L) (hb : b.length < ps.length) {s : Nat} (hs : s ≤ L.length) : Rs sz ps (b ++ [(s : Int)]) (up sz L s ps[b.length]) := by
  have hl := h.len
  have hmy := h.my
  refine ⟨h.job, by simp; omega, fun x hx => ?_, ?_, ?_⟩
  · rcases List.mem_append.1 hx with hx | hx
    · exact h.nn x hx
    · rw [List.mem_singleton.1 hx]; omega
  · rw [mny_snoc, List.length_append]
    simp only [List.length_cons, List.length_nil]
    omega
  · have := lf_step sz ps[b.length] (s : Int) (ps := ps.take b.length) (l := b) (by simp; omega) (by omega) (by omega)
    rw [← take_snoc hb, ← h.left, ← h.rm hs] at this
    rw [List.length_append, List.length_singleton, this]
    unfold up
    rw [Int.toNat_natCast]
    by_cases e : s = L.length
    · rw [if_pos e, if_pos (by omega)]
    · rw [if_neg e, if_neg (by omega)]
theorem Rs.nil {sz : Int} {ps : List Int} (h : Job sz ps) : Rs sz ps [] [] := ⟨h, by simp, by simp, by simp [mny], rfl⟩
theorem pl_ne {sz : Int} {mo : Nat} : ∀ (r b L : List Int), (∀ p ∈ r, p ≤ sz) → L.length + r.length ≤ mo → pl sz mo r b L ≠ []
  | [], b, L, _, _ => by simp [pl]
  | p :: r, b, L, hp, hm => by
    rw [List.length_cons] at hm
    have hr : rm sz L L.length = sz := by unfold rm; rw [List.getD_eq_getElem?_getD, List.getElem?_eq_none (by omega), Option.getD_none]
    have ih := pl_ne (sz := sz) (mo := mo) r (b ++ [(L.length : Int)]) (up sz L L.length p) (fun q hq => hp q (by simp [hq])) (by rw [up_len p (Nat.le_refl _)]; omega)
    obtain ⟨q, hq⟩ := List.exists_mem_of_ne_nil _ ih
    refine List.ne_nil_of_mem (a := q) ?_
    unfold pl
    refine List.mem_flatMap.2 ⟨L.length, List.mem_range'_1.2 (by omega), ?_⟩
    rw [if_pos (by rw [hr]; exact hp p (by simp))]
    exact hq
/-- All plans with at most so many sheets. -/
def apl (sz : Int) (ps : List Int) (mo : Nat) : List (List Int) := pl sz mo ps [] []
def fwg (f : Nat → Bool) : Nat → Nat → Nat
  | 0, k => k
  | d + 1, k => if f k then k else fwg f d (k + 1)
theorem fwg_spec (f : Nat → Bool) : ∀ (d k : Nat), f (k + d) = true → f (fwg f d k) = true ∧ k ≤ fwg f d k ∧ fwg f d k ≤ k + d ∧ ∀ j, k ≤ j → j < fwg f d k → f j = false
  | 0, k, h => ⟨h, Nat.le_refl _, Nat.le_refl _, fun j h1 h2 => by unfold fwg at h2; omega⟩
  | d + 1, k, h => by
    unfold fwg
    by_cases e : f k = true
    · rw [if_pos e]
      exact ⟨e, Nat.le_refl _, by omega, fun j h1 h2 => by omega⟩
    · rw [if_neg e]
      obtain ⟨h1, h2, h3, h4⟩ := fwg_spec f d (k + 1) (by rw [show k + 1 + d = k + (d + 1) by omega]; exact h)
      refine ⟨h1, by omega, by omega, fun j hj1 hj2 => ?_⟩
      by_cases hj : j = k
      · rw [hj]; simpa using e
      · exact h4 j (by omega) hj2
/-- The fewest sheets. -/
def fw (sz : Int) (ps : List Int) : Nat := fwg (fun k => !(apl sz ps k).isEmpty) ps.length 0
theorem apl_len {sz : Int} {ps : List Int} (hj : Job sz ps) : apl sz ps ps.length ≠ [] := pl_ne ps [] [] (fun p hp => (hj.ok p hp).2) (by simp)
theorem fw_spec {sz : Int} {ps : List Int} (hj : Job sz ps) : apl sz ps (fw sz ps) ≠ [] ∧ fw sz ps ≤ ps.length ∧ ∀ j < fw sz ps, apl sz ps j = [] := by
  have h0 : (fun k => !(apl sz ps k).isEmpty) (0 + ps.length) = true := by
    rw [Nat.zero_add]
    have := apl_len hj
    show (!(apl sz ps ps.length).isEmpty) = true
    cases h : apl sz ps ps.length
    · exact absurd h this
    · rfl
  obtain ⟨h1, h2, h3, h4⟩ := fwg_spec (fun k => !(apl sz ps k).isEmpty) ps.length 0 h0
  refine ⟨fun e => ?_, by unfold fw; omega, fun j hj => ?_⟩
  · unfold fw at e
    simp only [e] at h1
    exact absurd h1 (by simp)
  · have := h4 j (by omega) hj
    cases h : apl sz ps j
    · rfl
    · simp [h] at this
theorem least_loop {sz : Int} {ps : List Int} (hj : Job sz ps) : ∀ (m k : Nat), k ≤ fw sz ps → fw sz ps - k < m → DL23_1 N m sz ps (k : Int) = some ((fw sz ps : Nat) : Int)
  | 0, k, _, h => by omega
  | m + 1, k, hk, h => by
    obtain ⟨h1, h2, h3⟩ := fw_spec hj
    have h8 := hj.len
    rw [DL23_1_succ]
    unfold DF23_1
    rw [D36c37io0001_eq pure98 hj (by omega : k ≤ 8), Option.bind_some, fv98]
    by_cases e : k = fw sz ps
    · subst e
      have : (pl sz (fw sz ps) ps [] []).isEmpty = false := by
        cases hh : pl sz (fw sz ps) ps [] []
        · exact absurd hh h1
        · rfl
      simp only [this, Bool.not_false, show (true == false) = false from rfl, cond_false, Option.bind_some, cond_true]
    · have : pl sz k ps [] [] = [] := h3 k (by omega)
      simp only [this, List.isEmpty_nil, Bool.not_true, beq_self_eq_true, cond_true, Option.bind_some]
      rw [beq_false_of_ne (show (k : Int) ≠ (ps.length : Int) by omega), cond_false, wr_succ (by omega), least_loop hj m (k + 1) (by omega) (by omega)]
theorem least_eq {sz : Int} {ps : List Int} (hj : Job sz ps) : D23 N sz ps = some ((fw sz ps : Nat) : Int) := by
  unfold D23
  obtain ⟨h1, h2, h3⟩ := fw_spec hj
  exact least_loop hj N.1 0 (by omega) (by have : N.1 = 1000000 := rfl; have := hj.len; omega)
def fwS (sz : Int) (ps : List Int) : Int × Int := if chk sz ps ≠ 0 then (0, chk sz ps) else (fw sz ps, 0)
theorem Fewest_eq (sz : Int) (ps : List Int) : D8 N sz ps = some (fwS sz ps) := by
  unfold D8 fwS
  rw [Check_eq hN1, Option.bind_some]
  by_cases h : chk sz ps = 0
  · have hj := chk_job.1 h
    rw [h, bne_self_eq_false, cond_false, if_neg (by simp), least_eq hj, Option.bind_some]
  · rw [show (chk sz ps != 0) = true by simpa using h, cond_true, if_pos h]
/-- A piece's length. -/
def pc (l : List Int) (i : Int) : Int := l.getD i.toNat 0
theorem idx_pc {l : List Int} {i : Int} (h0 : 0 ≤ i) (h1 : i < l.length) : idx l i = some (pc l i) := by
  rw [idx_int (k := i.toNat) (by omega) (by omega)]
  simp [pc, show i.toNat < l.length by omega]
theorem pc_mem {l : List Int} {i : Int} (h0 : 0 ≤ i) (h1 : i < l.length) : pc l i ∈ l := by
  unfold pc
  rw [List.getD_eq_getElem?_getD, List.getElem?_eq_getElem (by omega), Option.getD_some]
  exact List.getElem_mem _
/-- Numbers are put into a list that falls, and numbers one after the other. -/
def insR (c : Int → Int → Bool) (x : Int) : List Int → List Int
  | [] => [x]
  | y :: Q => bif c x y then y :: insR c x Q else x :: y :: Q
def srt (c : Int → Int → Bool) : List Int → List Int → List Int
  | Q, [] => Q
  | Q, x :: r => srt c (insR c x Q) r
theorem insR_perm (c : Int → Int → Bool) (x : Int) : ∀ Q, (insR c x Q).Perm (x :: Q)
  | [] => List.Perm.refl _
  | y :: Q => by
    unfold insR
    cases c x y
    · exact List.Perm.refl _
    · exact (List.Perm.cons y (insR_perm c x Q)).trans (List.Perm.swap x y Q)
theorem insR_len (c : Int → Int → Bool) (x : Int) (Q : List Int) : (insR c x Q).length = Q.length + 1 := (insR_perm c x Q).length_eq
theorem srt_perm (c : Int → Int → Bool) : ∀ r Q, (srt c Q r).Perm (r ++ Q)
  | [], Q => List.Perm.refl _
  | x :: r, Q => by
    unfold srt
    refine (srt_perm c r _).trans (((insR_perm c x Q).append_left r).trans ?_)
    exact List.perm_middle
theorem insR_sort {c : Int → Int → Bool} {R : Int → Int → Prop} (ht : ∀ i j k, R i j → R j k → R i k) {x : Int} : ∀ {Q : List Int}, (∀ y ∈ Q, (c x y = true → R x y) ∧ (c x y = false → R y x)) → Q.Pairwise (fun a b => R b a) → (insR c x Q).Pairwise (fun a b => R b a)
  | [], _, _ => by simp [insR]
  | y :: Q, h, hp => by
    rw [List.pairwise_cons] at hp
    unfold insR
    cases e : c x y
    · rw [cond_false]
      have hy := (h y (by simp)).2 e
      refine List.pairwise_cons.2 ⟨fun z hz => ?_, List.pairwise_cons.2 hp⟩
      rcases List.mem_cons.1 hz with e' | hz
      · subst e'; exact hy
      · exact ht _ _ _ (hp.1 z hz) hy
    · rw [cond_true]
      refine List.pairwise_cons.2 ⟨fun z hz => ?_, insR_sort ht (fun y hy => h y (by simp [hy])) hp.2⟩
      rcases List.mem_cons.1 ((insR_perm c x Q).mem_iff.1 hz) with e' | hz
      · subst e'; exact (h y (by simp)).1 e
      · exact hp.1 z hz
theorem srt_sort {c : Int → Int → Bool} {R : Int → Int → Prop} (ht : ∀ i j k, R i j → R j k → R i k) {P : Int → Prop} (hc : ∀ x y, P x → P y → y < x → (c x y = true → R x y) ∧ (c x y = false → R y x)) : ∀ {r Q : List Int}, (∀ x ∈ r, P x) → (∀ x ∈ Q, P x) → (∀ x ∈ r, ∀ y ∈ Q, y < x) → r.Pairwise (· < ·) → Q.Pairwise (fun a b => R b a) → (srt c Q r).Pairwise (fun a b => R b a)
  | [], Q, _, _, _, _, hQ => hQ
  | x :: r, Q, pr, pQ, hlt, hr, hQ => by
    unfold srt
    rw [List.pairwise_cons] at hr
    refine srt_sort ht hc (fun y hy => pr y (by simp [hy])) (fun y hy => ?_) (fun y hy z hz => ?_) hr.2 (insR_sort ht (fun y hy => hc x y (pr x (by simp)) (pQ y hy) (hlt x (by simp) y hy)) hQ)
    · rcases List.mem_cons.1 ((insR_perm c x Q).mem_iff.1 hy) with e | hy
      · subst e; exact pr y (by simp)
      · exact pQ y hy
    · rcases List.mem_cons.1 ((insR_perm c x Q).mem_iff.1 hz) with e | hz
      · subst e; exact hr.1 y hy
      · exact hlt y (by simp [hy]) z hz
theorem idx_at {α : Type} {A r : List α} {y : α} {k : Nat} (h : A.length = k) : idx (A ++ y :: r) (k : Int) = some y := by
  rw [idx_nat (by simp; omega)]
  simp [← h]
theorem set_at {α : Type} {A r : List α} {y z : α} {k : Nat} (h : A.length = k) : (A ++ y :: r).set k z = A ++ z :: r := by
  subst h
  induction A with
  | nil => rfl
  | cons a A ih => simp only [List.cons_append, List.length_cons, List.set_cons_succ, ih]
def cmf (l : List Int) (x y : Int) : Bool := decide (pc l y < pc l x)
theorem cmpf (n : Nat × Nat) {l : List Int} (hb : ∀ s ∈ l, 1 ≤ s ∧ s ≤ 24) {i j : Int} (hi : 0 ≤ i ∧ i < l.length) (hj : 0 ≤ j ∧ j < l.length) : ∃ r : Int, D39 n i j l = some r ∧ decide (r < 0) = cmf l i j := by
  unfold D39 cmf
  rw [idx_pc hi.1 hi.2, idx_pc hj.1 hj.2]
  have o1 := hb _ (pc_mem hi.1 hi.2)
  have o2 := hb _ (pc_mem hj.1 hj.2)
  refine ⟨pc l j - pc l i, ?_, ?_⟩
  · simp only [Option.bind_some]
    rw [wr_ok (by omega) (by omega)]
  · exact decide_eq_decide.2 (by omega)
theorem inf_loop (n : Nat × Nat) (l : List Int) (hb : ∀ s ∈ l, 1 ≤ s ∧ s ≤ 24) (f : Int → Int → Int → List Int → List Int → Option R52c39io1001) (b i : Int) (x : Int) (hx : 0 ≤ x ∧ x < l.length) : ∀ (m : Nat) (Q T : List Int), Q.length < m → Q.length < 1000 → (∀ y ∈ Q, 0 ≤ y ∧ y < l.length) →
    DL52c39io1001_2 n f m 0 b i (Q.length : Int) (Q.reverse ++ x :: T) l = f 0 b (wr .i64 (i + 1)) ((insR (cmf l) x Q).reverse ++ T) l
  | 0, Q, T, h, _, _ => by omega
  | m + 1, [], T, h, _, hQ => by
    rw [DL52c39io1001_2_succ]
    unfold DF52c39io1001_2
    simp [insR]
  | m + 1, y :: Q, T, h, h8, hQ => by
    rw [DL52c39io1001_2_succ]
    unfold DF52c39io1001_2
    rw [List.length_cons] at h h8
    have hy := hQ y (by simp)
    obtain ⟨r, hr, hd⟩ := cmpf n hb hx hy
    have ih := inf_loop n l hb f b i x hx m Q (y :: T) (by omega) (by omega) (fun z hz => hQ z (by simp [hz]))
    have e : (y :: Q).reverse ++ x :: T = Q.reverse ++ y :: x :: T := by simp
    have w : wr .i64 (((y :: Q).length : Int) - 1) = (Q.length : Int) := by rw [List.length_cons, wr_ok (by omega) (by omega)]; omega
    have a1 : ∀ T' : List Int, idx (Q.reverse ++ y :: x :: T') ((y :: Q).length : Int) = some x := fun T' => by
      have := idx_at (A := Q.reverse ++ [y]) (r := T') (y := x) (k := (y :: Q).length) (by simp)
      simpa using this
    have a2 : ∀ T' : List Int, idx (Q.reverse ++ y :: T') (Q.length : Int) = some y := fun T' => idx_at (by simp)
    have a3 : (Q.reverse ++ y :: x :: T).set (y :: Q).length y = Q.reverse ++ y :: y :: T := by
      have := set_at (A := Q.reverse ++ [y]) (r := T) (y := x) (z := y) (k := (y :: Q).length) (by simp)
      rw [List.append_assoc, List.append_assoc] at this
      exact this
    have a4 : (Q.reverse ++ y :: y :: T).set Q.length x = Q.reverse ++ x :: y :: T := set_at (by simp)
    rw [e]
    rw [decide_eq_true (show (((y :: Q).length : Nat) : Int) > 0 by rw [List.length_cons]; omega), w]
    simp only [beq_self_eq_true, cond_true]
    rw [inB_nat (show (y :: Q).length < (Q.reverse ++ y :: x :: T).length by simp <;> omega), inB_nat (show Q.length < (Q.reverse ++ y :: x :: T).length by simp <;> omega)]
    simp only [cond_true, a1, a2, Option.bind_some, hr, hd]
    unfold insR
    cases cmf l x y
    · simp only [cond_false]
      congr 1
      simp
    · simp only [cond_true]
      rw [Int.toNat_natCast, Int.toNat_natCast, a3, a2, inB_nat (show Q.length < (Q.reverse ++ y :: y :: T).length by simp <;> omega)]
      simp only [cond_true, Option.bind_some, a4, ih]
      congr 1
      simp
theorem sof_loop (n : Nat × Nat) (hn : 1000 ≤ n.1) (l : List Int) (hb : ∀ s ∈ l, 1 ≤ s ∧ s ≤ 24) : ∀ (m : Nat) (r Q : List Int), r.length < m → Q.length + r.length < 900 → (∀ y ∈ Q, 0 ≤ y ∧ y < l.length) → (∀ y ∈ r, 0 ≤ y ∧ y < l.length) →
    DL52c39io1001_1 n m 0 ((Q.length + r.length : Nat) : Int) (Q.length : Int) (Q.reverse ++ r) l = some ((), (srt (cmf l) Q r).reverse, l, ())
  | 0, r, Q, h, _, _, _ => by omega
  | m + 1, [], Q, h, _, _, _ => by
    rw [DL52c39io1001_1_succ]
    unfold DF52c39io1001_1
    rw [dlt_f (by simp), cond_false]
    simp [srt]
  | m + 1, x :: r, Q, h, h8, hQ, hr => by
    rw [DL52c39io1001_1_succ]
    unfold DF52c39io1001_1
    rw [List.length_cons] at h h8
    have ih := sof_loop n hn l hb m r (insR (cmf l) x Q) (by omega) (by rw [insR_len]; omega) (fun y hy => by
      rcases List.mem_cons.1 ((insR_perm _ x Q).mem_iff.1 hy) with e | hy
      · subst e; exact hr y (by simp)
      · exact hQ y hy) (fun y hy => hr y (by simp [hy]))
    rw [dlt_t (by simp), cond_true, inf_loop n l hb _ _ _ x (hr x (by simp)) n.1 Q r (by omega) (by omega) hQ, wr_succ (by omega)]
    rw [insR_len] at ih
    rw [show Q.length + 1 + r.length = Q.length + (x :: r).length by rw [List.length_cons]; omega] at ih
    rw [ih]
    rfl
theorem sortf_eq {n : Nat × Nat} (hn : 1000 ≤ n.1) {l : List Int} (hb : ∀ s ∈ l, 1 ≤ s ∧ s ≤ 24) {r : List Int} (h7 : r.length ≤ 8) (hr : ∀ y ∈ r, 0 ≤ y ∧ y < l.length) : D38c39io11 n r l = some ((), (srt (cmf l) [] r).reverse, l, ()) := by
  have hs5 : D52c39io1001 n r 0 (r.length : Int) l = some ((), (srt (cmf l) [] r).reverse, l, ()) := by
    unfold D52c39io1001
    match r, h7, hr with
    | [], _, _ =>
      have : n.1 = (n.1 - 1) + 1 := by omega
      rw [this, DL52c39io1001_1_succ]
      unfold DF52c39io1001_1
      rw [show wr .i64 ((0 : Int) + 1) = 1 by rw [wr_ok (by omega) (by omega)]; omega]
      rfl
    | x :: r, h7, hr =>
      have := sof_loop n hn l hb n.1 r [x] (by simp at h7; omega) (by simp at h7 ⊢; omega) (fun y hy => by rw [List.mem_singleton] at hy; subst hy; exact hr y (by simp)) (fun y hy => hr y (by simp [hy]))
      rw [show wr .i64 ((0 : Int) + 1) = 1 by rw [wr_ok (by omega) (by omega)]; omega]
      simpa [srt, insR, Nat.add_comm] using this
  have hl : (srt (cmf l) [] r).reverse.length = r.length := by
    rw [List.length_reverse, (srt_perm (cmf l) r []).length_eq]
    simp
  have hs4 : D45c39io101 n r (r.length : Int) l = some ((), (srt (cmf l) [] r).reverse, l, ()) := by
    unfold D45c39io101
    obtain ⟨k, hk⟩ : ∃ k, n.1 = k + 1 := ⟨n.1 - 1, by omega⟩
    rw [hk, DL45c39io101_1_succ]
    unfold DF45c39io101_1
    rw [decide_eq_false (show ¬ (20 : Int) ≤ (r.length : Int) by omega), cond_false, hs5]
    simp only [Option.bind_some]
    rw [show Nat.beq (srt (cmf l) [] r).reverse.length r.length = true by rw [hl]; exact Nat.beq_refl _, cond_true, hk, DL45c39io101_2_succ]
    unfold DF45c39io101_2
    rw [decide_eq_false (show ¬ (20 : Int) < (r.length : Int) by omega), cond_false]
  unfold D38c39io11
  rw [hs4]
  simp only [Option.bind_some]
  rw [show Nat.beq (srt (cmf l) [] r).reverse.length r.length = true by rw [hl]; exact Nat.beq_refl _, cond_true]
/-- The falling order. -/
def fal (ps : List Int) : List Int := (srt (cmf ps) [] ((List.range ps.length).map fun i : Nat => (i : Int))).reverse
theorem fal_loop (n : Nat × Nat) (hn : 1000 ≤ n.1) {ps : List Int} (hb : ∀ s ∈ ps, 1 ≤ s ∧ s ≤ 24) (h8 : ps.length ≤ 8) : ∀ (m k : Nat), k ≤ ps.length → ps.length - k < m →
    DL24_1 n m (ps.length : Int) (k : Int) ps (((List.range k).map fun i : Nat => (i : Int)) ++ List.replicate (ps.length - k) 0) = some (fal ps)
  | 0, k, _, h => by omega
  | m + 1, k, hk, h => by
    rw [DL24_1_succ]
    unfold DF24_1
    by_cases hlt : k < ps.length
    · have hrep : List.replicate (ps.length - k) (0 : Int) = 0 :: List.replicate (ps.length - (k + 1)) 0 := by
        rw [← List.replicate_succ]; congr 1; omega
      have hk2 : ((List.range k).map fun i : Nat => (i : Int)).length = k := by simp
      have e2 : (List.range (k + 1)).map (fun i : Nat => (i : Int)) = ((List.range k).map fun i : Nat => (i : Int)) ++ [(k : Int)] := by
        rw [List.range_succ, List.map_append]; rfl
      rw [dlt_t hlt, cond_true, hrep, inB_nat (by simp), cond_true, idx_at hk2, Option.bind_some, Int.toNat_natCast, set_at hk2, wr_succ (by omega)]
      have ih := fal_loop n hn hb h8 m (k + 1) (by omega) (by omega)
      rw [e2, List.append_assoc, List.singleton_append] at ih
      exact ih
    · have e : k = ps.length := by omega
      subst e
      have hr : ∀ y ∈ (List.range ps.length).map (fun i : Nat => (i : Int)), 0 ≤ y ∧ y < ps.length := fun y hy => by
        obtain ⟨i, hi, rfl⟩ := List.mem_map.1 hy
        have := List.mem_range.1 hi
        omega
      rw [dlt_f hlt, cond_false, Nat.sub_self, List.replicate_zero, List.append_nil, sortf_eq hn hb (by simp; omega) hr, Option.bind_some]
      have hl : (srt (cmf ps) [] ((List.range ps.length).map fun i : Nat => (i : Int))).reverse.length = ((List.range ps.length).map fun i : Nat => (i : Int)).length := by
        rw [List.length_reverse, (srt_perm (cmf ps) _ []).length_eq]
        simp
      rw [show Nat.beq (srt (cmf ps) [] ((List.range ps.length).map fun i : Nat => (i : Int))).reverse.length ((List.range ps.length).map fun i : Nat => (i : Int)).length = true by rw [hl]; exact Nat.beq_refl _, cond_true]
      rfl
theorem fall_eq {n : Nat × Nat} (hn : 1000 ≤ n.1) {ps : List Int} (hb : ∀ s ∈ ps, 1 ≤ s ∧ s ≤ 24) (h8 : ps.length ≤ 8) : D24 n ps = some (fal ps) := by
  unfold D24
  rw [decide_eq_true (show (0 : Int) ≤ (ps.length : Int) by omega), decide_eq_true (show (ps.length : Int) ≤ (ps.length : Int) by omega), decide_eq_true (show (ps.length : Int) ≤ lim by unfold lim; omega), Int.toNat_natCast, List.length_replicate]
  have := fal_loop n hn hb h8 n.1 0 (by omega) (by omega)
  exact this
theorem Fall_eq {n : Nat × Nat} (hn : 1000 ≤ n.1) (sz : Int) (ps : List Int) : D10 n sz ps = some (if chk sz ps ≠ 0 then ([], chk sz ps) else (fal ps, 0)) := by
  unfold D10
  rw [Check_eq hn, Option.bind_some]
  by_cases h : chk sz ps = 0
  · have hj := chk_job.1 h
    rw [h, bne_self_eq_false, cond_false, if_neg (by simp), fall_eq hn (fun s hs => by have := hj.ok s hs; have := hj.hi; omega) hj.len, Option.bind_some]
  · rw [show (chk sz ps != 0) = true by simpa using h, cond_true, if_pos h]
theorem fal_perm (ps : List Int) : (fal ps).Perm ((List.range ps.length).map fun i : Nat => (i : Int)) := by
  unfold fal
  refine (List.reverse_perm _).trans ((srt_perm _ _ []).trans ?_)
  rw [List.append_nil]
/-- The order of the falling order. -/
def Fbf (ps : List Int) (i j : Int) : Prop := pc ps j < pc ps i ∨ pc ps i = pc ps j ∧ i < j
theorem fal_sort (ps : List Int) : (fal ps).Pairwise (Fbf ps) := by
  unfold fal
  rw [List.pairwise_reverse]
  refine srt_sort (R := Fbf ps) (fun i j k h1 h2 => by unfold Fbf at *; omega) (P := fun _ => True) (fun x y _ _ hlt => ?_) (fun _ _ => trivial) (fun _ _ => trivial) (fun _ _ y hy => by cases hy) ?_ List.Pairwise.nil
  · unfold cmf Fbf
    refine ⟨fun h => ?_, fun h => ?_⟩
    · have := of_decide_eq_true h; omega
    · have := of_decide_eq_false h; omega
  · rw [List.pairwise_map]
    exact (List.pairwise_lt_range).imp (fun h => by omega)
def divT : List Int := [0, 2, 6, 10, 22, 34, 78, 130, 278, 522, 1062, 2050, 4190, 8194, 16518, 32810, 65814, 131074, 262734, 524290, 1049654, 2097290, 4196358, 8388610, 16781662]
def dbit (x p : Int) : Bool := (wr .u32 (BitVec.ofInt (IntKind.bits .u32) (Int.fdiv x (2 ^ (min (Int.toNat p) (IntKind.bits .u32)))) &&& BitVec.ofInt (IntKind.bits .u32) 1).toNat) == 0
theorem div_tab : ∀ s : Fin 25, ∀ p : Fin 25, 1 ≤ s.val → 1 ≤ p.val → dbit (divT.getD s.val 0) (p.val : Int) = !decide (s.val % p.val = 0) := by decide +kernel
theorem div_bit {s p : Int} (hs : 1 ≤ s ∧ s ≤ 24) (hp : 1 ≤ p ∧ p ≤ 24) : ∃ x, idx divT s = some x ∧ dbit x p = !decide (s % p = 0) := by
  have h := div_tab ⟨s.toNat, by omega⟩ ⟨p.toNat, by omega⟩ (by simp only []; omega) (by simp only []; omega)
  simp only [] at h
  have hl : s.toNat < divT.length := by
    have : divT.length = 25 := rfl
    omega
  refine ⟨divT[s.toNat], idx_int (by omega) hl, ?_⟩
  rw [List.getD_eq_getElem?_getD, List.getElem?_eq_getElem hl, Option.getD_some, show ((p.toNat : Nat) : Int) = p by omega] at h
  rw [h]
  congr 1
  apply decide_eq_decide.2
  have e1 : (s.toNat : Int) = s := by omega
  have e2 : (p.toNat : Int) = p := by omega
  constructor
  · intro hh
    rw [← e1, ← e2]
    exact_mod_cast hh
  · intro hh
    rw [← e1, ← e2] at hh
    exact_mod_cast hh
/-- Each one divides the one before it. -/
def Chn : Int → List Int → Prop
  | _, [] => True
  | s, p :: r => s % p = 0 ∧ Chn p r
instance Chn.dec : ∀ (s : Int) (l : List Int), Decidable (Chn s l)
  | _, [] => .isTrue trivial
  | s, p :: r => by
    unfold Chn
    have := Chn.dec p r
    exact inferInstance
theorem chain_loop (n : Nat × Nat) {ps : List Int} (hb : ∀ p ∈ ps, 1 ≤ p ∧ p ≤ 24) {o : List Int} (ho : ∀ i ∈ o, 0 ≤ i ∧ i < ps.length) (hl : o.length ≤ 8) : ∀ (m k : Nat) (s : Int), k ≤ o.length → o.length - k < m → 1 ≤ s ∧ s ≤ 24 →
    DL9_1 n m s ps (o.length : Int) (k : Int) o = some (decide (Chn s ((o.drop k).map (pc ps))), 0)
  | 0, k, s, _, h, _ => by omega
  | m + 1, k, s, hk, h, hs => by
    rw [DL9_1_succ]
    unfold DF9_1
    by_cases hlt : k < o.length
    · have hi := ho _ (List.getElem_mem hlt)
      have hp := hb _ (pc_mem hi.1 hi.2)
      obtain ⟨x, hx, hd⟩ := div_bit hs hp
      rw [dlt_t hlt, cond_true, inB_nat hlt, cond_true, idx_nat hlt, Option.bind_some]
      rw [show idx ([0, 2, 6, 10, 22, 34, 78, 130, 278, 522, 1062, 2050, 4190, 8194, 16518, 32810, 65814, 131074, 262734, 524290, 1049654, 2097290, 4196358, 8388610, 16781662] : List Int) s = some x from hx, Option.bind_some, idx_pc hi.1 hi.2, Option.bind_some, decide_eq_false (by omega), cond_false, Option.bind_some, drop_cons hlt, List.map_cons]
      rw [show ((wr .u32 (BitVec.ofInt (IntKind.bits .u32) (Int.fdiv x (2 ^ (min (Int.toNat (pc ps o[k])) (IntKind.bits .u32)))) &&& BitVec.ofInt (IntKind.bits .u32) 1).toNat) == 0) = !decide (s % pc ps o[k] = 0) from hd, wr_succ (by omega), chain_loop n hb ho hl m (k + 1) _ (by omega) (by omega) hp]
      by_cases e : s % pc ps o[k] = 0
      · rw [decide_eq_true e, Bool.not_true, cond_false]
        congr 2
        apply decide_eq_decide.2
        exact ⟨fun h => ⟨e, h⟩, fun h => h.2⟩
      · rw [decide_eq_false e, Bool.not_false, cond_true]
        congr 2
        symm
        apply decide_eq_false
        exact fun hh => e hh.1
    · rw [dlt_f hlt, cond_false, List.drop_of_length_le (by omega)]
      rfl
/-- Lengths are a chain. -/
def Cmp (x y : Int) : Prop := x % y = 0 ∨ y % x = 0
def IsC (sz : Int) (ps : List Int) : Prop := (∀ p ∈ ps, sz % p = 0) ∧ ps.Pairwise Cmp
instance (x y : Int) : Decidable (Cmp x y) := inferInstanceAs (Decidable (_ ∨ _))
instance (sz : Int) (ps : List Int) : Decidable (IsC sz ps) := inferInstanceAs (Decidable (_ ∧ _))
theorem mod_trans {a b c : Int} (h1 : a % b = 0) (h2 : b % c = 0) : a % c = 0 :=
  Int.emod_eq_zero_of_dvd (Int.dvd_trans (Int.dvd_of_emod_eq_zero h2) (Int.dvd_of_emod_eq_zero h1))
theorem chn_iff : ∀ (l : List Int) (s : Int), Chn s l ↔ (∀ p ∈ l, s % p = 0) ∧ l.Pairwise (fun x y => x % y = 0)
  | [], s => by simp [Chn]
  | p :: r, s => by
    unfold Chn
    rw [chn_iff r p, List.pairwise_cons]
    constructor
    · rintro ⟨h1, h2, h3⟩
      refine ⟨fun q hq => ?_, h2, h3⟩
      rcases List.mem_cons.1 hq with rfl | hq
      · exact h1
      · exact mod_trans h1 (h2 q hq)
    · rintro ⟨h1, h2, h3⟩
      exact ⟨h1 p (by simp), h2, h3⟩
theorem chn_fall {s : Int} {l : List Int} (hb : ∀ p ∈ l, 1 ≤ p) (hf : l.Pairwise (fun x y => y ≤ x)) : Chn s l ↔ IsC s l := by
  rw [chn_iff]
  unfold IsC
  constructor
  · rintro ⟨h1, h2⟩
    exact ⟨h1, h2.imp (fun h => .inl h)⟩
  · rintro ⟨h1, h2⟩
    refine ⟨h1, ?_⟩
    have : ∀ {l : List Int}, (∀ p ∈ l, 1 ≤ p) → l.Pairwise (fun x y => y ≤ x) → l.Pairwise Cmp → l.Pairwise (fun x y => x % y = 0) := by
      intro l
      induction l with
      | nil => intros; exact List.Pairwise.nil
      | cons x r ih =>
        intro hb hf h2
        rw [List.pairwise_cons] at hf h2 ⊢
        refine ⟨fun y hy => ?_, ih (fun p hp => hb p (by simp [hp])) hf.2 h2.2⟩
        have h3 := hf.1 y hy
        have hx := hb x (by simp)
        have hy1 := hb y (by simp [hy])
        rcases h2.1 y hy with h | h
        · exact h
        · have := Int.le_of_dvd (by omega) (Int.dvd_of_emod_eq_zero h)
          have e : x = y := by omega
          rw [e, Int.emod_self]
    exact this hb hf h2
theorem cmp_symm {x y : Int} (h : Cmp x y) : Cmp y x := Or.symm h
theorem isC_perm {s : Int} {a b : List Int} (h : a.Perm b) : IsC s a ↔ IsC s b := by
  unfold IsC
  rw [h.pairwise_iff cmp_symm]
  constructor
  · rintro ⟨h1, h2⟩
    exact ⟨fun p hp => h1 p (h.mem_iff.2 hp), h2⟩
  · rintro ⟨h1, h2⟩
    exact ⟨fun p hp => h1 p (h.mem_iff.1 hp), h2⟩
theorem map_pc (ps : List Int) : ((List.range ps.length).map fun i : Nat => (i : Int)).map (pc ps) = ps := by
  apply List.ext_getElem
  · simp
  · intro i h1 h2
    simp only [List.getElem_map, List.getElem_range, pc, Int.toNat_natCast]
    rw [List.getD_eq_getElem?_getD, List.getElem?_eq_getElem h2, Option.getD_some]
theorem fal_rng (ps : List Int) : ∀ i ∈ fal ps, 0 ≤ i ∧ i < ps.length := fun i hi => by
  obtain ⟨k, hk, rfl⟩ := List.mem_map.1 ((fal_perm ps).mem_iff.1 hi)
  have := List.mem_range.1 hk
  omega
theorem fal_len (ps : List Int) : (fal ps).length = ps.length := by
  rw [(fal_perm ps).length_eq]; simp
theorem fal_map (ps : List Int) : ((fal ps).map (pc ps)).Perm ps := by
  have := (fal_perm ps).map (pc ps)
  rwa [map_pc] at this
theorem fal_down (ps : List Int) : ((fal ps).map (pc ps)).Pairwise (fun x y => y ≤ x) := by
  rw [List.pairwise_map]
  exact (fal_sort ps).imp (fun h => by unfold Fbf at h; omega)
def chS (sz : Int) (ps : List Int) : Bool × Int := if chk sz ps ≠ 0 then (false, chk sz ps) else (decide (IsC sz ps), 0)
theorem Chain_eq {n : Nat × Nat} (hn : 1000 ≤ n.1) (sz : Int) (ps : List Int) : D9 n sz ps = some (chS sz ps) := by
  unfold D9 chS
  rw [Check_eq hn, Option.bind_some]
  by_cases h : chk sz ps = 0
  · have hj := chk_job.1 h
    have hb : ∀ s ∈ ps, 1 ≤ s ∧ s ≤ 24 := fun s hs => by have := hj.ok s hs; have := hj.hi; omega
    have hl := fal_len ps
    have h8 := hj.len
    rw [h, bne_self_eq_false, cond_false, if_neg (by simp), fall_eq hn hb hj.len, Option.bind_some]
    have := chain_loop n hb (fal_rng ps) (by omega) n.1 0 sz (by omega) (by omega) ⟨hj.lo, hj.hi⟩
    rw [show ((0 : Nat) : Int) = 0 from rfl, List.drop_zero] at this
    rw [this]
    congr 2
    apply decide_eq_decide.2
    rw [chn_fall (fun p hp => (hb p ((fal_map ps).mem_iff.1 hp)).1) (fal_down ps), isC_perm (fal_map ps)]
  · rw [show (chk sz ps != 0) = true by simpa using h, cond_true, if_pos h]
end Go.Proofs.YtkfkbebinhkdlaaGreatDoor.Sht
/-
  Sheets: packings, whatever the order; the next fit and how far it is from the fewest.
-/
set_option linter.unusedVariables false
set_option linter.unusedSimpArgs false
set_option maxRecDepth 100000
namespace Go.Proofs.YtkfkbebinhkdlaaGreatDoor.Sht
open Go.Vi
/-- Pieces are put into rooms. -/
inductive Pk : List Int → List Int → Prop
  | nil {cs : List Int} : Pk cs []
  | cons {caps cs r : List Int} {c p : Int} : caps.Perm (c :: cs) → p ≤ c → Pk ((c - p) :: cs) r → Pk caps (p :: r)
theorem Pk.caps {a r : List Int} (h : Pk a r) : ∀ {b : List Int}, a.Perm b → Pk b r := by
  induction h with
  | nil => intro b _; exact .nil
  | cons h1 h2 h3 ih => intro b hb; exact .cons (hb.symm.trans h1) h2 h3
theorem Pk.swap {caps r : List Int} {p q : Int} (hp : 0 ≤ p) (hq : 0 ≤ q) (h : Pk caps (p :: q :: r)) : Pk caps (q :: p :: r) := by
  cases h with
  | cons h1 h2 h3 =>
    rename_i cs c
    cases h3 with
    | cons h4 h5 h6 =>
      rename_i ds d
      have hd : d ∈ (c - p) :: cs := h4.mem_iff.2 (by simp)
      rcases List.mem_cons.1 hd with e | hm
      · subst e
        have e2 := h4.cons_inv
        refine .cons h1 (by omega) (.cons (List.Perm.refl _) (by omega) ?_)
        rw [show c - q - p = c - p - q by omega]
        exact h6.caps (e2.symm.cons _)
      · have e1 := List.perm_cons_erase hm
        have e2 : ds.Perm ((c - p) :: cs.erase d) := by
          have : (d :: ds).Perm (d :: (c - p) :: cs.erase d) := h4.symm.trans (((e1.cons _)).trans (List.Perm.swap _ _ _))
          exact this.cons_inv
        refine .cons (h1.trans ((e1.cons _).trans (List.Perm.swap _ _ _))) h5 (.cons (List.Perm.swap _ _ _) h2 ?_)
        exact h6.caps ((e2.cons _).trans (List.Perm.swap _ _ _))
theorem Pk.perm {a b : List Int} (h : a.Perm b) : (∀ x ∈ a, 0 ≤ x) → ∀ {caps : List Int}, Pk caps a → Pk caps b := by
  induction h with
  | nil => intro _ caps h; exact h
  | cons x h ih =>
    intro h0 caps hp
    cases hp with
    | cons h1 h2 h3 => exact .cons h1 h2 (ih (fun x hx => h0 x (by simp [hx])) h3)
  | swap x y l => intro h0 caps hp; exact hp.swap (h0 _ (by simp)) (h0 _ (by simp))
  | trans h1 h2 ih1 ih2 => intro h0 caps hp; exact ih2 (fun x hx => h0 x (h1.mem_iff.2 hx)) (ih1 h0 hp)
theorem Pk.wk {a r : List Int} (h : Pk a r) : ∀ {x : Int}, Pk (x :: a) r := by
  induction h with
  | nil => intro x; exact .nil
  | cons h1 h2 h3 ih => intro x; exact .cons ((h1.cons _).trans (List.Perm.swap _ _ _)) h2 (ih.caps (List.Perm.swap _ _ _))
theorem psum {a b : List Int} (h : a.Perm b) : a.sum = b.sum := by
  induction h with
  | nil => rfl
  | cons x h ih => simp [ih]
  | swap x y l => simp; omega
  | trans h1 h2 ih1 ih2 => exact ih1.trans ih2
theorem Pk.sum {caps r : List Int} (h : Pk caps r) : (∀ c ∈ caps, 0 ≤ c) → r.sum ≤ caps.sum := by
  induction h with
  | nil => 
    intro h0
    rename_i cs
    induction cs with
    | nil => simp
    | cons a l ih =>
      have := h0 a (by simp)
      have := ih fun c hc => h0 c (by simp [hc])
      simp at this ⊢
      omega
  | cons h1 h2 h3 ih =>
    intro h0
    have e := psum h1
    have h4 := ih fun x hx => by
      rcases List.mem_cons.1 hx with rfl | hx
      · omega
      · exact h0 x (h1.mem_iff.2 (by simp [hx]))
    simp at h4 e ⊢
    omega
/-- A plan in the reference's order is a packing, and the other way round. -/
theorem perm_set {L : List Int} {s : Nat} (h : s < L.length) (x : Int) : ∃ cs, L.Perm (L[s] :: cs) ∧ (L.set s x).Perm (x :: cs) := by
  refine ⟨L.take s ++ L.drop (s + 1), ?_, ?_⟩
  · have e : L = L.take s ++ L[s] :: L.drop (s + 1) := by
      rw [List.getElem_cons_drop, List.take_append_drop]
    exact (List.Perm.of_eq e).trans List.perm_middle
  · rw [List.set_eq_take_append_cons_drop, if_pos h]
    exact List.perm_middle
theorem up_lt {sz : Int} {L : List Int} {s : Nat} {p : Int} (h : s < L.length) : up sz L s p = L.set s (L[s] - p) ∧ rm sz L s = L[s] := by
  unfold up rm
  rw [if_neg (by omega)]
  rw [List.getD_eq_getElem?_getD, List.getElem?_eq_getElem h]
  exact ⟨rfl, rfl⟩
theorem up_eq {sz : Int} {L : List Int} {p : Int} : up sz L L.length p = L ++ [sz - p] ∧ rm sz L L.length = sz := by
  unfold up rm
  rw [if_pos rfl, List.getD_eq_getElem?_getD, List.getElem?_eq_none (Nat.le_refl _)]
  simp
theorem pl_cons (sz : Int) (mo : Nat) (p : Int) (r b L : List Int) : pl sz mo (p :: r) b L = (List.range' 0 (min (L.length + 1) mo)).flatMap fun s => if p ≤ rm sz L s then pl sz mo r (b ++ [(s : Int)]) (up sz L s p) else [] := rfl
theorem pl_pk {sz : Int} {mo : Nat} : ∀ (r b L : List Int), L.length ≤ mo → (pl sz mo r b L ≠ [] ↔ Pk (L ++ List.replicate (mo - L.length) sz) r)
  | [], b, L, hL => ⟨fun _ => .nil, fun _ => by simp [pl]⟩
  | p :: r, b, L, hL => by
    have key : pl sz mo (p :: r) b L ≠ [] ↔ ∃ s, s < min (L.length + 1) mo ∧ p ≤ rm sz L s ∧ pl sz mo r (b ++ [(s : Int)]) (up sz L s p) ≠ [] := by
      rw [pl_cons, ne_eq, List.flatMap_eq_nil_iff]
      constructor
      · intro h
        apply Classical.byContradiction
        intro h2
        apply h
        intro s hs
        have hs : s < min (L.length + 1) mo := by simpa using List.mem_range'_1.1 hs
        split
        · rename_i h3
          exact Classical.byContradiction fun h4 => h2 ⟨s, hs, h3, h4⟩
        · rfl
      · rintro ⟨s, h1, h2, h3⟩ h4
        have := h4 s (List.mem_range'_1.2 ⟨by omega, by omega⟩)
        rw [if_pos h2] at this
        exact h3 this
    rw [key]
    constructor
    · rintro ⟨s, h1, h2, h3⟩
      by_cases hs : s < L.length
      · obtain ⟨e1, e2⟩ := up_lt (sz := sz) (p := p) hs
        rw [e1] at h3
        rw [e2] at h2
        have := (pl_pk r _ _ (by simpa using hL)).1 h3
        obtain ⟨cs, c1, c2⟩ := perm_set hs (L[s] - p)
        rw [List.length_set] at this
        exact .cons (cs := cs ++ List.replicate (mo - L.length) sz) (c1.append_right _) h2 (this.caps (c2.append_right _))
      · obtain rfl : s = L.length := by omega
        obtain ⟨e1, e2⟩ := up_eq (sz := sz) (L := L) (p := p)
        rw [e1] at h3
        rw [e2] at h2
        have := (pl_pk r _ _ (by simp; omega)).1 h3
        obtain ⟨k, hk⟩ : ∃ k, mo - L.length = k + 1 := ⟨mo - L.length - 1, by omega⟩
        rw [hk, List.replicate_succ]
        refine .cons List.perm_middle h2 (this.caps ?_)
        rw [show mo - (L ++ [sz - p]).length = k by simp; omega, List.append_assoc]
        exact List.perm_middle
    · intro h
      cases h with
      | cons h1 h2 h3 =>
        rename_i cs c
        have hc : c ∈ L ++ List.replicate (mo - L.length) sz := h1.mem_iff.2 (by simp)
        by_cases hcL : c ∈ L
        · obtain ⟨s, hs, e⟩ := List.getElem_of_mem hcL
          obtain ⟨e1, e2⟩ := up_lt (sz := sz) (p := p) hs
          refine ⟨s, by omega, by rw [e2, e]; exact h2, ?_⟩
          rw [e1]
          refine (pl_pk r _ _ (by simpa using hL)).2 (h3.caps ?_)
          obtain ⟨ds, c1, c2⟩ := perm_set hs (L[s] - p)
          rw [List.length_set]
          rw [e] at c1 c2 ⊢
          have : (c :: cs).Perm (c :: (ds ++ List.replicate (mo - L.length) sz)) := h1.symm.trans (c1.append_right _)
          exact (this.cons_inv.cons _).trans (c2.symm.append_right _)
        · have hr : c ∈ List.replicate (mo - L.length) sz := (List.mem_append.1 hc).resolve_left hcL
          have e := List.eq_of_mem_replicate hr
          have hlt : 0 < mo - L.length := by
            apply Nat.pos_of_ne_zero
            intro h0
            rw [h0] at hr
            simp at hr
          obtain ⟨e1, e2⟩ := up_eq (sz := sz) (L := L) (p := p)
          refine ⟨L.length, by omega, by rw [e2, ← e]; exact h2, ?_⟩
          rw [e1]
          refine (pl_pk r _ _ (by simp; omega)).2 (h3.caps ?_)
          obtain ⟨k, hk⟩ : ∃ k, mo - L.length = k + 1 := ⟨mo - L.length - 1, by omega⟩
          rw [hk, List.replicate_succ] at h1
          rw [show mo - (L ++ [sz - p]).length = k by simp; omega, List.append_assoc]
          subst e
          have : (c :: cs).Perm (c :: (L ++ List.replicate k c)) := h1.symm.trans List.perm_middle
          exact (this.cons_inv.cons _).trans (List.perm_middle (l₁ := L) (l₂ := List.replicate k c) (a := c - p)).symm
theorem apl_pk {sz : Int} {ps : List Int} {mo : Nat} : apl sz ps mo ≠ [] ↔ Pk (List.replicate mo sz) ps := by
  unfold apl
  have := pl_pk (sz := sz) (mo := mo) ps [] [] (by simp)
  simpa using this
/-- How many sheets the next fit opens. -/
def nf (sz : Int) : Int → List Int → Nat
  | _, [] => 0
  | c, p :: r => if p ≤ c then nf sz (c - p) r else 1 + nf sz (sz - p) r
theorem nf_pk {sz : Int} : ∀ (r : List Int) (c : Int), (∀ p ∈ r, 1 ≤ p ∧ p ≤ sz) → Pk (c :: List.replicate (nf sz c r) sz) r
  | [], c, _ => .nil
  | p :: r, c, h => by
    have hp := h p (by simp)
    unfold nf
    by_cases e : p ≤ c
    · rw [if_pos e]
      exact .cons (List.Perm.refl _) e (nf_pk r (c - p) fun x hx => h x (by simp [hx]))
    · rw [if_neg e, Nat.add_comm, List.replicate_succ]
      refine .cons (List.Perm.swap _ _ _) hp.2 ?_
      exact (nf_pk r (sz - p) fun x hx => h x (by simp [hx])).wk.caps (List.Perm.swap _ _ _)
theorem nf_start {sz : Int} {ps : List Int} (h : ∀ p ∈ ps, 1 ≤ p ∧ p ≤ sz) : Pk (List.replicate (nf sz 0 ps) sz) ps := by
  cases ps with
  | nil => exact .nil
  | cons p r =>
    have hp := h p (by simp)
    unfold nf
    rw [if_neg (by omega), Nat.add_comm, List.replicate_succ]
    exact .cons (List.Perm.refl _) hp.2 (nf_pk r (sz - p) fun x hx => h x (by simp [hx]))
/-- Two neighbours together exceed a sheet. -/
theorem nf_two {sz : Int} : ∀ (r : List Int) (c : Int), c ≤ sz → (∀ p ∈ r, 1 ≤ p ∧ p ≤ sz) → (∀ m : Nat, nf sz c r = 2 * m → (m : Int) * (sz + 1) ≤ r.sum) ∧ (∀ m : Nat, nf sz c r = 2 * m + 1 → ((m + 1 : Nat) : Int) * (sz + 1) ≤ (sz - c) + r.sum)
  | [], c, hc, _ => ⟨fun m e => by
      unfold nf at e
      obtain rfl : m = 0 := by omega
      simp, fun m e => by unfold nf at e; omega⟩
  | p :: r, c, hc, h => by
    have hp := h p (by simp)
    have hr : ∀ x ∈ r, 1 ≤ x ∧ x ≤ sz := fun x hx => h x (by simp [hx])
    unfold nf
    rw [List.sum_cons]
    by_cases e : p ≤ c
    · rw [if_pos e]
      obtain ⟨h1, h2⟩ := nf_two r (c - p) (by omega) hr
      exact ⟨fun m hm => by have := h1 m hm; omega, fun m hm => by have := h2 m hm; omega⟩
    · rw [if_neg e]
      obtain ⟨h1, h2⟩ := nf_two r (sz - p) (by omega) hr
      refine ⟨fun m hm => ?_, fun m hm => ?_⟩
      · obtain ⟨k, rfl⟩ : ∃ k, m = k + 1 := ⟨m - 1, by omega⟩
        have := h2 k (by omega)
        omega
      · have := h1 m (by omega)
        rw [Int.natCast_add, Int.add_mul]
        omega
theorem rep_sum (k : Nat) (x : Int) : (List.replicate k x).sum = (k : Int) * x := by
  induction k with
  | zero => simp
  | succ k ih =>
    rw [List.replicate_succ, List.sum_cons, ih, Int.natCast_add, Int.add_mul]
    omega
theorem nf_up {sz : Int} {ps : List Int} {f : Nat} (hs : 1 ≤ sz) (h0 : ps ≠ []) (h : ∀ p ∈ ps, 1 ≤ p ∧ p ≤ sz) (hf : ps.sum ≤ (f : Int) * sz) : nf sz 0 ps + 1 ≤ 2 * f := by
  obtain ⟨p, r, rfl⟩ := List.exists_cons_of_ne_nil h0
  have hp := h p (by simp)
  have hr : ∀ x ∈ r, 1 ≤ x ∧ x ≤ sz := fun x hx => h x (by simp [hx])
  obtain ⟨h1, h2⟩ := nf_two r (sz - p) (by omega) hr
  unfold nf
  rw [if_neg (by omega)]
  rw [List.sum_cons] at hf
  have key : ∀ m t : Nat, (m : Int) * (sz + 1) + t ≤ p + r.sum → 1 ≤ m + t → m + 1 ≤ f := fun m t hm h1 => by
    apply Nat.lt_of_not_le
    intro hle
    have a1 : (f : Int) * sz ≤ (m : Int) * sz := Int.mul_le_mul_of_nonneg_right (by omega) (by omega)
    rw [Int.mul_add] at hm
    omega
  generalize nf sz (sz - p) r = v at *
  rcases Nat.mod_two_eq_zero_or_one v with e | e
  · obtain ⟨k, rfl⟩ : ∃ k, v = 2 * k := ⟨v / 2, by omega⟩
    have hm := h1 k rfl
    have := key k 1 (by omega) (by omega)
    omega
  · obtain ⟨k, rfl⟩ : ∃ k, v = 2 * k + 1 := ⟨v / 2, by omega⟩
    have hm := h2 k rfl
    have := key (k + 1) 0 (by omega) (by omega)
    omega
theorem sum_nn : ∀ (r : List Int), (∀ x ∈ r, 0 ≤ x) → 0 ≤ r.sum
  | [], _ => by simp
  | x :: r, h => by
    have := h x (by simp)
    have := sum_nn r fun y hy => h y (by simp [hy])
    rw [List.sum_cons]
    omega
/-- A falling chain fills all sheets but the last. -/
theorem nf_chain {sz : Int} (hs : 1 ≤ sz) : ∀ (r : List Int) (c : Int), 0 ≤ c → (∀ p ∈ r, 1 ≤ p ∧ sz % p = 0 ∧ c % p = 0) → r.Pairwise (fun x y => x % y = 0) → ∀ m : Nat, nf sz c r = m + 1 → c + (m : Int) * sz + 1 ≤ r.sum
  | [], c, _, _, _ => fun m e => by unfold nf at e; omega
  | p :: r, c, hc, h, hw => by
    intro m hm
    obtain ⟨h1, h2, h3⟩ := h p (by simp)
    rw [List.pairwise_cons] at hw
    unfold nf at hm
    rw [List.sum_cons]
    have hsub : ∀ x : Int, (∀ q ∈ r, x % q = 0) → ∀ q ∈ r, (x - p) % q = 0 := fun x hx q hq =>
      Int.emod_eq_zero_of_dvd (Int.dvd_sub (Int.dvd_of_emod_eq_zero (hx q hq)) (Int.dvd_of_emod_eq_zero (hw.1 q hq)))
    by_cases e : p ≤ c
    · rw [if_pos e] at hm
      have := nf_chain hs r (c - p) (by omega) (fun q hq => ⟨(h q (by simp [hq])).1, (h q (by simp [hq])).2.1, hsub c (fun q hq => (h q (by simp [hq])).2.2) q hq⟩) hw.2 m hm
      omega
    · rw [if_neg e] at hm
      have hc0 : c = 0 := by
        have := Int.emod_eq_of_lt hc (show c < p by omega)
        omega
      subst hc0
      have hps : p ≤ sz := Int.le_of_dvd (by omega) (Int.dvd_of_emod_eq_zero h2)
      cases m with
      | zero =>
        have := sum_nn r fun x hx => by have := (h x (by simp [hx])).1; omega
        simp
        omega
      | succ m =>
        have := nf_chain hs r (sz - p) (by omega) (fun q hq => ⟨(h q (by simp [hq])).1, (h q (by simp [hq])).2.1, hsub sz (fun q hq => (h q (by simp [hq])).2.1) q hq⟩) hw.2 m (by omega)
        rw [Int.natCast_add, Int.add_mul]
        omega
/-- The fewest sheets, and the next fit of any order of the same pieces. -/
theorem nf_fw {sz : Int} {ps ts : List Int} (hj : Job sz ps) (h0 : ps ≠ []) (hp : ts.Perm ps) : (fw sz ps : Int) ≤ nf sz 0 ts ∧ nf sz 0 ts + 1 ≤ 2 * fw sz ps ∧
    ((∀ p ∈ ts, sz % p = 0) → ts.Pairwise (fun x y => x % y = 0) → nf sz 0 ts = fw sz ps) := by
  have hs := hj.lo
  have ht : ∀ p ∈ ts, 1 ≤ p ∧ p ≤ sz := fun p h => hj.ok p (hp.mem_iff.1 h)
  obtain ⟨f1, f2, f3⟩ := fw_spec hj
  have hsum := (apl_pk.1 f1).sum (fun c hc => by rw [List.eq_of_mem_replicate hc]; omega)
  rw [rep_sum, ← psum hp] at hsum
  have hle : fw sz ps ≤ nf sz 0 ts := by
    apply Nat.le_of_not_lt
    intro hlt
    have h1 := (nf_start ht).perm hp (fun x hx => by have := ht x hx; omega)
    exact apl_pk.2 h1 (f3 _ hlt)
  refine ⟨by omega, nf_up hs (fun e => h0 (by subst e; exact hp.nil_eq.symm)) ht hsum, fun hd hw => ?_⟩
  apply Nat.le_antisymm _ hle
  cases hv : nf sz 0 ts with
  | zero => omega
  | succ m =>
    have := nf_chain hs ts 0 (by omega) (fun p hp => ⟨(ht p hp).1, hd p hp, by simp⟩) hw m hv
    apply Nat.lt_of_not_le
    intro hle2
    have a1 : (fw sz ps : Int) * sz ≤ (m : Int) * sz := Int.mul_le_mul_of_nonneg_right (by omega) (by omega)
    omega
end Go.Proofs.YtkfkbebinhkdlaaGreatDoor.Sht
/-
  Volumes: the next fit, by the program.
-/
set_option linter.unusedVariables false
set_option linter.unusedSimpArgs false
set_option maxRecDepth 100000
namespace Go.Proofs.YtkfkbebinhkdlaaGreatDoor.Sht
open Go.Vi
theorem lim_dec {α : Type} {a : Nat} {x : α} (h : a < 1000000) : decide (a + [x].length ≤ lim) = true := decide_eq_true (by simp [lim]; omega)
def dup (l : List Int) : List (Int × Int) := l.map fun x => (x, x)
theorem dup_len (l : List Int) : (dup l).length = l.length := List.length_map _
theorem arts_loop (n : Nat × Nat) (l : List Int) (sz : Int) (h8 : l.length ≤ 8) : ∀ (d k m : Nat), k + d = l.length → d < m → DL6_1 n m l (l.length : Int) (k : Int) sz 0 (dup (l.take k)) = (D7 n (dup l, sz, 0)).bind fun r2' => bif (r2'.2 != 0) then some (-1) else some (r2'.1.length : Int)
  | 0, k, m, hk, hm => by
    obtain ⟨m, rfl⟩ : ∃ j, m = j + 1 := ⟨m - 1, by omega⟩
    rw [DL6_1_succ]
    unfold DF6_1
    rw [dlt_f (by omega), cond_false, List.take_of_length_le (by omega)]
  | d + 1, k, m, hk, hm => by
    obtain ⟨m, rfl⟩ : ∃ j, m = j + 1 := ⟨m - 1, by omega⟩
    rw [DL6_1_succ]
    unfold DF6_1
    have hlt : k < l.length := by omega
    rw [dlt_t hlt, cond_true, idx_nat hlt, Option.bind_some, lim_dec (by rw [dup_len]; simp; omega), cond_true, wr_succ (by omega), ← arts_loop n l sz h8 d (k + 1) m (by omega) (by omega), take_snoc hlt]
    unfold dup
    rw [List.map_append]
    rfl
theorem ok_loop (n : Nat × Nat) {l : List Int} {sz : Int} (h8 : l.length ≤ 8) (hs : 1 ≤ sz ∧ sz ≤ 24) (h : ∀ p ∈ l, 1 ≤ p ∧ p ≤ sz) : ∀ (d k m : Nat), k + d = l.length → d < m → DL18_1 n m (dup l) (l.length : Int) (k : Int) (dup l) sz 0 = some 0
  | 0, k, m, hk, hm => by
    obtain ⟨m, rfl⟩ : ∃ j, m = j + 1 := ⟨m - 1, by omega⟩
    rw [DL18_1_succ]
    unfold DF18_1
    rw [dlt_f (by omega), cond_false, show decide (sz < 1) = false by simp; omega, show decide (sz > 100) = false by simp; omega, show decide ((0 : Int) > sz) = false by simp; omega]
    rfl
  | d + 1, k, m, hk, hm => by
    obtain ⟨m, rfl⟩ : ∃ j, m = j + 1 := ⟨m - 1, by omega⟩
    rw [DL18_1_succ]
    unfold DF18_1
    have hlt : k < l.length := by omega
    have hp := h l[k] (List.getElem_mem _)
    have e : idx (dup l) (k : Int) = some (l[k], l[k]) := by
      rw [idx_nat (by rw [dup_len]; exact hlt)]
      simp [dup]
    rw [dlt_t hlt, cond_true, e, Option.bind_some]
    generalize l[k] = x at hp
    rw [if_neg (by simp), show decide ((x, x).1 < 1) = false by simp; omega, show decide ((x, x).1 > 30) = false by simp; omega, show decide ((x, x).1 > (x, x).2) = false by simp, wr_succ (by omega)]
    exact ok_loop n h8 hs h d (k + 1) m (by omega) (by omega)
/-- The sums of the first pieces. -/
def pre (l : List Int) (k : Nat) : List Int := (List.range (k + 1)).map fun i => (l.take i).sum
theorem pre_len (l : List Int) (k : Nat) : (pre l k).length = k + 1 := by simp [pre]
theorem pre_idx (l : List Int) {k i : Nat} (h : i ≤ k) : idx (pre l k) (i : Int) = some (l.take i).sum := by
  rw [idx_nat (by rw [pre_len]; omega)]
  simp [pre]
theorem sum_bd {l : List Int} {sz : Int} (hs : 1 ≤ sz ∧ sz ≤ 24) (h : ∀ p ∈ l, 1 ≤ p ∧ p ≤ sz) : 0 ≤ l.sum ∧ l.sum ≤ 24 * l.length := by
  induction l with
  | nil => simp
  | cons a l ih =>
    have h1 := h a (by simp)
    have h2 := ih fun p hp => h p (by simp [hp])
    rw [List.sum_cons, List.length_cons]
    omega
theorem take_sum {l : List Int} {k : Nat} (h : k < l.length) : (l.take (k + 1)).sum = (l.take k).sum + l[k] := by
  rw [take_snoc h, List.sum_append]
  simp
theorem take_bd {l : List Int} {sz : Int} (h8 : l.length ≤ 8) (hs : 1 ≤ sz ∧ sz ≤ 24) (h : ∀ p ∈ l, 1 ≤ p ∧ p ≤ sz) (k : Nat) : 0 ≤ (l.take k).sum ∧ (l.take k).sum ≤ 200 := by
  have := sum_bd hs (l := l.take k) fun p hp => h p (List.mem_of_mem_take hp)
  have h2 : (l.take k).length ≤ 8 := by rw [List.length_take]; omega
  omega
theorem cnt_loop (n : Nat × Nat) {l : List Int} {sz : Int} (h8 : l.length ≤ 8) (hs : 1 ≤ sz ∧ sz ≤ 24) (h : ∀ p ∈ l, 1 ≤ p ∧ p ≤ sz) : ∀ (d k m : Nat), k + d = l.length → d < m → DL19c20_1 n m (dup l) (l.length : Int) (k : Int) (pre l k) = some (pre l l.length)
  | 0, k, m, hk, hm => by
    obtain ⟨m, rfl⟩ : ∃ j, m = j + 1 := ⟨m - 1, by omega⟩
    rw [DL19c20_1_succ]
    unfold DF19c20_1
    rw [dlt_f (by omega), cond_false, show k = l.length by omega]
  | d + 1, k, m, hk, hm => by
    obtain ⟨m, rfl⟩ : ∃ j, m = j + 1 := ⟨m - 1, by omega⟩
    rw [DL19c20_1_succ]
    unfold DF19c20_1
    have hlt : k < l.length := by omega
    have hp := h l[k] (List.getElem_mem _)
    have hb := take_bd h8 hs h k
    have e : idx (dup l) (k : Int) = some (l[k], l[k]) := by
      rw [idx_nat (by rw [dup_len]; exact hlt)]
      simp [dup]
    have w : wr .i64 (((pre l k).length : Int) - 1) = (k : Int) := by
      rw [pre_len, wr_ok (by omega) (by omega)]
      omega
    rw [dlt_t hlt, cond_true, e, Option.bind_some, w, inB_nat (by rw [pre_len]; omega), cond_true, pre_idx l (Nat.le_refl k), Option.bind_some]
    unfold D20
    rw [Option.bind_some, wr_ok (by simp; omega) (by simp; omega), lim_dec (by rw [pre_len]; omega), cond_true, wr_succ (by omega), ← cnt_loop n h8 hs h d (k + 1) m (by omega) (by omega)]
    congr 1
    have e2 : pre l (k + 1) = pre l k ++ [(l.take (k + 1)).sum] := by simp [pre, List.range_succ]
    rw [e2, take_sum hlt]
theorem btw (n : Nat × Nat) {l : List Int} {sz : Int} (h8 : l.length ≤ 8) (hs : 1 ≤ sz ∧ sz ≤ 24) (h : ∀ p ∈ l, 1 ≤ p ∧ p ≤ sz) {i j : Nat} (hi : i ≤ l.length) (hj : j ≤ l.length) : D33 n (pre l l.length) (i : Int) (j : Int) = some ((l.take j).sum - (l.take i).sum) := by
  have h1 := take_bd h8 hs h i
  have h2 := take_bd h8 hs h j
  unfold D33
  rw [pre_idx l hj, Option.bind_some, pre_idx l hi, Option.bind_some, wr_ok (by omega) (by omega)]
theorem fill_loop (n : Nat × Nat) {l : List Int} {sz : Int} (h8 : l.length ≤ 8) (hs : 1 ≤ sz ∧ sz ≤ 24) (h : ∀ p ∈ l, 1 ≤ p ∧ p ≤ sz) : ∀ (d k m b : Nat) (out : List Int), k + d = l.length → d < m → b ≤ k → out.length ≤ k → 0 ≤ sz - ((l.take k).sum - (l.take b).sum) →
    ∃ r, DL21_1 n m (pre l l.length) sz (b : Int) ((k : Int) + 1) out = some r ∧ r.length = out.length + 1 + nf sz (sz - ((l.take k).sum - (l.take b).sum)) (l.drop k)
  | 0, k, m, b, out, hk, hm, hb, ho, hc => by
    obtain ⟨m, rfl⟩ : ∃ j, m = j + 1 := ⟨m - 1, by omega⟩
    rw [DL21_1_succ]
    unfold DF21_1
    rw [show decide ((k : Int) + 1 < ((pre l l.length).length : Int)) = false by rw [pre_len]; simp; omega, cond_false, lim_dec (by omega), cond_true, List.drop_of_length_le (by omega)]
    exact ⟨_, rfl, by simp [nf]⟩
  | d + 1, k, m, b, out, hk, hm, hb, ho, hc => by
    obtain ⟨m, rfl⟩ : ∃ j, m = j + 1 := ⟨m - 1, by omega⟩
    rw [DL21_1_succ]
    unfold DF21_1 DL21_2
    have hlt : k < l.length := by omega
    have hp := h l[k] (List.getElem_mem _)
    have hts := take_sum hlt
    have w : wr .i64 ((k : Int) + 1 - 1) = (k : Int) := by rw [wr_ok (by omega) (by omega)]; omega
    have w1 : wr .i64 ((k : Int) + 1 + 1) = ((k + 1 : Nat) : Int) + 1 := by rw [wr_ok (by omega) (by omega)]; omega
    have c1 : ((k : Int) + 1) = ((k + 1 : Nat) : Int) := by omega
    rw [w1, w, show decide ((k : Int) + 1 < ((pre l l.length).length : Int)) = true by rw [pre_len]; simp; omega, cond_true, c1, btw n h8 hs h (by omega) (by omega), Option.bind_some, hts,
      show decide ((l.take k).sum + l[k] - (l.take k).sum > sz) = false by simp; omega, cond_false, btw n h8 hs h (by omega) (by omega), Option.bind_some, hts, List.drop_eq_getElem_cons hlt]
    unfold nf
    by_cases e : l[k] ≤ sz - ((l.take k).sum - (l.take b).sum)
    · rw [if_pos e, show decide ((l.take k).sum + l[k] - (l.take b).sum > sz) = false by simp; omega, cond_false]
      obtain ⟨r, h1, h2⟩ := fill_loop n h8 hs h d (k + 1) m b out (by omega) (by omega) (by omega) (by omega) (by omega)
      refine ⟨r, h1, ?_⟩
      rw [h2, hts]
      congr 2
      omega
    · rw [if_neg e, show decide ((l.take k).sum + l[k] - (l.take b).sum > sz) = true by simp; omega, cond_true, lim_dec (by omega), cond_true]
      obtain ⟨r, h1, h2⟩ := fill_loop n h8 hs h d (k + 1) m k (out ++ [(k : Int)]) (by omega) (by omega) (by omega) (by simp; omega) (by omega)
      refine ⟨r, h1, ?_⟩
      rw [h2, hts, List.length_append, show sz - ((l.take k).sum + l[k] - (l.take k).sum) = sz - l[k] by omega]
      simp
      omega
theorem vol_eq {n : Nat × Nat} (hn : 1000 ≤ n.1) {l : List Int} {sz : Int} (h8 : l.length ≤ 8) (h0 : l ≠ []) (hs : 1 ≤ sz ∧ sz ≤ 24) (h : ∀ p ∈ l, 1 ≤ p ∧ p ≤ sz) : D6 n l sz = some (nf sz 0 l : Int) := by
  have hpos : 0 < l.length := List.length_pos_iff.2 h0
  have a1 := arts_loop n l sz h8 l.length 0 n.1 (by omega) (by omega)
  have a2 : D18 n (dup l, sz, 0) = some 0 := by
    unfold D18
    rw [show ((((dup l, sz, (0 : Int)).1).length : Int) == 0) = false by simp [dup_len]; omega, cond_false, show decide ((((dup l, sz, (0 : Int)).1).length : Int) > 12) = false by simp [dup_len]; omega, cond_false]
    simp only [dup_len]
    exact ok_loop n h8 hs h l.length 0 n.1 (by omega) (by omega)
  have a3 : D19c20 n (dup l, sz, 0) = some (pre l l.length) := by
    unfold D19c20
    simp only [dup_len]
    exact cnt_loop n h8 hs h l.length 0 n.1 (by omega) (by omega)
  obtain ⟨r, r1, r2⟩ := fill_loop n h8 hs h l.length 0 n.1 0 [] (by omega) (by omega) (by omega) (by simp) (by simp; omega)
  have a4 : D21 n (pre l l.length) sz = some r := r1
  have hl : r.length = nf sz 0 l := by
    rw [r2]
    obtain ⟨p, t, rfl⟩ := List.exists_cons_of_ne_nil h0
    have hp := h p (by simp)
    simp [nf]
    rw [if_pos hp.2, if_neg (by omega)]
  have a5 : D7 n (dup l, sz, 0) = some (r, 0) := by
    unfold D7
    rw [a2, Option.bind_some, show ((0 : Int) != 0) = false from rfl, cond_false, a3, Option.bind_some]
    show (D21 n (pre l l.length) sz).bind _ = _
    rw [a4, Option.bind_some, show r.isEmpty = false by rw [List.isEmpty_eq_false_iff]; intro e; subst e; simp at r2; omega, cond_false]
  unfold D6
  refine a1.trans ?_
  rw [a5, Option.bind_some, show (((r, (0 : Int)).2) != 0) = false from rfl, cond_false, hl]
end Go.Proofs.YtkfkbebinhkdlaaGreatDoor.Sht
/-
  Sheets and volumes: the law.
-/
set_option linter.unusedVariables false
set_option linter.unusedSimpArgs false
set_option maxRecDepth 100000
namespace Go.Proofs.YtkfkbebinhkdlaaGreatDoor.Sht
open Go.Vi
theorem works_ok : D11 N = some true := by kernel_rfl
def fln (ps : List Int) : List Int := (fal ps).map (pc ps)
theorem inB_int {i : Int} {n : Nat} (h0 : 0 ≤ i) (h1 : i < n) : inB i n = true := by
  unfold inB
  simp
  omega
theorem fin_ok {sz : Int} {ps : List Int} (hj : Job sz ps) (h0 : ps ≠ []) (f : Int → Bool → Int → Int → List Int → Int → List Int → List Int → Option R3) : DF3_2 N f (fw sz ps : Int) (decide (IsC sz ps)) ((fal ps).length : Int) ((fal ps).length : Int) ps sz (fln ps) (fal ps) = some true := by
  have hp : (fln ps).Perm ps := fal_map ps
  obtain ⟨h1, h2, h3⟩ := nf_fw hj h0 hp
  have h8 : (fln ps).length ≤ 8 := by rw [hp.length_eq]; exact hj.len
  have hn0 : fln ps ≠ [] := fun e => h0 (by rw [e] at hp; exact hp.nil_eq.symm)
  have hv := vol_eq hN1 h8 hn0 ⟨hj.lo, hj.hi⟩ (fun p h => hj.ok p (hp.mem_iff.1 h))
  have hf := (fw_spec hj).2.1
  have hl := hj.len
  have hc : IsC sz ps → nf sz 0 (fln ps) = fw sz ps := fun hi => by
    have := (chn_fall (fun p hm => (hj.ok p (hp.mem_iff.1 hm)).1) (fal_down ps)).2 ((isC_perm hp).2 hi)
    obtain ⟨a1, a2⟩ := (chn_iff _ _).1 this
    exact h3 a1 a2
  unfold DF3_2
  rw [show decide (((fal ps).length : Int) < ((fal ps).length : Int)) = false by simp, cond_false, hv, Option.bind_some, works_ok]
  rw [show decide ((nf sz 0 (fln ps) : Int) ≥ (fw sz ps : Int)) = true by simp; omega, wr_ok (by omega) (by omega), show decide ((nf sz 0 (fln ps) : Int) < 2 * (fw sz ps : Int)) = true by simp; omega]
  by_cases hi : IsC sz ps
  · rw [show decide (IsC sz ps) = true from decide_eq_true hi, hc hi]
    simp
  · rw [show decide (IsC sz ps) = false from decide_eq_false hi]
    simp
theorem fal_step {sz : Int} {ps : List Int} (hj : Job sz ps) (h0 : ps ≠ []) : ∀ (d i m : Nat), i + d = (fal ps).length → d < m → DL3_2 N m (fw sz ps : Int) (decide (IsC sz ps)) ((fal ps).length : Int) (i : Int) ps sz ((fln ps).take i) (fal ps) = some true
  | 0, i, m, hi, hm => by
    obtain ⟨m, rfl⟩ : ∃ j, m = j + 1 := ⟨m - 1, by omega⟩
    obtain rfl : i = (fal ps).length := by omega
    rw [DL3_2_succ, List.take_of_length_le (by simp [fln])]
    exact fin_ok hj h0 _
  | d + 1, i, m, hi, hm => by
    obtain ⟨m, rfl⟩ : ∃ j, m = j + 1 := ⟨m - 1, by omega⟩
    have hlt : i < (fal ps).length := by omega
    have h8 : (fal ps).length ≤ 8 := by rw [fal_len]; exact hj.len
    obtain ⟨x0, x1⟩ := fal_rng ps (fal ps)[i] (List.getElem_mem _)
    have hfl : (fln ps).length = (fal ps).length := by simp [fln]
    have hx : (fln ps)[i]'(by omega) = pc ps (fal ps)[i] := by simp [fln]
    rw [DL3_2_succ]
    unfold DF3_2
    rw [dlt_t hlt, cond_true, inB_nat hlt, cond_true, idx_nat hlt, Option.bind_some]
    have hd := fal_down ps
    rw [show decide ((fal ps)[i] < 0) = false by simp; omega, show decide ((fal ps)[i] ≥ (ps.length : Int)) = false by simp; omega]
    have hcmp : ((bif (decide ((i : Int) > 0) == true) then (bif inB (fal ps)[i] ps.length then (idx ps (fal ps)[i]).bind fun x16' =>
                  (bif inB (wr .i64 ((i : Int) - 1)) ((fln ps).take i).length then (idx ((fln ps).take i) (wr .i64 ((i : Int) - 1))).bind fun x17' =>
                    some (decide (x16' > x17'))
                  else none)
                else none)
              else some false)) = some false := by
      by_cases hz : i = 0
      · subst hz; rfl
      · have w : wr .i64 ((i : Int) - 1) = ((i - 1 : Nat) : Int) := by rw [wr_ok (by omega) (by omega)]; omega
        have ht : ((fln ps).take i).length = i := by rw [List.length_take]; omega
        rw [show decide ((i : Int) > 0) = true by simp; omega, inB_int x0 x1, idx_pc x0 x1, w, inB_nat (by omega), idx_nat (by omega)]
        have := List.pairwise_iff_getElem.1 hd (i - 1) i (by simpa using (show i - 1 < (fal ps).length by omega)) (by simpa using hlt) (by omega)
        rw [List.getElem_take]
        simp [fln] at this ⊢
        omega
    simp only [beq_self_eq_true, cond_true, Option.bind_some, hcmp, show (false == false) = true from rfl, cond_false]
    rw [inB_int x0 x1, cond_true, idx_pc x0 x1, Option.bind_some, lim_dec (by rw [List.length_take]; omega), cond_true, wr_succ (by omega), ← hx, ← take_snoc (by omega)]
    exact fal_step hj h0 d (i + 1) m (by omega) (by omega)
end Go.Proofs.YtkfkbebinhkdlaaGreatDoor.Sht
/-
  Sheets and volumes: every input.
-/
set_option linter.unusedVariables false
set_option linter.unusedSimpArgs false
set_option maxRecDepth 100000
namespace Go.Proofs.YtkfkbebinhkdlaaGreatDoor.Sht
open Go.Vi
theorem job_ok {sz : Int} {l : List Int} (hj : Job sz l) (h0 : l ≠ []) (chain : Int) (hc : (Int.tmod chain 2 == 1) = true → IsC sz l) (f : Int → List Int → Int → Int → Int → List Int → Option R3) (v37 : List Int) (k : Int) : DF3_1 N f chain v37 k k sz l = some true := by
  have hk : chk sz l = 0 := chk_job.2 hj
  obtain ⟨h1, h2, h3⟩ := nf_fw hj h0 (List.Perm.refl l)
  have hv := vol_eq hN1 hj.len h0 ⟨hj.lo, hj.hi⟩ hj.ok
  have e8 : D8 N sz l = some ((fw sz l : Int), 0) := by rw [Fewest_eq]; unfold fwS; rw [if_neg (by simp [hk])]
  have e9 : D9 N sz l = some (decide (IsC sz l), 0) := by rw [Chain_eq hN1]; unfold chS; rw [if_neg (by simp [hk])]
  have e10 : D10 N sz l = some (fal l, 0) := by rw [Fall_eq hN1, if_neg (by simp [hk])]
  have hf := (fw_spec hj).2.1
  have hl := hj.len
  have hstep := fal_step hj h0 (fal l).length 0 N.1 (by omega) (by rw [fal_len]; have : N.1 = 1000000 := rfl; omega)
  rw [List.take_zero] at hstep
  unfold DF3_1
  rw [show decide (k < k) = false by simp, cond_false, e8, Option.bind_some, e9, Option.bind_some, e10, Option.bind_some, hv, Option.bind_some]
  simp only []
  rw [wr_ok (x := 2 * (fw sz l : Int)) (by omega) (by omega), wr_ok (by omega) (by omega)]
  rw [show decide ((nf sz 0 l : Int) < (fw sz l : Int)) = false by simp; omega, show decide ((nf sz 0 l : Int) > 2 * (fw sz l : Int) - 1) = false by simp; omega, show (((fal l).length : Int) != (l.length : Int)) = false by simp [fal_len]]
  have hlast : (bif (Int.tmod chain 2 == 1) == true then some (!decide (IsC sz l)) else some false) = some false := by
    cases hb : (Int.tmod chain 2 == 1) with
    | false => rfl
    | true => rw [decide_eq_true (hc hb)]; rfl
  rw [hlast]
  exact hstep
/-- The pieces that are made of the numbers. -/
def mkp (chain sz x : Int) : Int := if Int.tmod chain 2 == 1 then ([1, 2, 4, 12, 24] : List Int).getD (Int.tmod x 5).toNat 0 else wr .i64 (1 + Int.tmod (wr .i64 x) sz)
theorem t5 {x : Int} (h : 0 ≤ x ∧ x ≤ 255) : ∃ a : Nat, a < 5 ∧ Int.tmod x 5 = (a : Int) := by
  obtain ⟨y, rfl⟩ := Int.eq_ofNat_of_zero_le h.1
  exact ⟨y % 5, Nat.mod_lt _ (by decide), (Int.ofNat_tmod y 5).symm⟩
theorem tsz {x sz : Int} (h : 0 ≤ x ∧ x ≤ 255) (hs : 1 ≤ sz ∧ sz ≤ 24) : 1 ≤ wr .i64 (1 + Int.tmod (wr .i64 x) sz) ∧ wr .i64 (1 + Int.tmod (wr .i64 x) sz) ≤ sz := by
  rw [wr_ok (x := x) (by omega) (by omega), Int.tmod_eq_emod_of_nonneg h.1]
  have h1 := Int.emod_nonneg x (show sz ≠ 0 by omega)
  have h2 := Int.emod_lt_of_pos x (show 0 < sz by omega)
  rw [wr_ok (by omega) (by omega)]
  omega
theorem mk_loop {chain sz : Int} (hs : 1 ≤ sz ∧ sz ≤ 24) {l : List Int} (h8 : l.length ≤ 8) (hr : ∀ x ∈ l, 0 ≤ x ∧ x ≤ 255) : ∀ (d i m : Nat), i + d = l.length → d < m → ∃ f, DL3_1 N m chain l (l.length : Int) (i : Int) sz ((l.take i).map (mkp chain sz)) = DF3_1 N f chain l (l.length : Int) (l.length : Int) sz (l.map (mkp chain sz))
  | 0, i, m, hi, hm => by
    obtain ⟨m, rfl⟩ : ∃ j, m = j + 1 := ⟨m - 1, by omega⟩
    obtain rfl : i = l.length := by omega
    rw [DL3_1_succ, List.take_of_length_le (by omega)]
    exact ⟨_, rfl⟩
  | d + 1, i, m, hi, hm => by
    obtain ⟨m, rfl⟩ : ∃ j, m = j + 1 := ⟨m - 1, by omega⟩
    have hlt : i < l.length := by omega
    obtain ⟨f, hf⟩ := mk_loop (chain := chain) hs h8 hr d (i + 1) m (by omega) (by omega)
    refine ⟨f, ?_⟩
    rw [← hf, DL3_1_succ]
    conv => lhs; unfold DF3_1
    have hx := hr l[i] (List.getElem_mem _)
    have e : (l.take (i + 1)).map (mkp chain sz) = (l.take i).map (mkp chain sz) ++ [mkp chain sz l[i]] := by
      rw [take_snoc hlt, List.map_append]
      rfl
    have hlen : ((l.take i).map (mkp chain sz)).length < 1000000 := by rw [List.length_map, List.length_take]; omega
    rw [dlt_t hlt, cond_true, idx_nat hlt, Option.bind_some, show (sz == 0) = false by simp; omega, cond_false, show (2 == 0) = false from rfl, cond_false, e, wr_succ (by omega)]
    cases hb : (Int.tmod chain 2 == 1) with
    | true =>
      obtain ⟨a, ha, e5⟩ := t5 hx
      have e6 : mkp chain sz l[i] = ([1, 2, 4, 12, 24] : List Int)[a]'ha := by
        unfold mkp
        rw [hb, if_pos rfl, e5, Int.toNat_natCast, List.getD_eq_getElem?_getD, List.getElem?_eq_getElem ha]
        rfl
      rw [cond_true, show (5 == 0) = false from rfl, cond_false, e5, show inB (a : Int) [1, 2, 4, 12, 24].length = true from inB_nat ha, cond_true, idx_nat (l := ([1, 2, 4, 12, 24] : List Int)) ha, Option.bind_some, lim_dec hlen, cond_true, ← e6]
    | false =>
      have e6 : mkp chain sz l[i] = wr .i64 (1 + Int.tmod (wr .i64 l[i]) sz) := by
        unfold mkp
        rw [hb]
        rfl
      rw [cond_false, lim_dec hlen, cond_true, ← e6]
theorem div_cmp : ∀ a : Fin 5, ∀ b : Fin 5, Cmp (([1, 2, 4, 12, 24] : List Int)[a.val]) (([1, 2, 4, 12, 24] : List Int)[b.val]) := by decide
theorem div_ok : ∀ a : Fin 5, 1 ≤ ([1, 2, 4, 12, 24] : List Int)[a.val] ∧ ([1, 2, 4, 12, 24] : List Int)[a.val] ≤ 24 ∧ 24 % ([1, 2, 4, 12, 24] : List Int)[a.val] = 0 := by decide
theorem mkp_odd {chain sz x : Int} (hb : (Int.tmod chain 2 == 1) = true) (h : 0 ≤ x ∧ x ≤ 255) : ∃ a : Fin 5, mkp chain sz x = ([1, 2, 4, 12, 24] : List Int)[a.val] := by
  obtain ⟨a, ha, e5⟩ := t5 h
  refine ⟨⟨a, ha⟩, ?_⟩
  unfold mkp
  rw [hb, if_pos rfl, e5, Int.toNat_natCast, List.getD_eq_getElem?_getD, List.getElem?_eq_getElem ha]
  rfl
theorem made_ok {chain sz : Int} (hs : 1 ≤ sz ∧ sz ≤ 24) (h24 : (Int.tmod chain 2 == 1) = true → sz = 24) {l : List Int} (h8 : l.length ≤ 8) (h0 : l ≠ []) (hr : ∀ x ∈ l, 0 ≤ x ∧ x ≤ 255) : DL3_1 N N.1 chain l (l.length : Int) 0 sz [] = some true := by
  obtain ⟨f, hf⟩ := mk_loop (chain := chain) hs h8 hr l.length 0 N.1 (by omega) (by have : N.1 = 1000000 := rfl; omega)
  refine hf.trans (job_ok ⟨hs.1, hs.2, by rw [List.length_map]; exact h8, ?_⟩ (by simpa using h0) chain ?_ f _ _)
  · intro p hp
    obtain ⟨x, hx, rfl⟩ := List.mem_map.1 hp
    cases hb : (Int.tmod chain 2 == 1) with
    | true =>
      obtain ⟨a, ha⟩ := mkp_odd (sz := sz) hb (hr x hx)
      rw [ha, h24 hb]
      exact ⟨(div_ok a).1, (div_ok a).2.1⟩
    | false =>
      unfold mkp
      rw [hb]
      exact tsz (hr x hx) hs
  · intro hb
    obtain rfl := h24 hb
    refine ⟨fun p hp => ?_, ?_⟩
    · obtain ⟨x, hx, rfl⟩ := List.mem_map.1 hp
      obtain ⟨a, ha⟩ := mkp_odd (sz := 24) hb (hr x hx)
      rw [ha]
      exact (div_ok a).2.2
    · rw [List.pairwise_map]
      refine List.Pairwise.imp_of_mem (R := fun _ _ => True) ?_ (List.pairwise_of_forall fun _ _ => trivial)
      intro x y hx hy _
      obtain ⟨a, ha⟩ := mkp_odd (sz := 24) hb (hr x hx)
      obtain ⟨b, hb⟩ := mkp_odd (sz := 24) hb (hr y hy)
      rw [ha, hb]
      exact div_cmp a b
def ShP : Sh := .pair (.int .u8) (.pair (.int .u8) (.pair (.int .u8) (.pair (.int .u8) (.pair (.int .u8) (.pair (.int .u8) (.pair (.int .u8) (.int .u8)))))))
theorem bounds8 {a : Nat} (h : a < 8) : bounds none (some (((a + 1 : Nat)) : Int)) none 8 = true := by
  have : ((List.range 8).all fun a => bounds none (some (((a + 1 : Nat)) : Int)) none 8) = true := by kernel_rfl
  exact List.all_eq_true.1 this a (List.mem_range.2 h)
theorem sheets_all (size many chain : Int) (p : Int × Int × Int × Int × Int × Int × Int × Int) (h1 : 0 ≤ size ∧ size ≤ 255) (h2 : 0 ≤ many ∧ many ≤ 255) (h : Wf ShP p) : D3 N size many chain p = some true := by
  obtain ⟨a, ha, e⟩ := tmod_small 8 (by decide) h2
  have e : Int.tmod (wr .i64 many) 8 = (a : Int) := e
  have w : wr .i64 (1 + (a : Int)) = ((a + 1 : Nat) : Int) := by rw [wr_ok (by omega) (by omega)]; omega
  have hr : ∀ x ∈ [p.1, p.2.1, p.2.2.1, p.2.2.2.1, p.2.2.2.2.1, p.2.2.2.2.2.1, p.2.2.2.2.2.2.1, p.2.2.2.2.2.2.2], 0 ≤ x ∧ x ≤ 255 := by
    intro x hx
    simp only [List.mem_cons, List.not_mem_nil, or_false] at hx
    rcases hx with rfl | rfl | rfl | rfl | rfl | rfl | rfl | rfl
    · exact by_u8 h.1
    · exact by_u8 h.2.1
    · exact by_u8 h.2.2.1
    · exact by_u8 h.2.2.2.1
    · exact by_u8 h.2.2.2.2.1
    · exact by_u8 h.2.2.2.2.2.1
    · exact by_u8 h.2.2.2.2.2.2.1
    · exact by_u8 h.2.2.2.2.2.2.2
  unfold D3
  rw [show (24 == 0) = false from rfl, cond_false, show (2 == 0) = false from rfl, cond_false, show (8 == 0) = false from rfl, cond_false, cond_false, e, w, bounds8 ha, cond_true, cond_true, Int.toNat_natCast]
  have hlen : ([p.1, p.2.1, p.2.2.1, p.2.2.2.1, p.2.2.2.2.1, p.2.2.2.2.2.1, p.2.2.2.2.2.2.1, p.2.2.2.2.2.2.2] : List Int).length = 8 := rfl
  generalize ([p.1, p.2.1, p.2.2.1, p.2.2.2.1, p.2.2.2.2.1, p.2.2.2.2.2.1, p.2.2.2.2.2.2.1, p.2.2.2.2.2.2.2] : List Int) = L at hr hlen ⊢
  have h8 : (L.take (a + 1)).length ≤ 8 := by rw [List.length_take]; omega
  have h0 : L.take (a + 1) ≠ [] := by
    intro e
    have := congrArg List.length e
    rw [List.length_take, List.length_nil] at this
    omega
  have hr2 : ∀ x ∈ L.take (a + 1), 0 ≤ x ∧ x ≤ 255 := fun x hx => hr x (List.mem_of_mem_take hx)
  cases hb : (Int.tmod chain 2 == 1) with
  | true =>
    rw [cond_true]
    exact made_ok ⟨by decide, by decide⟩ (fun _ => rfl) h8 h0 hr2
  | false =>
    rw [cond_false]
    have := tsz (sz := 24) h1 (by decide)
    exact made_ok this (fun e => by rw [hb] at e; cases e) h8 h0 hr2
end Go.Proofs.YtkfkbebinhkdlaaGreatDoor.Sht
