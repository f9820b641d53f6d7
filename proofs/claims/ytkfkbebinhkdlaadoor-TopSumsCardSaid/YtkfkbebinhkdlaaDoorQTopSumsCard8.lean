/- Texts of this claim, joined: D44 to Td. -/
import Derived.KernelRfl
import Derived.Test.YtkfkbebinhkdlaaDoorProg
import Derived.WalkKit
import Derived.Test.YtkfkbebinhkdlaaDoorQTopSumsCard7
set_option linter.unusedVariables false
set_option linter.unusedSimpArgs false
set_option maxRecDepth 100000
namespace Go.Proofs.YtkfkbebinhkdlaaDoor
open Go.Vi
/-D 44 -/
noncomputable def D44 (n : Nat × Nat) (b0 : Int × List (Int × Int)) : Option R44 :=
 (D11 n b0).bind fun r1' =>
 (bif (r1'.2 != 0) then some ([], r1'.2)
 else (bif ((r1'.1.length : Int) == 0) then some ([], 12)
 else (bif inB 0 r1'.1.length then (idx r1'.1 0).bind fun x2' =>
 some (x2', 0)
 else none)))
theorem S44_D (n : Nat × Nat) (hn : n.2 = 1) : S44 n = D44 n := by
  funext b0; refine (S44_eq n b0).trans ?_
  unfold D44
  (try simp only [S11_D n hn]) <;> first | with_reducible rfl | rfl
/-D 65 -/
noncomputable def DF65_1 (n : Nat × Nat) (f1 : ByteArray → Nat → Option R65) (v9s : ByteArray) (v9p : Nat) : Option R65 :=
 (bif Nat.blt v9p v9s.size then ((strBytes v9s)[v9p]?).bind fun x1' =>
 (bif decide (x1' < 128) then ((bif (decide (x1' < 97) == false) then some (decide (x1' ≥ 103))
 else some true)).bind fun b2' =>
 (bif b2' then some 10
 else f1 v9s (v9p + 1))
 else none)
 else some 0)
noncomputable def DL65_1 (n : Nat × Nat) (m : Nat) : ByteArray → Nat → Option R65 := Nat.rec (motive := fun _ => ByteArray → Nat → Option R65) (fun _ _ => none) (fun _ ih => DF65_1 n ih) m
theorem DL65_1_succ (n : Nat × Nat) (m : Nat) : DL65_1 n (m + 1) = DF65_1 n (DL65_1 n m) := rfl
theorem DL65_1_eq (n : Nat × Nat) (hn : n.2 = 1) : ∀ m, L65_1 n m = DL65_1 n m
  | 0 => by funext v9s v9p; kernel_rfl
  | m + 1 => by
    have ih := DL65_1_eq n hn m
    funext v9s v9p; refine (L65_1_eq n m v9s v9p).trans ?_
    rw [DL65_1_succ]
    unfold DF65_1
    (try simp only [ih]) <;> first | with_reducible rfl | rfl
noncomputable def D65 (n : Nat × Nat) (word0 : ByteArray) : Option R65 :=
 (bif decide ((word0.size : Int) > 10) then some 19
 else DL65_1 n n.1 word0 0)
theorem S65_D (n : Nat × Nat) (hn : n.2 = 1) : S65 n = D65 n := by
  funext word0; refine (S65_eq n word0).trans ?_
  unfold D65
  (try simp only [DL65_1_eq n hn]) <;> first | with_reducible rfl | rfl
/-D 31 -/
noncomputable def DF31_1 (n : Nat × Nat) (f1 : List ByteArray → Int → Int → Option R31) (v6 : List ByteArray) (v7 : Int) (v8 : Int) : Option R31 :=
 (bif decide (v8 < v7) then (idx v6 v8).bind fun x1' =>
 (D65 n x1').bind fun r2' =>
 (bif (r2' != 0) then some r2'
 else f1 v6 v7 (wr .i64 (v8 + 1)))
 else some 0)
noncomputable def DL31_1 (n : Nat × Nat) (m : Nat) : List ByteArray → Int → Int → Option R31 := Nat.rec (motive := fun _ => List ByteArray → Int → Int → Option R31) (fun _ _ _ => none) (fun _ ih => DF31_1 n ih) m
theorem DL31_1_succ (n : Nat × Nat) (m : Nat) : DL31_1 n (m + 1) = DF31_1 n (DL31_1 n m) := rfl
theorem DL31_1_eq (n : Nat × Nat) (hn : n.2 = 1) : ∀ m, L31_1 n m = DL31_1 n m
  | 0 => by funext v6 v7 v8; kernel_rfl
  | m + 1 => by
    have ih := DL31_1_eq n hn m
    funext v6 v7 v8; refine (L31_1_eq n m v6 v7 v8).trans ?_
    rw [DL31_1_succ]
    unfold DF31_1
    (try simp only [ih, S65_D n hn]) <;> first | with_reducible rfl | rfl
noncomputable def D31 (n : Nat × Nat) (words0 : List ByteArray) : Option R31 :=
    DL31_1 n n.1 words0 (words0.length : Int) 0
theorem S31_D (n : Nat × Nat) (hn : n.2 = 1) : S31 n = D31 n := by
  funext words0; refine (S31_eq n words0).trans ?_
  unfold D31
  (try simp only [DL31_1_eq n hn, S65_D n hn]) <;> first | with_reducible rfl | rfl
/-D 75 -/
noncomputable def DL75_3 (n : Nat × Nat) (f1 : ByteArray → List Int → Int → Int → List Int → Option R75) (f2 : ByteArray → Int → Int → List Int → Int → Int → List Int → Option R75) (part1 : ByteArray) (c9 : Int) (k10 : Int) (v25 : List Int) (v26 : Int) (v27 : Int) (begun7 : List Int) : Option R75 :=
    f2 part1 c9 (wr .i64 (k10 - 1)) v25 v26 v27 begun7
theorem DL75_3_eq (n : Nat × Nat) (hn : n.2 = 1) (m1 m2 : Nat) : L75_3 n m1 m2 = DL75_3 n (L75_1 n m1) (L75_2 n m1 m2) := by
  funext part1 c9 k10 v25 v26 v27 begun7; refine ((held_eq hn _).trans (L75_3_raw n m1 m2 part1 c9 k10 v25 v26 v27 begun7)).trans ?_
  unfold DL75_3
  (try simp only [S31_D n hn]) <;> first | with_reducible rfl | rfl
noncomputable def DF75_2 (n : Nat × Nat) (f1 : ByteArray → List Int → Int → Int → List Int → Option R75) (f2 : ByteArray → Int → Int → List Int → Int → Int → List Int → Option R75) (part1 : ByteArray) (c9 : Int) (k10 : Int) (v25 : List Int) (v26 : Int) (v27 : Int) (begun7 : List Int) : Option R75 :=
 (bif decide (k10 > 0) then (idx (strBytes part1) (wr .i64 (k10 - 1))).bind fun x5' =>
 (bif (x5' == c9) then (bif inB k10 begun7.length then (idx begun7 k10).bind fun x6' =>
 (bif inB (wr .i64 (k10 - 1)) begun7.length then (idx begun7 (wr .i64 (k10 - 1))).bind fun x7' =>
 (bif inB k10 begun7.length then (idx begun7 k10).bind fun x8' =>
              DL75_3 n f1 f2 part1 c9 k10 v25 v26 v27 (begun7.set (Int.toNat k10) (wr .i64 (x6' + x7')))
 else none)
 else none)
 else none)
 else DL75_3 n f1 f2 part1 c9 k10 v25 v26 v27 begun7)
 else f1 part1 v25 v26 (wr .i64 (v27 + 1)) begun7)
noncomputable def DL75_2 (n : Nat × Nat) (f1 : ByteArray → List Int → Int → Int → List Int → Option R75) (m : Nat) : ByteArray → Int → Int → List Int → Int → Int → List Int → Option R75 := Nat.rec (motive := fun _ => ByteArray → Int → Int → List Int → Int → Int → List Int → Option R75) (fun _ _ _ _ _ _ _ => none) (fun _ ih => DF75_2 n f1 ih) m
theorem DL75_2_succ (n : Nat × Nat) (f1 : ByteArray → List Int → Int → Int → List Int → Option R75) (m : Nat) : DL75_2 n f1 (m + 1) = DF75_2 n f1 (DL75_2 n f1 m) := rfl
theorem DL75_2_eq (n : Nat × Nat) (hn : n.2 = 1) (m1 : Nat) : ∀ m, L75_2 n m1 m = DL75_2 n (L75_1 n m1) m
  | 0 => by funext part1 c9 k10 v25 v26 v27 begun7; kernel_rfl
  | m + 1 => by
    have ih := DL75_2_eq n hn m1 m
    funext part1 c9 k10 v25 v26 v27 begun7; refine (L75_2_eq n m1 m part1 c9 k10 v25 v26 v27 begun7).trans ?_
    rw [DL75_2_succ]
    unfold DF75_2
    (try simp only [ih, DL75_3_eq n hn, S31_D n hn]) <;> first | with_reducible rfl | rfl
noncomputable def DF75_1 (n : Nat × Nat) (f1 : ByteArray → List Int → Int → Int → List Int → Option R75) (part1 : ByteArray) (v25 : List Int) (v26 : Int) (v27 : Int) (begun7 : List Int) : Option R75 :=
 (bif decide (v27 < v26) then (idx v25 v27).bind fun x3' =>
      DL75_2 n f1 n.1 part1 x3' (part1.size : Int) v25 v26 v27 begun7
 else (bif inB (part1.size : Int) begun7.length then (idx begun7 (part1.size : Int)).bind fun x4' =>
 some (x4', 0)
 else none))
noncomputable def DL75_1 (n : Nat × Nat) (m : Nat) : ByteArray → List Int → Int → Int → List Int → Option R75 := Nat.rec (motive := fun _ => ByteArray → List Int → Int → Int → List Int → Option R75) (fun _ _ _ _ _ => none) (fun _ ih => DF75_1 n ih) m
theorem DL75_1_succ (n : Nat × Nat) (m : Nat) : DL75_1 n (m + 1) = DF75_1 n (DL75_1 n m) := rfl
theorem DL75_1_eq (n : Nat × Nat) (hn : n.2 = 1) : ∀ m, L75_1 n m = DL75_1 n m
  | 0 => by funext part1 v25 v26 v27 begun7; kernel_rfl
  | m + 1 => by
    have ih := DL75_1_eq n hn m
    funext part1 v25 v26 v27 begun7; refine (L75_1_eq n m part1 v25 v26 v27 begun7).trans ?_
    rw [DL75_1_succ]
    unfold DF75_1
    (try simp only [ih, DL75_3_eq n hn, DL75_2_eq n hn, S31_D n hn]) <;> first | with_reducible rfl | rfl
noncomputable def D75 (n : Nat × Nat) (word0 : ByteArray) (part1 : ByteArray) : Option R75 :=
 (D31 n [word0, part1]).bind fun r1' =>
 (bif (r1' != 0) then some (0, r1')
 else (bif decide (0 ≤ wr .i64 ((part1.size : Int) + 1)) && decide (wr .i64 ((part1.size : Int) + 1) ≤ wr .i64 ((part1.size : Int) + 1)) && decide (wr .i64 ((part1.size : Int) + 1) ≤ lim) then (bif inB 0 (List.replicate (Int.toNat (wr .i64 ((part1.size : Int) + 1))) (0 : Int)).length then (idx (List.replicate (Int.toNat (wr .i64 ((part1.size : Int) + 1))) (0 : Int)) 0).bind fun x2' =>
          DL75_1 n n.1 part1 (strBytes word0) ((strBytes word0).length : Int) 0 ((List.replicate (Int.toNat (wr .i64 ((part1.size : Int) + 1))) (0 : Int)).set (Int.toNat 0) 1)
 else none)
 else none))
theorem S75_D (n : Nat × Nat) (hn : n.2 = 1) : S75 n = D75 n := by
  funext word0 part1; refine (S75_eq n word0 part1).trans ?_
  unfold D75
  (try simp only [DL75_3_eq n hn, DL75_2_eq n hn, DL75_1_eq n hn, S31_D n hn]) <;> first | with_reducible rfl | rfl
/-D 105 -/
noncomputable def DF105_1 (n : Nat × Nat) (f1 : Int → ByteArray → Nat → Option R105) (letters1 : Int) (v22s : ByteArray) (v22p : Nat) : Option R105 :=
 (bif Nat.blt v22p v22s.size then ((strBytes v22s)[v22p]?).bind fun x3' =>
 (bif decide (x3' < 128) then (bif decide (x3' ≥ wr .i32 (97 + (wr .i32 letters1))) then some 2
 else f1 letters1 v22s (v22p + 1))
 else none)
 else some 0)
noncomputable def DL105_1 (n : Nat × Nat) (m : Nat) : Int → ByteArray → Nat → Option R105 := Nat.rec (motive := fun _ => Int → ByteArray → Nat → Option R105) (fun _ _ _ => none) (fun _ ih => DF105_1 n ih) m
theorem DL105_1_succ (n : Nat × Nat) (m : Nat) : DL105_1 n (m + 1) = DF105_1 n (DL105_1 n m) := rfl
theorem DL105_1_eq (n : Nat × Nat) (hn : n.2 = 1) : ∀ m, L105_1 n m = DL105_1 n m
  | 0 => by funext letters1 v22s v22p; kernel_rfl
  | m + 1 => by
    have ih := DL105_1_eq n hn m
    funext letters1 v22s v22p; refine (L105_1_eq n m letters1 v22s v22p).trans ?_
    rw [DL105_1_succ]
    unfold DF105_1
    (try simp only [ih, S65_D n hn]) <;> first | with_reducible rfl | rfl
noncomputable def D105 (n : Nat × Nat) (word0 : ByteArray) (letters1 : Int) : Option R105 :=
 (D65 n word0).bind fun r1' =>
 (bif (r1' != 0) then some r1'
 else ((bif (decide (letters1 < 1) == false) then some (decide (letters1 > 6))
 else some true)).bind fun b2' =>
 (bif b2' then some 1
 else DL105_1 n n.1 letters1 word0 0))
theorem S105_D (n : Nat × Nat) (hn : n.2 = 1) : S105 n = D105 n := by
  funext word0 letters1; refine (S105_eq n word0 letters1).trans ?_
  unfold D105
  (try simp only [DL105_1_eq n hn, S65_D n hn]) <;> first | with_reducible rfl | rfl
/-D 106 -/
noncomputable def DF106_1 (n : Nat × Nat) (f1 : Int → List Int → (List (Int × Bool)) → ByteArray → Nat → Option R106) (letters1 : Int) (out5 : List Int) (met6 : List (Int × Bool)) (v11s : ByteArray) (v11p : Nat) : Option R106 :=
 (bif Nat.blt v11p v11s.size then ((strBytes v11s)[v11p]?).bind fun x1' =>
 (bif decide (x1' < 128) then (bif (((aset met6 x1' true).length : Int) == letters1) then (bif decide (out5.length + [wr .i64 ((v11p : Int) + 1)].length ≤ lim) then f1 letters1 (out5 ++ [wr .i64 ((v11p : Int) + 1)]) [] v11s (v11p + 1)
 else none)
 else f1 letters1 out5 (aset met6 x1' true) v11s (v11p + 1))
 else none)
 else some out5)
noncomputable def DL106_1 (n : Nat × Nat) (m : Nat) : Int → List Int → (List (Int × Bool)) → ByteArray → Nat → Option R106 := Nat.rec (motive := fun _ => Int → List Int → (List (Int × Bool)) → ByteArray → Nat → Option R106) (fun _ _ _ _ _ => none) (fun _ ih => DF106_1 n ih) m
theorem DL106_1_succ (n : Nat × Nat) (m : Nat) : DL106_1 n (m + 1) = DF106_1 n (DL106_1 n m) := rfl
theorem DL106_1_eq (n : Nat × Nat) (hn : n.2 = 1) : ∀ m, L106_1 n m = DL106_1 n m
  | 0 => by funext letters1 out5 met6 v11s v11p; kernel_rfl
  | m + 1 => by
    have ih := DL106_1_eq n hn m
    funext letters1 out5 met6 v11s v11p; refine (L106_1_eq n m letters1 out5 met6 v11s v11p).trans ?_
    rw [DL106_1_succ]
    unfold DF106_1
    (try simp only [ih]) <;> first | with_reducible rfl | rfl
noncomputable def D106 (n : Nat × Nat) (word0 : ByteArray) (letters1 : Int) : Option R106 :=
    DL106_1 n n.1 letters1 [] [] word0 0
theorem S106_D (n : Nat × Nat) (hn : n.2 = 1) : S106 n = D106 n := by
  funext word0 letters1; refine (S106_eq n word0 letters1).trans ?_
  unfold D106
  (try simp only [DL106_1_eq n hn]) <;> first | with_reducible rfl | rfl
/-D 107 -/
noncomputable def DF107_1 (n : Nat × Nat) (f1 : List Int → Int → Int → Int → Option R107) (s0 : List Int) (v1 : Int) (v7 : Int) (v8 : Int) : Option R107 :=
 (bif decide (v8 < v7) then (idx s0 v8).bind fun x1' =>
 (bif (v1 == x1') then some v8
 else f1 s0 v1 v7 (wr .i64 (v8 + 1)))
 else some (-1))
noncomputable def DL107_1 (n : Nat × Nat) (m : Nat) : List Int → Int → Int → Int → Option R107 := Nat.rec (motive := fun _ => List Int → Int → Int → Int → Option R107) (fun _ _ _ _ => none) (fun _ ih => DF107_1 n ih) m
theorem DL107_1_succ (n : Nat × Nat) (m : Nat) : DL107_1 n (m + 1) = DF107_1 n (DL107_1 n m) := rfl
theorem DL107_1_eq (n : Nat × Nat) (hn : n.2 = 1) : ∀ m, L107_1 n m = DL107_1 n m
  | 0 => by funext s0 v1 v7 v8; kernel_rfl
  | m + 1 => by
    have ih := DL107_1_eq n hn m
    funext s0 v1 v7 v8; refine (L107_1_eq n m s0 v1 v7 v8).trans ?_
    rw [DL107_1_succ]
    unfold DF107_1
    (try simp only [ih]) <;> first | with_reducible rfl | rfl
noncomputable def D107 (n : Nat × Nat) (s0 : List Int) (v1 : Int) : Option R107 :=
    DL107_1 n n.1 s0 v1 (s0.length : Int) 0
theorem S107_D (n : Nat × Nat) (hn : n.2 = 1) : S107 n = D107 n := by
  funext s0 v1; refine (S107_eq n s0 v1).trans ?_
  unfold D107
  (try simp only [DL107_1_eq n hn]) <;> first | with_reducible rfl | rfl
/-D 76 -/
noncomputable def DL76_3 (n : Nat × Nat) (f1 : ByteArray → Int → List Int → Option R76) (f2 : ByteArray → Int → Int → Bool → Int → List Int → Option R76) (word0 : ByteArray) (letters1 : Int) (left8 : Int) (found9 : Bool) (c10 : Int) (out7 : List Int) : Option R76 :=
    f2 word0 letters1 left8 found9 (wr .u8 (c10 + 1)) out7
theorem DL76_3_eq (n : Nat × Nat) (hn : n.2 = 1) (m1 m2 : Nat) : L76_3 n m1 m2 = DL76_3 n (L76_1 n m1) (L76_2 n m1 m2) := by
  funext word0 letters1 left8 found9 c10 out7; refine ((held_eq hn _).trans (L76_3_raw n m1 m2 word0 letters1 left8 found9 c10 out7)).trans ?_
  unfold DL76_3
  (try simp only [S105_D n hn, S106_D n hn, S107_D n hn]) <;> first | with_reducible rfl | rfl
noncomputable def DF76_2 (n : Nat × Nat) (f1 : ByteArray → Int → List Int → Option R76) (f2 : ByteArray → Int → Int → Bool → Int → List Int → Option R76) (word0 : ByteArray) (letters1 : Int) (left8 : Int) (found9 : Bool) (c10 : Int) (out7 : List Int) : Option R76 :=
 ((bif (decide (c10 < wr .u8 (wr .i64 (97 + letters1))) == true) then some (!found9)
 else some false)).bind fun b3' =>
 (bif b3' then (D107 n (strBytes word0) c10).bind fun r4' =>
 (bif decide (r4' < 0) then (bif decide (out7.length + [c10].length ≤ lim) then some (strNums (out7 ++ [c10]), 0)
 else none)
 else ((bif (decide (left8 > 0) == true) then (bif bounds (some (wr .i64 (r4' + 1))) none none word0.size then (D106 n (strCut (some (wr .i64 (r4' + 1))) none word0) letters1).bind fun r5' =>
 some ((r5'.length : Int) == (wr .i64 (left8 - 1)))
 else none)
 else some false)).bind fun b6' =>
 (bif b6' then (bif decide (out7.length + [c10].length ≤ lim) then (bif bounds (some (wr .i64 (r4' + 1))) none none word0.size then DL76_3 n f1 f2 (strCut (some (wr .i64 (r4' + 1))) none word0) letters1 left8 true c10 (out7 ++ [c10])
 else none)
 else none)
 else DL76_3 n f1 f2 word0 letters1 left8 found9 c10 out7))
 else f1 word0 letters1 out7)
noncomputable def DL76_2 (n : Nat × Nat) (f1 : ByteArray → Int → List Int → Option R76) (m : Nat) : ByteArray → Int → Int → Bool → Int → List Int → Option R76 := Nat.rec (motive := fun _ => ByteArray → Int → Int → Bool → Int → List Int → Option R76) (fun _ _ _ _ _ _ => none) (fun _ ih => DF76_2 n f1 ih) m
theorem DL76_2_succ (n : Nat × Nat) (f1 : ByteArray → Int → List Int → Option R76) (m : Nat) : DL76_2 n f1 (m + 1) = DF76_2 n f1 (DL76_2 n f1 m) := rfl
theorem DL76_2_eq (n : Nat × Nat) (hn : n.2 = 1) (m1 : Nat) : ∀ m, L76_2 n m1 m = DL76_2 n (L76_1 n m1) m
  | 0 => by funext word0 letters1 left8 found9 c10 out7; kernel_rfl
  | m + 1 => by
    have ih := DL76_2_eq n hn m1 m
    funext word0 letters1 left8 found9 c10 out7; refine (L76_2_eq n m1 m word0 letters1 left8 found9 c10 out7).trans ?_
    rw [DL76_2_succ]
    unfold DF76_2
    (try simp only [ih, DL76_3_eq n hn, S105_D n hn, S106_D n hn, S107_D n hn]) <;> first | with_reducible rfl | rfl
noncomputable def DF76_1 (n : Nat × Nat) (f1 : ByteArray → Int → List Int → Option R76) (word0 : ByteArray) (letters1 : Int) (out7 : List Int) : Option R76 :=
 (D106 n word0 letters1).bind fun r2' =>
    DL76_2 n f1 n.1 word0 letters1 (r2'.length : Int) false 97 out7
noncomputable def DL76_1 (n : Nat × Nat) (m : Nat) : ByteArray → Int → List Int → Option R76 := Nat.rec (motive := fun _ => ByteArray → Int → List Int → Option R76) (fun _ _ _ => none) (fun _ ih => DF76_1 n ih) m
theorem DL76_1_succ (n : Nat × Nat) (m : Nat) : DL76_1 n (m + 1) = DF76_1 n (DL76_1 n m) := rfl
theorem DL76_1_eq (n : Nat × Nat) (hn : n.2 = 1) : ∀ m, L76_1 n m = DL76_1 n m
  | 0 => by funext word0 letters1 out7; kernel_rfl
  | m + 1 => by
    have ih := DL76_1_eq n hn m
    funext word0 letters1 out7; refine (L76_1_eq n m word0 letters1 out7).trans ?_
    rw [DL76_1_succ]
    unfold DF76_1
    (try simp only [ih, DL76_3_eq n hn, DL76_2_eq n hn, S105_D n hn, S106_D n hn, S107_D n hn]) <;> first | with_reducible rfl | rfl
noncomputable def D76 (n : Nat × Nat) (word0 : ByteArray) (letters1 : Int) : Option R76 :=
 (D105 n word0 letters1).bind fun r1' =>
 (bif (r1' != 0) then some ((⟨#[]⟩ : ByteArray), r1')
 else DL76_1 n n.1 word0 letters1 [])
theorem S76_D (n : Nat × Nat) (hn : n.2 = 1) : S76 n = D76 n := by
  funext word0 letters1; refine (S76_eq n word0 letters1).trans ?_
  unfold D76
  (try simp only [DL76_3_eq n hn, DL76_2_eq n hn, DL76_1_eq n hn, S105_D n hn, S106_D n hn, S107_D n hn]) <;> first | with_reducible rfl | rfl
/-D 32 -/
noncomputable def DL32_2 (n : Nat × Nat) (f1 : ByteArray → ByteArray → Int → Option R32) (word0 : ByteArray) (part1 : ByteArray) (i5 : Int) : Option R32 :=
    f1 word0 part1 (wr .i64 (i5 + 1))
theorem DL32_2_eq (n : Nat × Nat) (hn : n.2 = 1) (m1 : Nat) : L32_2 n m1 = DL32_2 n (L32_1 n m1) := by
  funext word0 part1 i5; refine ((held_eq hn _).trans (L32_2_raw n m1 word0 part1 i5)).trans ?_
  unfold DL32_2
  first | with_reducible rfl | rfl
noncomputable def DF32_1 (n : Nat × Nat) (f1 : ByteArray → ByteArray → Int → Option R32) (word0 : ByteArray) (part1 : ByteArray) (i5 : Int) : Option R32 :=
 ((bif (decide (i5 < (word0.size : Int)) == true) then some (!strEq part1 (⟨#[]⟩ : ByteArray))
 else some false)).bind fun b1' =>
 (bif b1' then (idx (strBytes word0) i5).bind fun x2' =>
 (idx (strBytes part1) 0).bind fun x3' =>
 (bif (x2' == x3') then (bif bounds (some 1) none none part1.size then DL32_2 n f1 word0 (strCut (some 1) none part1) i5
 else none)
 else DL32_2 n f1 word0 part1 i5)
 else some (strEq part1 (⟨#[]⟩ : ByteArray)))
noncomputable def DL32_1 (n : Nat × Nat) (m : Nat) : ByteArray → ByteArray → Int → Option R32 := Nat.rec (motive := fun _ => ByteArray → ByteArray → Int → Option R32) (fun _ _ _ => none) (fun _ ih => DF32_1 n ih) m
theorem DL32_1_succ (n : Nat × Nat) (m : Nat) : DL32_1 n (m + 1) = DF32_1 n (DL32_1 n m) := rfl
theorem DL32_1_eq (n : Nat × Nat) (hn : n.2 = 1) : ∀ m, L32_1 n m = DL32_1 n m
  | 0 => by funext word0 part1 i5; kernel_rfl
  | m + 1 => by
    have ih := DL32_1_eq n hn m
    funext word0 part1 i5; refine (L32_1_eq n m word0 part1 i5).trans ?_
    rw [DL32_1_succ]
    unfold DF32_1
    (try simp only [ih, DL32_2_eq n hn]) <;> first | with_reducible rfl | rfl
noncomputable def D32 (n : Nat × Nat) (word0 : ByteArray) (part1 : ByteArray) : Option R32 :=
    DL32_1 n n.1 word0 part1 0
theorem S32_D (n : Nat × Nat) (hn : n.2 = 1) : S32 n = D32 n := by
  funext word0 part1; refine (S32_eq n word0 part1).trans ?_
  unfold D32
  (try simp only [DL32_2_eq n hn, DL32_1_eq n hn]) <;> first | with_reducible rfl | rfl
/-D 45 -/
noncomputable def D45 (n : Nat × Nat) : Option R45 :=
 (D75 n (⟨#[97, 98, 99, 97]⟩ : ByteArray) (⟨#[97]⟩ : ByteArray)).bind fun r1' =>
 (D76 n (⟨#[97, 98, 98, 97]⟩ : ByteArray) 2).bind fun r2' =>
 ((bif ((r1'.2 == 0) == true) then some (r2'.2 == 0)
 else some false)).bind fun b3' =>
 ((bif (b3' == true) then some (r1'.1 == 2)
 else some false)).bind fun b4' =>
 ((bif (b4' == true) then some (strEq r2'.1 (⟨#[97, 97, 97]⟩ : ByteArray))
 else some false)).bind fun b5' =>
 ((bif (b5' == true) then (D32 n (⟨#[100, 97, 121, 45, 98, 111, 111, 107]⟩ : ByteArray) (⟨#[121, 98, 107]⟩ : ByteArray)).bind fun r6' =>
 some r6'
 else some false)).bind fun b7' =>
 some b7'
theorem S45_D (n : Nat × Nat) (hn : n.2 = 1) : S45 n = D45 n := by
  refine (S45_eq n).trans ?_
  unfold D45
  (try simp only [S32_D n hn, S75_D n hn, S76_D n hn]) <;> first | with_reducible rfl | rfl
/-D 16 -/
noncomputable def D16 (n : Nat × Nat) : Option R16 :=
 (D44 n (3, [(0, 1), (1, 2)])).bind fun r1' =>
 ((bif ((r1'.2 == 0) == true) then (D14 n r1'.1 [0, 2]).bind fun r2' =>
 some r2'
 else some false)).bind fun b3' =>
 ((bif (b3' == true) then (D45 n).bind fun r4' =>
 some r4'
 else some false)).bind fun b5' =>
 some b5'
theorem S16_D (n : Nat × Nat) (hn : n.2 = 1) : S16 n = D16 n := by
  refine (S16_eq n).trans ?_
  unfold D16
  (try simp only [S14_D n hn, S44_D n hn, S45_D n hn]) <;> first | with_reducible rfl | rfl
/-D 83 -/
noncomputable def D83 (n : Nat × Nat) : Option R83 :=
 (D113 n (3, [(0, 1), (0, 2), (1, 2)])).bind fun r1' =>
 ((bif ((r1'.2 == 0) == true) then (D14 n r1'.1 [0, 1]).bind fun r2' =>
 some r2'
 else some false)).bind fun b3' =>
 ((bif (b3' == true) then (D16 n).bind fun r4' =>
 some r4'
 else some false)).bind fun b5' =>
 some b5'
theorem S83_D (n : Nat × Nat) (hn : n.2 = 1) : S83 n = D83 n := by
  refine (S83_eq n).trans ?_
  unfold D83
  (try simp only [S113_D n hn, S14_D n hn, S16_D n hn]) <;> first | with_reducible rfl | rfl
/-D 51 -/
noncomputable def D51 (n : Nat × Nat) : Option R51 :=
 (D17 n (2, [0, 1, 2, 0, 1])).bind fun r1' =>
 ((bif ((r1'.2 == 0) == true) then some (r1'.1 == 4)
 else some false)).bind fun b2' =>
 ((bif (b2' == true) then (D83 n).bind fun r3' =>
 some r3'
 else some false)).bind fun b4' =>
 some b4'
theorem S51_D (n : Nat × Nat) (hn : n.2 = 1) : S51 n = D51 n := by
  refine (S51_eq n).trans ?_
  unfold D51
  (try simp only [S17_D n hn, S83_D n hn]) <;> first | with_reducible rfl | rfl
/-D 20 -/
noncomputable def D20 (n : Nat × Nat) : Option R20 :=
 (D50 n [(3, 1), (1, 1), (2, 1)]).bind fun r1' =>
 ((bif ((r1'.2 == 0) == true) then (D14 n r1'.1 [0]).bind fun r2' =>
 some r2'
 else some false)).bind fun b3' =>
 ((bif (b3' == true) then (D51 n).bind fun r4' =>
 some r4'
 else some false)).bind fun b5' =>
 some b5'
theorem S20_D (n : Nat × Nat) (hn : n.2 = 1) : S20 n = D20 n := by
  refine (S20_eq n).trans ?_
  unfold D20
  (try simp only [S14_D n hn, S50_D n hn, S51_D n hn]) <;> first | with_reducible rfl | rfl
/-D 54 -/
noncomputable def DF54_1 (n : Nat × Nat) (f1 : (List (Int × Int)) → Int → Int → (List (Int × Int)) → Int → Int → Option R54) (v16 : List (Int × Int)) (v17 : Int) (v18 : Int) (b1_0 : List (Int × Int)) (b1_1 : Int) (b1_2 : Int) : Option R54 :=
 (bif decide (v18 < v17) then (idx v16 v18).bind fun x1' =>
 ((bif (decide ((if x1'.2 < x1'.1 then x1'.2 else x1'.1) < 1) == false) then some (decide ((if x1'.2 > x1'.1 then x1'.2 else x1'.1) > 30))
 else some true)).bind fun b2' =>
 (bif b2' then some 1
 else (bif decide (x1'.1 > x1'.2) then some 7
 else f1 v16 v17 (wr .i64 (v18 + 1)) b1_0 b1_1 b1_2))
 else ((bif (decide (b1_1 < 1) == false) then some (decide (b1_1 > 100))
 else some true)).bind fun b3' =>
 ((bif (b3' == false) then some (decide (b1_2 < 0))
 else some true)).bind fun b4' =>
 ((bif (b4' == false) then some (decide (b1_2 > b1_1))
 else some true)).bind fun b5' =>
 (bif b5' then some 1
 else some 0))
noncomputable def DL54_1 (n : Nat × Nat) (m : Nat) : (List (Int × Int)) → Int → Int → (List (Int × Int)) → Int → Int → Option R54 := Nat.rec (motive := fun _ => (List (Int × Int)) → Int → Int → (List (Int × Int)) → Int → Int → Option R54) (fun _ _ _ _ _ _ => none) (fun _ ih => DF54_1 n ih) m
theorem DL54_1_succ (n : Nat × Nat) (m : Nat) : DL54_1 n (m + 1) = DF54_1 n (DL54_1 n m) := rfl
theorem DL54_1_eq (n : Nat × Nat) (hn : n.2 = 1) : ∀ m, L54_1 n m = DL54_1 n m
  | 0 => by funext v16 v17 v18 b1_0 b1_1 b1_2; kernel_rfl
  | m + 1 => by
    have ih := DL54_1_eq n hn m
    funext v16 v17 v18 b1_0 b1_1 b1_2; refine (L54_1_eq n m v16 v17 v18 b1_0 b1_1 b1_2).trans ?_
    rw [DL54_1_succ]
    unfold DF54_1
    (try simp only [ih]) <;> first | with_reducible rfl | rfl
noncomputable def D54 (n : Nat × Nat) (b0 : (List (Int × Int)) × Int × Int) : Option R54 :=
 (bif ((b0.1.length : Int) == 0) then some 4
 else (bif decide ((b0.1.length : Int) > 12) then some 3
 else DL54_1 n n.1 b0.1 (b0.1.length : Int) 0 b0.1 b0.2.1 b0.2.2))
theorem S54_D (n : Nat × Nat) (hn : n.2 = 1) : S54 n = D54 n := by
  funext b0; refine (S54_eq n b0).trans ?_
  unfold D54
  (try simp only [DL54_1_eq n hn]) <;> first | with_reducible rfl | rfl
/-D 56 -/
noncomputable def D56 (n : Nat × Nat) (a0 : Int × Int) : Option R56 :=
 some a0.2
theorem S56_D (n : Nat × Nat) (hn : n.2 = 1) : S56 n = D56 n := by
  funext a0; refine (S56_eq n a0).trans ?_
  unfold D56
  first | with_reducible rfl | rfl
/-D 55c56 -/
noncomputable def DF55c56_1 (n : Nat × Nat) (f1 : (List (Int × Int)) → Int → Int → List Int → Option R55c56) (v10 : List (Int × Int)) (v11 : Int) (v12 : Int) (out5 : List Int) : Option R55c56 :=
 (bif decide (v12 < v11) then (idx v10 v12).bind fun x1' =>
 (bif inB (wr .i64 ((out5.length : Int) - 1)) out5.length then (idx out5 (wr .i64 ((out5.length : Int) - 1))).bind fun x2' =>
 (D56 n x1').bind fun r3' =>
 (bif decide (out5.length + [wr .i64 (x2' + r3')].length ≤ lim) then f1 v10 v11 (wr .i64 (v12 + 1)) (out5 ++ [wr .i64 (x2' + r3')])
 else none)
 else none)
 else some out5)
noncomputable def DL55c56_1 (n : Nat × Nat) (m : Nat) : (List (Int × Int)) → Int → Int → List Int → Option R55c56 := Nat.rec (motive := fun _ => (List (Int × Int)) → Int → Int → List Int → Option R55c56) (fun _ _ _ _ => none) (fun _ ih => DF55c56_1 n ih) m
theorem DL55c56_1_succ (n : Nat × Nat) (m : Nat) : DL55c56_1 n (m + 1) = DF55c56_1 n (DL55c56_1 n m) := rfl
theorem DL55c56_1_eq (n : Nat × Nat) (hn : n.2 = 1) : ∀ m, L55c56_1 n m = DL55c56_1 n m
  | 0 => by funext v10 v11 v12 out5; kernel_rfl
  | m + 1 => by
    have ih := DL55c56_1_eq n hn m
    funext v10 v11 v12 out5; refine (L55c56_1_eq n m v10 v11 v12 out5).trans ?_
    rw [DL55c56_1_succ]
    unfold DF55c56_1
    (try simp only [ih, S56_D n hn]) <;> first | with_reducible rfl | rfl
noncomputable def D55c56 (n : Nat × Nat) (b0 : (List (Int × Int)) × Int × Int) : Option R55c56 :=
    DL55c56_1 n n.1 b0.1 (b0.1.length : Int) 0 [0]
theorem S55c56_D (n : Nat × Nat) (hn : n.2 = 1) : S55c56 n = D55c56 n := by
  funext b0; refine (S55c56_eq n b0).trans ?_
  unfold D55c56
  (try simp only [DL55c56_1_eq n hn, S56_D n hn]) <;> first | with_reducible rfl | rfl
/-D 86 -/
noncomputable def D86 (n : Nat × Nat) (l0 : List Int) (begin1 : Int) (v2 : Int) : Option R86 :=
 (idx l0 v2).bind fun x1' =>
 (idx l0 begin1).bind fun x2' =>
 some (wr .i64 (x1' - x2'))
theorem S86_D (n : Nat × Nat) (hn : n.2 = 1) : S86 n = D86 n := by
  funext l0 begin1 v2; refine (S86_eq n l0 begin1 v2).trans ?_
  unfold D86
  first | with_reducible rfl | rfl
/-D 57 -/
noncomputable def DL57_2 (n : Nat × Nat) (f1 : List Int → Int → Int → Int → List Int → Option R57) (l0 : List Int) (room1 : Int) (begin6 : Int) (v7 : Int) (out5 : List Int) : Option R57 :=
    f1 l0 room1 begin6 (wr .i64 (v7 + 1)) out5
theorem DL57_2_eq (n : Nat × Nat) (hn : n.2 = 1) (m1 : Nat) : L57_2 n m1 = DL57_2 n (L57_1 n m1) := by
  funext l0 room1 begin6 v7 out5; refine ((held_eq hn _).trans (L57_2_raw n m1 l0 room1 begin6 v7 out5)).trans ?_
  unfold DL57_2
  (try simp only [S86_D n hn]) <;> first | with_reducible rfl | rfl
noncomputable def DF57_1 (n : Nat × Nat) (f1 : List Int → Int → Int → Int → List Int → Option R57) (l0 : List Int) (room1 : Int) (begin6 : Int) (v7 : Int) (out5 : List Int) : Option R57 :=
 (bif decide (v7 < (l0.length : Int)) then (D86 n l0 (wr .i64 (v7 - 1)) v7).bind fun r1' =>
 (bif decide (r1' > room1) then some []
 else (D86 n l0 begin6 v7).bind fun r2' =>
 (bif decide (r2' > room1) then (bif decide (out5.length + [wr .i64 (v7 - 1)].length ≤ lim) then DL57_2 n f1 l0 room1 (wr .i64 (v7 - 1)) v7 (out5 ++ [wr .i64 (v7 - 1)])
 else none)
 else DL57_2 n f1 l0 room1 begin6 v7 out5))
 else (bif decide (out5.length + [wr .i64 ((l0.length : Int) - 1)].length ≤ lim) then some (out5 ++ [wr .i64 ((l0.length : Int) - 1)])
 else none))
noncomputable def DL57_1 (n : Nat × Nat) (m : Nat) : List Int → Int → Int → Int → List Int → Option R57 := Nat.rec (motive := fun _ => List Int → Int → Int → Int → List Int → Option R57) (fun _ _ _ _ _ => none) (fun _ ih => DF57_1 n ih) m
theorem DL57_1_succ (n : Nat × Nat) (m : Nat) : DL57_1 n (m + 1) = DF57_1 n (DL57_1 n m) := rfl
theorem DL57_1_eq (n : Nat × Nat) (hn : n.2 = 1) : ∀ m, L57_1 n m = DL57_1 n m
  | 0 => by funext l0 room1 begin6 v7 out5; kernel_rfl
  | m + 1 => by
    have ih := DL57_1_eq n hn m
    funext l0 room1 begin6 v7 out5; refine (L57_1_eq n m l0 room1 begin6 v7 out5).trans ?_
    rw [DL57_1_succ]
    unfold DF57_1
    (try simp only [ih, DL57_2_eq n hn, S86_D n hn]) <;> first | with_reducible rfl | rfl
noncomputable def D57 (n : Nat × Nat) (l0 : List Int) (room1 : Int) : Option R57 :=
    DL57_1 n n.1 l0 room1 0 1 []
theorem S57_D (n : Nat × Nat) (hn : n.2 = 1) : S57 n = D57 n := by
  funext l0 room1; refine (S57_eq n l0 room1).trans ?_
  unfold D57
  (try simp only [DL57_2_eq n hn, DL57_1_eq n hn, S86_D n hn]) <;> first | with_reducible rfl | rfl
/-D 24 -/
noncomputable def DF24_1 (n : Nat × Nat) (f1 : Int → Int → Int → List Int → Option R24) (volumes1 : Int) (low8 : Int) (high9 : Int) (l7 : List Int) : Option R24 :=
 (bif decide (low8 < high9) then (bif 2 == 0 then none
 else (D57 n l7 (wr .i64 (Int.tdiv (wr .i64 (low8 + high9)) 2))).bind fun r5' =>
 ((bif ((!r5'.isEmpty) == true) then some (decide ((r5'.length : Int) ≤ volumes1))
 else some false)).bind fun b6' =>
 (bif b6' then f1 volumes1 low8 (wr .i64 (Int.tdiv (wr .i64 (low8 + high9)) 2)) l7
 else f1 volumes1 (wr .i64 ((wr .i64 (Int.tdiv (wr .i64 (low8 + high9)) 2)) + 1)) high9 l7))
 else some (low8, 0))
noncomputable def DL24_1 (n : Nat × Nat) (m : Nat) : Int → Int → Int → List Int → Option R24 := Nat.rec (motive := fun _ => Int → Int → Int → List Int → Option R24) (fun _ _ _ _ => none) (fun _ ih => DF24_1 n ih) m
theorem DL24_1_succ (n : Nat × Nat) (m : Nat) : DL24_1 n (m + 1) = DF24_1 n (DL24_1 n m) := rfl
theorem DL24_1_eq (n : Nat × Nat) (hn : n.2 = 1) : ∀ m, L24_1 n m = DL24_1 n m
  | 0 => by funext volumes1 low8 high9 l7; kernel_rfl
  | m + 1 => by
    have ih := DL24_1_eq n hn m
    funext volumes1 low8 high9 l7; refine (L24_1_eq n m volumes1 low8 high9 l7).trans ?_
    rw [DL24_1_succ]
    unfold DF24_1
    (try simp only [ih, S54_D n hn, S55c56_D n hn, S57_D n hn]) <;> first | with_reducible rfl | rfl
noncomputable def D24 (n : Nat × Nat) (b0 : (List (Int × Int)) × Int × Int) (volumes1 : Int) : Option R24 :=
 (D54 n b0).bind fun r1' =>
 (bif (r1' != 0) then some (0, r1')
 else ((bif (decide (volumes1 < 1) == false) then some (decide (volumes1 > (b0.1.length : Int)))
 else some true)).bind fun b2' =>
 (bif b2' then some (0, 1)
 else (D55c56 n b0).bind fun r3' =>
 (bif inB (wr .i64 ((r3'.length : Int) - 1)) r3'.length then (idx r3' (wr .i64 ((r3'.length : Int) - 1))).bind fun x4' =>
          DL24_1 n n.1 volumes1 1 x4' r3'
 else none)))
theorem S24_D (n : Nat × Nat) (hn : n.2 = 1) : S24 n = D24 n := by
  funext b0 volumes1; refine (S24_eq n b0 volumes1).trans ?_
  unfold D24
  (try simp only [DL24_1_eq n hn, S54_D n hn, S55c56_D n hn, S57_D n hn]) <;> first | with_reducible rfl | rfl
/-D 59 -/
noncomputable def D59 (n : Nat × Nat) : Option R59 :=
 (D24 n ([(1, 3), (1, 4), (1, 2)], 7, 0) 2).bind fun r1' =>
 ((bif ((r1'.2 == 0) == true) then some (r1'.1 == 6)
 else some false)).bind fun b2' =>
 ((bif (b2' == true) then (D20 n).bind fun r3' =>
 some r3'
 else some false)).bind fun b4' =>
 some b4'
theorem S59_D (n : Nat × Nat) (hn : n.2 = 1) : S59 n = D59 n := by
  refine (S59_eq n).trans ?_
  unfold D59
  (try simp only [S20_D n hn, S24_D n hn]) <;> first | with_reducible rfl | rfl
/-D 25 -/
noncomputable def D25 (n : Nat × Nat) : Option R25 :=
 (D58 n [1, 3, 4] 6).bind fun r1' =>
 ((bif ((r1'.2 == 0) == true) then (D14 n r1'.1 [0, 2, 0]).bind fun r2' =>
 some r2'
 else some false)).bind fun b3' =>
 ((bif (b3' == true) then (D59 n).bind fun r4' =>
 some r4'
 else some false)).bind fun b5' =>
 some b5'
theorem S25_D (n : Nat × Nat) (hn : n.2 = 1) : S25 n = D25 n := by
  refine (S25_eq n).trans ?_
  unfold D25
  (try simp only [S14_D n hn, S58_D n hn, S59_D n hn]) <;> first | with_reducible rfl | rfl
/-D 43 -/
noncomputable def DF43_1 (n : Nat × Nat) (f1 : Int → Int → List Int → Int → Int → Int → Int → Int → Int → Int → Int → Int → Int → Option R43) (out6 : Int) (v7 : Int) (v10 : List Int) (v11 : Int) (v12 : Int) (w2_0 : Int) (w2_1 : Int) (w2_2 : Int) (w2_3 : Int) (w2_4 : Int) (w2_5 : Int) (w2_6 : Int) (w2_7 : Int) : Option R43 :=
 (bif decide (v12 < v11) then (idx v10 v12).bind fun x1' =>
 ((bif (decide (x1' < 0) == false) then some (decide (x1' ≥ w2_0))
 else some true)).bind fun b2' =>
 (bif b2' then some (0, 2)
 else (bif decide (x1' ≤ v7) then some (0, 7)
 else (bif decide (x1' < 0) then none
 else f1 (wr .u64 (BitVec.ofInt (IntKind.bits .u64) out6 ||| BitVec.ofInt (IntKind.bits .u64) (wr .u64 (1 * 2 ^ (min (Int.toNat x1') (IntKind.bits .u64))))).toNat) x1' v10 v11 (wr .i64 (v12 + 1)) w2_0 w2_1 w2_2 w2_3 w2_4 w2_5 w2_6 w2_7)))
 else some (out6, 0))
noncomputable def DL43_1 (n : Nat × Nat) (m : Nat) : Int → Int → List Int → Int → Int → Int → Int → Int → Int → Int → Int → Int → Int → Option R43 := Nat.rec (motive := fun _ => Int → Int → List Int → Int → Int → Int → Int → Int → Int → Int → Int → Int → Int → Option R43) (fun _ _ _ _ _ _ _ _ _ _ _ _ _ => none) (fun _ ih => DF43_1 n ih) m
theorem DL43_1_succ (n : Nat × Nat) (m : Nat) : DL43_1 n (m + 1) = DF43_1 n (DL43_1 n m) := rfl
theorem DL43_1_eq (n : Nat × Nat) (hn : n.2 = 1) : ∀ m, L43_1 n m = DL43_1 n m
  | 0 => by funext out6 v7 v10 v11 v12 w2_0 w2_1 w2_2 w2_3 w2_4 w2_5 w2_6 w2_7; kernel_rfl
  | m + 1 => by
    have ih := DL43_1_eq n hn m
    funext out6 v7 v10 v11 v12 w2_0 w2_1 w2_2 w2_3 w2_4 w2_5 w2_6 w2_7; refine (L43_1_eq n m out6 v7 v10 v11 v12 w2_0 w2_1 w2_2 w2_3 w2_4 w2_5 w2_6 w2_7).trans ?_
    rw [DL43_1_succ]
    unfold DF43_1
    (try simp only [ih]) <;> first | with_reducible rfl | rfl
noncomputable def D43 (n : Nat × Nat) (w0 : Int × Int × Int × Int × Int × Int × Int × Int) (l1 : List Int) : Option R43 :=
    DL43_1 n n.1 0 (-1) l1 (l1.length : Int) 0 w0.1 w0.2.1 w0.2.2.1 w0.2.2.2.1 w0.2.2.2.2.1 w0.2.2.2.2.2.1 w0.2.2.2.2.2.2.1 w0.2.2.2.2.2.2.2
theorem S43_D (n : Nat × Nat) (hn : n.2 = 1) : S43 n = D43 n := by
  funext w0 l1; refine (S43_eq n w0 l1).trans ?_
  unfold D43
  (try simp only [DL43_1_eq n hn]) <;> first | with_reducible rfl | rfl
/-D 15 -/
noncomputable def DL15_4 (n : Nat × Nat) (f1 : Int → Int → Int → Int → Int → Int → Int → Int → Int → List Int → Option R15) (f2 : Int → Int → Int → Int → Int → Int → Int → Int → Int → Int → Int → List Int → Int → Int → List Int → Option R15) (word2 : Int) (w8_0 : Int) (w8_1 : Int) (w8_2 : Int) (w8_3 : Int) (w8_4 : Int) (w8_5 : Int) (w8_6 : Int) (w8_7 : Int) (now12 : Int) (wide13 : Int) (v72 : List Int) (v73 : Int) (v74 : Int) (near11 : List Int) : Option R15 :=
    f2 word2 w8_0 w8_1 w8_2 w8_3 w8_4 w8_5 w8_6 w8_7 now12 wide13 v72 v73 (wr .i64 (v74 + 1)) near11
theorem DL15_4_eq (n : Nat × Nat) (hn : n.2 = 1) (m1 m2 : Nat) : L15_4 n m1 m2 = DL15_4 n (L15_1 n m1) (L15_2 n m1 m2) := by
  funext word2 w8_0 w8_1 w8_2 w8_3 w8_4 w8_5 w8_6 w8_7 now12 wide13 v72 v73 v74 near11; refine ((held_eq hn _).trans (L15_4_raw n m1 m2 word2 w8_0 w8_1 w8_2 w8_3 w8_4 w8_5 w8_6 w8_7 now12 wide13 v72 v73 v74 near11)).trans ?_
  unfold DL15_4
  (try simp only [S33_D n hn, S41_D n hn, S43_D n hn]) <;> first | with_reducible rfl | rfl
noncomputable def DF15_2 (n : Nat × Nat) (f1 : Int → Int → Int → Int → Int → Int → Int → Int → Int → List Int → Option R15) (f2 : Int → Int → Int → Int → Int → Int → Int → Int → Int → Int → Int → List Int → Int → Int → List Int → Option R15) (word2 : Int) (w8_0 : Int) (w8_1 : Int) (w8_2 : Int) (w8_3 : Int) (w8_4 : Int) (w8_5 : Int) (w8_6 : Int) (w8_7 : Int) (now12 : Int) (wide13 : Int) (v72 : List Int) (v73 : Int) (v74 : Int) (near11 : List Int) : Option R15 :=
 (bif decide (v74 < v73) then (idx v72 v74).bind fun x6' =>
 (bif ((wr .u64 (BitVec.ofInt (IntKind.bits .u64) x6' &&& BitVec.ofInt (IntKind.bits .u64) now12).toNat) != 0) then (bif decide (v74 < 0) then none
 else DL15_4 n f1 f2 word2 w8_0 w8_1 w8_2 w8_3 w8_4 w8_5 w8_6 w8_7 now12 (wr .u64 (BitVec.ofInt (IntKind.bits .u64) wide13 ||| BitVec.ofInt (IntKind.bits .u64) (wr .u64 (1 * 2 ^ (min (Int.toNat v74) (IntKind.bits .u64))))).toNat) v72 v73 v74 near11)
 else DL15_4 n f1 f2 word2 w8_0 w8_1 w8_2 w8_3 w8_4 w8_5 w8_6 w8_7 now12 wide13 v72 v73 v74 near11)
 else (bif (wide13 == now12) then some ([], 12)
 else (bif decide (near11.length + [wide13].length ≤ lim) then f1 word2 w8_0 w8_1 w8_2 w8_3 w8_4 w8_5 w8_6 w8_7 (near11 ++ [wide13])
 else none)))
noncomputable def DL15_2 (n : Nat × Nat) (f1 : Int → Int → Int → Int → Int → Int → Int → Int → Int → List Int → Option R15) (m : Nat) : Int → Int → Int → Int → Int → Int → Int → Int → Int → Int → Int → List Int → Int → Int → List Int → Option R15 := Nat.rec (motive := fun _ => Int → Int → Int → Int → Int → Int → Int → Int → Int → Int → Int → List Int → Int → Int → List Int → Option R15) (fun _ _ _ _ _ _ _ _ _ _ _ _ _ _ _ => none) (fun _ ih => DF15_2 n f1 ih) m
theorem DL15_2_succ (n : Nat × Nat) (f1 : Int → Int → Int → Int → Int → Int → Int → Int → Int → List Int → Option R15) (m : Nat) : DL15_2 n f1 (m + 1) = DF15_2 n f1 (DL15_2 n f1 m) := rfl
theorem DL15_2_eq (n : Nat × Nat) (hn : n.2 = 1) (m1 : Nat) : ∀ m, L15_2 n m1 m = DL15_2 n (L15_1 n m1) m
  | 0 => by funext word2 w8_0 w8_1 w8_2 w8_3 w8_4 w8_5 w8_6 w8_7 now12 wide13 v72 v73 v74 near11; kernel_rfl
  | m + 1 => by
    have ih := DL15_2_eq n hn m1 m
    funext word2 w8_0 w8_1 w8_2 w8_3 w8_4 w8_5 w8_6 w8_7 now12 wide13 v72 v73 v74 near11; refine (L15_2_eq n m1 m word2 w8_0 w8_1 w8_2 w8_3 w8_4 w8_5 w8_6 w8_7 now12 wide13 v72 v73 v74 near11).trans ?_
    rw [DL15_2_succ]
    unfold DF15_2
    (try simp only [ih, DL15_4_eq n hn, S33_D n hn, S41_D n hn, S43_D n hn]) <;> first | with_reducible rfl | rfl
noncomputable def DF15_3 (n : Nat × Nat) (f1 : Int → Int → Int → Int → Int → Int → Int → Int → Int → Int → List Int → List Int → Option R15) (word2 : Int) (w8_0 : Int) (w8_1 : Int) (w8_2 : Int) (w8_3 : Int) (w8_4 : Int) (w8_5 : Int) (w8_6 : Int) (w8_7 : Int) (i17 : Int) (near11 : List Int) (out16 : List Int) : Option R15 :=
 (bif decide (i17 ≥ 0) then (idx ([w8_1, w8_2, w8_3, w8_4, w8_5, w8_6, w8_7] : List Int) word2).bind fun x7' =>
 (bif inB i17 near11.length then (idx near11 i17).bind fun x8' =>
 (D41 n (wr .u64 (BitVec.ofInt (IntKind.bits .u64) x7' &&& BitVec.ofInt (IntKind.bits .u64) x8').toNat)).bind fun r9' =>
 (bif decide (out16.length + [r9'].length ≤ lim) then f1 r9' w8_0 w8_1 w8_2 w8_3 w8_4 w8_5 w8_6 w8_7 (wr .i64 (i17 - 1)) near11 (out16 ++ [r9'])
 else none)
 else none)
 else some (out16, 0))
noncomputable def DL15_3 (n : Nat × Nat) (m : Nat) : Int → Int → Int → Int → Int → Int → Int → Int → Int → Int → List Int → List Int → Option R15 := Nat.rec (motive := fun _ => Int → Int → Int → Int → Int → Int → Int → Int → Int → Int → List Int → List Int → Option R15) (fun _ _ _ _ _ _ _ _ _ _ _ _ => none) (fun _ ih => DF15_3 n ih) m
theorem DL15_3_succ (n : Nat × Nat) (m : Nat) : DL15_3 n (m + 1) = DF15_3 n (DL15_3 n m) := rfl
theorem DL15_3_eq (n : Nat × Nat) (hn : n.2 = 1) : ∀ m, L15_3 n m = DL15_3 n m
  | 0 => by funext word2 w8_0 w8_1 w8_2 w8_3 w8_4 w8_5 w8_6 w8_7 i17 near11 out16; kernel_rfl
  | m + 1 => by
    have ih := DL15_3_eq n hn m
    funext word2 w8_0 w8_1 w8_2 w8_3 w8_4 w8_5 w8_6 w8_7 i17 near11 out16; refine (L15_3_eq n m word2 w8_0 w8_1 w8_2 w8_3 w8_4 w8_5 w8_6 w8_7 i17 near11 out16).trans ?_
    rw [DL15_3_succ]
    unfold DF15_3
    (try simp only [ih, DL15_4_eq n hn, DL15_2_eq n hn, S33_D n hn, S41_D n hn, S43_D n hn]) <;> first | with_reducible rfl | rfl
noncomputable def DF15_1 (n : Nat × Nat) (f1 : Int → Int → Int → Int → Int → Int → Int → Int → Int → List Int → Option R15) (word2 : Int) (w8_0 : Int) (w8_1 : Int) (w8_2 : Int) (w8_3 : Int) (w8_4 : Int) (w8_5 : Int) (w8_6 : Int) (w8_7 : Int) (near11 : List Int) : Option R15 :=
 (bif inB (wr .i64 ((near11.length : Int) - 1)) near11.length then (idx near11 (wr .i64 ((near11.length : Int) - 1))).bind fun x4' =>
 (bif decide (word2 < 0) then none
 else (bif ((wr .u64 (BitVec.ofInt (IntKind.bits .u64) (Int.fdiv x4' (2 ^ (min (Int.toNat word2) (IntKind.bits .u64)))) &&& BitVec.ofInt (IntKind.bits .u64) 1).toNat) == 0) then (bif inB (wr .i64 ((near11.length : Int) - 1)) near11.length then (idx near11 (wr .i64 ((near11.length : Int) - 1))).bind fun x5' =>
 (bif bounds none (some w8_0) none 7 then DL15_2 n f1 n.1 word2 w8_0 w8_1 w8_2 w8_3 w8_4 w8_5 w8_6 w8_7 x5' x5' ([w8_1, w8_2, w8_3, w8_4, w8_5, w8_6, w8_7].take (Int.toNat w8_0)) (([w8_1, w8_2, w8_3, w8_4, w8_5, w8_6, w8_7].take (Int.toNat w8_0)).length : Int) 0 near11
 else none)
 else none)
 else DL15_3 n n.1 word2 w8_0 w8_1 w8_2 w8_3 w8_4 w8_5 w8_6 w8_7 (wr .i64 ((near11.length : Int) - 2)) near11 [word2]))
 else none)
noncomputable def DL15_1 (n : Nat × Nat) (m : Nat) : Int → Int → Int → Int → Int → Int → Int → Int → Int → List Int → Option R15 := Nat.rec (motive := fun _ => Int → Int → Int → Int → Int → Int → Int → Int → Int → List Int → Option R15) (fun _ _ _ _ _ _ _ _ _ _ => none) (fun _ ih => DF15_1 n ih) m
theorem DL15_1_succ (n : Nat × Nat) (m : Nat) : DL15_1 n (m + 1) = DF15_1 n (DL15_1 n m) := rfl
theorem DL15_1_eq (n : Nat × Nat) (hn : n.2 = 1) : ∀ m, L15_1 n m = DL15_1 n m
  | 0 => by funext word2 w8_0 w8_1 w8_2 w8_3 w8_4 w8_5 w8_6 w8_7 near11; kernel_rfl
  | m + 1 => by
    have ih := DL15_1_eq n hn m
    funext word2 w8_0 w8_1 w8_2 w8_3 w8_4 w8_5 w8_6 w8_7 near11; refine (L15_1_eq n m word2 w8_0 w8_1 w8_2 w8_3 w8_4 w8_5 w8_6 w8_7 near11).trans ?_
    rw [DL15_1_succ]
    unfold DF15_1
    (try simp only [ih, DL15_4_eq n hn, DL15_2_eq n hn, DL15_3_eq n hn, S33_D n hn, S41_D n hn, S43_D n hn]) <;> first | with_reducible rfl | rfl
noncomputable def D15 (n : Nat × Nat) (b0 : Int × List (Int × Int)) (articles1 : List Int) (word2 : Int) : Option R15 :=
 (D33 n b0).bind fun r1' =>
 (bif (r1'.2 != 0) then some ([], r1'.2)
 else (bif ((articles1.length : Int) == 0) then some ([], 4)
 else (D43 n r1'.1 articles1).bind fun r2' =>
 (bif (r2'.2 != 0) then some ([], r2'.2)
 else ((bif (decide (word2 < 0) == false) then some (decide (word2 ≥ r1'.1.1))
 else some true)).bind fun b3' =>
 (bif b3' then some ([], 2)
 else DL15_1 n n.1 word2 r1'.1.1 r1'.1.2.1 r1'.1.2.2.1 r1'.1.2.2.2.1 r1'.1.2.2.2.2.1 r1'.1.2.2.2.2.2.1 r1'.1.2.2.2.2.2.2.1 r1'.1.2.2.2.2.2.2.2 [r2'.1]))))
theorem S15_D (n : Nat × Nat) (hn : n.2 = 1) : S15 n = D15 n := by
  funext b0 articles1 word2; refine (S15_eq n b0 articles1 word2).trans ?_
  unfold D15
  (try simp only [DL15_4_eq n hn, DL15_2_eq n hn, DL15_3_eq n hn, DL15_1_eq n hn, S33_D n hn, S41_D n hn, S43_D n hn]) <;> first | with_reducible rfl | rfl
/-D 104 -/
noncomputable def D104 (n : Nat × Nat) (x0 : Int) (y1 : Int) : Option R104 :=
 (bif decide (32 < 0) then none
 else (bif decide (32 < 0) then none
 else (bif decide (32 < 0) then none
 else (bif decide (32 < 0) then none
 else (bif decide (32 < 0) then none
 else some (wr .u64 ((wr .u64 ((wr .u64 ((Int.fdiv x0 (2 ^ (min (Int.toNat 32) (IntKind.bits .u64)))) * (Int.fdiv y1 (2 ^ (min (Int.toNat 32) (IntKind.bits .u64)))))) + (Int.fdiv (wr .u64 ((wr .u64 ((Int.fdiv x0 (2 ^ (min (Int.toNat 32) (IntKind.bits .u64)))) * (wr .u64 (BitVec.ofInt (IntKind.bits .u64) y1 &&& BitVec.ofInt (IntKind.bits .u64) 4294967295).toNat))) + (Int.fdiv (wr .u64 ((wr .u64 (BitVec.ofInt (IntKind.bits .u64) x0 &&& BitVec.ofInt (IntKind.bits .u64) 4294967295).toNat) * (wr .u64 (BitVec.ofInt (IntKind.bits .u64) y1 &&& BitVec.ofInt (IntKind.bits .u64) 4294967295).toNat))) (2 ^ (min (Int.toNat 32) (IntKind.bits .u64)))))) (2 ^ (min (Int.toNat 32) (IntKind.bits .u64)))))) + (Int.fdiv (wr .u64 ((wr .u64 (BitVec.ofInt (IntKind.bits .u64) (wr .u64 ((wr .u64 ((Int.fdiv x0 (2 ^ (min (Int.toNat 32) (IntKind.bits .u64)))) * (wr .u64 (BitVec.ofInt (IntKind.bits .u64) y1 &&& BitVec.ofInt (IntKind.bits .u64) 4294967295).toNat))) + (Int.fdiv (wr .u64 ((wr .u64 (BitVec.ofInt (IntKind.bits .u64) x0 &&& BitVec.ofInt (IntKind.bits .u64) 4294967295).toNat) * (wr .u64 (BitVec.ofInt (IntKind.bits .u64) y1 &&& BitVec.ofInt (IntKind.bits .u64) 4294967295).toNat))) (2 ^ (min (Int.toNat 32) (IntKind.bits .u64)))))) &&& BitVec.ofInt (IntKind.bits .u64) 4294967295).toNat) + (wr .u64 ((wr .u64 (BitVec.ofInt (IntKind.bits .u64) x0 &&& BitVec.ofInt (IntKind.bits .u64) 4294967295).toNat) * (Int.fdiv y1 (2 ^ (min (Int.toNat 32) (IntKind.bits .u64)))))))) (2 ^ (min (Int.toNat 32) (IntKind.bits .u64))))), wr .u64 (x0 * y1)))))))
theorem S104_D (n : Nat × Nat) (hn : n.2 = 1) : S104 n = D104 n := by
  funext x0 y1; refine (S104_eq n x0 y1).trans ?_
  unfold D104
  first | with_reducible rfl | rfl
/-D 71 -/
noncomputable def D71 (n : Nat × Nat) (x0 : Int) (y1 : Int) : Option R71 :=
 (D104 n x0 y1).bind fun r1' =>
 some (r1'.1, r1'.2)
theorem S71_D (n : Nat × Nat) (hn : n.2 = 1) : S71 n = D71 n := by
  funext x0 y1; refine (S71_eq n x0 y1).trans ?_
  unfold D71
  (try simp only [S104_D n hn]) <;> first | with_reducible rfl | rfl
/-D 40 -/
noncomputable def DF40_1 (n : Nat × Nat) (f1 : Int → List Int → Option R40) (v8 : Int) (newslice7 : List Int) : Option R40 :=
 (bif decide (v8 < (newslice7.length : Int)) then (bif bounds (some v8) none none newslice7.length then (bif bounds none (some v8) none newslice7.length then f1 (wr .i64 (v8 + ((min ((newslice7.drop (0 + 0)).take ((Int.toNat v8) - 0)).length ((newslice7.drop (0 + (Int.toNat v8))).take (newslice7.length - (Int.toNat v8))).length : Nat) : Int))) (newslice7.take (0 + (Int.toNat v8)) ++ ((newslice7.drop (0 + 0)).take ((Int.toNat v8) - 0)).take (min ((newslice7.drop (0 + 0)).take ((Int.toNat v8) - 0)).length ((newslice7.drop (0 + (Int.toNat v8))).take (newslice7.length - (Int.toNat v8))).length) ++ newslice7.drop ((0 + (Int.toNat v8)) + min ((newslice7.drop (0 + 0)).take ((Int.toNat v8) - 0)).length ((newslice7.drop (0 + (Int.toNat v8))).take (newslice7.length - (Int.toNat v8))).length))
 else none)
 else none)
 else some newslice7)
noncomputable def DL40_1 (n : Nat × Nat) (m : Nat) : Int → List Int → Option R40 := Nat.rec (motive := fun _ => Int → List Int → Option R40) (fun _ _ => none) (fun _ ih => DF40_1 n ih) m
theorem DL40_1_succ (n : Nat × Nat) (m : Nat) : DL40_1 n (m + 1) = DF40_1 n (DL40_1 n m) := rfl
theorem DL40_1_eq (n : Nat × Nat) (hn : n.2 = 1) : ∀ m, L40_1 n m = DL40_1 n m
  | 0 => by funext v8 newslice7; kernel_rfl
  | m + 1 => by
    have ih := DL40_1_eq n hn m
    funext v8 newslice7; refine (L40_1_eq n m v8 newslice7).trans ?_
    rw [DL40_1_succ]
    unfold DF40_1
    (try simp only [ih, S71_D n hn]) <;> first | with_reducible rfl | rfl
noncomputable def D40 (n : Nat × Nat) (x0 : List Int) (count1 : Int) : Option R40 :=
 (bif decide (count1 < 0) then none
 else (D71 n (wr .u64 (x0.length : Int)) (wr .u64 count1)).bind fun r1' =>
 ((bif (decide (r1'.1 > 0) == false) then some (decide (r1'.2 > 9223372036854775807))
 else some true)).bind fun b2' =>
 (bif b2' then none
 else (bif decide (0 ≤ wr .i64 r1'.2) && decide (wr .i64 r1'.2 ≤ wr .i64 r1'.2) && decide (wr .i64 r1'.2 ≤ lim) then DL40_1 n n.1 ((min x0.length (List.replicate (Int.toNat (wr .i64 r1'.2)) (0 : Int)).length : Nat) : Int) ((List.replicate (Int.toNat (wr .i64 r1'.2)) (0 : Int)).take 0 ++ x0.take (min x0.length (List.replicate (Int.toNat (wr .i64 r1'.2)) (0 : Int)).length) ++ (List.replicate (Int.toNat (wr .i64 r1'.2)) (0 : Int)).drop (0 + min x0.length (List.replicate (Int.toNat (wr .i64 r1'.2)) (0 : Int)).length))
 else none)))
theorem S40_D (n : Nat × Nat) (hn : n.2 = 1) : S40 n = D40 n := by
  funext x0 count1; refine (S40_eq n x0 count1).trans ?_
  unfold D40
  (try simp only [DL40_1_eq n hn, S71_D n hn]) <;> first | with_reducible rfl | rfl
/-D 74 -/
noncomputable def DF74_1 (n : Nat × Nat) (f1 : List Int → Int → Int → Int → Option R74) (s0 : List Int) (v1 : Int) (v7 : Int) (v8 : Int) : Option R74 :=
 (bif decide (v8 < v7) then (idx s0 v8).bind fun x1' =>
 (bif (v1 == x1') then some v8
 else f1 s0 v1 v7 (wr .i64 (v8 + 1)))
 else some (-1))
noncomputable def DL74_1 (n : Nat × Nat) (m : Nat) : List Int → Int → Int → Int → Option R74 := Nat.rec (motive := fun _ => List Int → Int → Int → Int → Option R74) (fun _ _ _ _ => none) (fun _ ih => DF74_1 n ih) m
theorem DL74_1_succ (n : Nat × Nat) (m : Nat) : DL74_1 n (m + 1) = DF74_1 n (DL74_1 n m) := rfl
theorem DL74_1_eq (n : Nat × Nat) (hn : n.2 = 1) : ∀ m, L74_1 n m = DL74_1 n m
  | 0 => by funext s0 v1 v7 v8; kernel_rfl
  | m + 1 => by
    have ih := DL74_1_eq n hn m
    funext s0 v1 v7 v8; refine (L74_1_eq n m s0 v1 v7 v8).trans ?_
    rw [DL74_1_succ]
    unfold DF74_1
    (try simp only [ih]) <;> first | with_reducible rfl | rfl
noncomputable def D74 (n : Nat × Nat) (s0 : List Int) (v1 : Int) : Option R74 :=
    DL74_1 n n.1 s0 v1 (s0.length : Int) 0
theorem S74_D (n : Nat × Nat) (hn : n.2 = 1) : S74 n = D74 n := by
  funext s0 v1; refine (S74_eq n s0 v1).trans ?_
  unfold D74
  (try simp only [DL74_1_eq n hn]) <;> first | with_reducible rfl | rfl
/-D 42 -/
noncomputable def D42 (n : Nat × Nat) (s0 : List Int) (v1 : Int) : Option R42 :=
 (D74 n s0 v1).bind fun r1' =>
 some (decide (r1' ≥ 0))
theorem S42_D (n : Nat × Nat) (hn : n.2 = 1) : S42 n = D42 n := by
  funext s0 v1; refine (S42_eq n s0 v1).trans ?_
  unfold D42
  (try simp only [S74_D n hn]) <;> first | with_reducible rfl | rfl
/-D 13 -/
noncomputable def DL13_3 (n : Nat × Nat) (f1 : Int → Int → Int → Int → Int → Int → Int → Int → Int → Int → Int → List Int → Option R13) (f2 : Int → Int → Int → Int → Int → Int → Int → Int → Int → Int → Int → List Int → Int → Int → List Int → Option R13) (w4_0 : Int) (w4_1 : Int) (w4_2 : Int) (w4_3 : Int) (w4_4 : Int) (w4_5 : Int) (w4_6 : Int) (w4_7 : Int) (known7 : Int) (v26 : Int) (v27 : Int) (v32 : List Int) (v33 : Int) (v34 : Int) (out6 : List Int) : Option R13 :=
    f2 w4_0 w4_1 w4_2 w4_3 w4_4 w4_5 w4_6 w4_7 known7 v26 v27 v32 v33 (wr .i64 (v34 + 1)) out6
theorem DL13_3_eq (n : Nat × Nat) (hn : n.2 = 1) (m1 m2 : Nat) : L13_3 n m1 m2 = DL13_3 n (L13_1 n m1) (L13_2 n m1 m2) := by
  funext w4_0 w4_1 w4_2 w4_3 w4_4 w4_5 w4_6 w4_7 known7 v26 v27 v32 v33 v34 out6; refine ((held_eq hn _).trans (L13_3_raw n m1 m2 w4_0 w4_1 w4_2 w4_3 w4_4 w4_5 w4_6 w4_7 known7 v26 v27 v32 v33 v34 out6)).trans ?_
  unfold DL13_3
  (try simp only [S33_D n hn, S35_D n hn, S40_D n hn, S41_D n hn, S42_D n hn]) <;> first | with_reducible rfl | rfl
noncomputable def DF13_4 (n : Nat × Nat) (f1 : Int → Int → Int → Int → Int → Int → Int → Int → Int → Int → Int → List Int → Option R13) (f2 : Int → Int → Int → Int → Int → Int → Int → Int → Int → Int → Int → List Int → Int → Int → List Int → Option R13) (f3 : Int → Int → Int → Int → Int → Int → Int → Int → Int → Int → Int → Int → Int → List Int → Int → Int → Int → Int → List Int → List Int → Option R13) (w4_0 : Int) (w4_1 : Int) (w4_2 : Int) (w4_3 : Int) (w4_4 : Int) (w4_5 : Int) (w4_6 : Int) (w4_7 : Int) (known7 : Int) (x8 : Int) (v10 : Int) (v26 : Int) (v27 : Int) (v32 : List Int) (v33 : Int) (v34 : Int) (v52 : Int) (v53 : Int) (out6 : List Int) (v51 : List Int) : Option R13 :=
 (bif decide (v53 < v52) then (bif inB v53 v51.length then (idx v51 v53).bind fun x7' =>
 (bif inB x7' out6.length then (idx out6 x7').bind fun x8' =>
 (bif decide (x8' < 0) then none
 else f3 w4_0 w4_1 w4_2 w4_3 w4_4 w4_5 w4_6 w4_7 known7 x8 (wr .u64 (BitVec.ofInt (IntKind.bits .u64) v10 ||| BitVec.ofInt (IntKind.bits .u64) (wr .u64 (1 * 2 ^ (min (Int.toNat x8') (IntKind.bits .u64))))).toNat) v26 v27 v32 v33 v34 v52 (wr .i64 (v53 + 1)) out6 v51)
 else none)
 else none)
 else (D41 n (wr .u64 (BitVec.ofInt (IntKind.bits .u64) (if IntKind.signed .u64 then -1 else IntKind.max .u64) ^^^ BitVec.ofInt (IntKind.bits .u64) v10).toNat)).bind fun r9' =>
 (bif inB x8 out6.length then (idx out6 x8).bind fun x10' =>
 (bif decide (x8 < 0) then none
 else DL13_3 n f1 f2 w4_0 w4_1 w4_2 w4_3 w4_4 w4_5 w4_6 w4_7 (wr .u64 (BitVec.ofInt (IntKind.bits .u64) known7 ||| BitVec.ofInt (IntKind.bits .u64) (wr .u64 (1 * 2 ^ (min (Int.toNat x8) (IntKind.bits .u64))))).toNat) v26 v27 v32 v33 v34 (out6.set (Int.toNat x8) r9'))
 else none))
noncomputable def DL13_4 (n : Nat × Nat) (f1 : Int → Int → Int → Int → Int → Int → Int → Int → Int → Int → Int → List Int → Option R13) (f2 : Int → Int → Int → Int → Int → Int → Int → Int → Int → Int → Int → List Int → Int → Int → List Int → Option R13) (m : Nat) : Int → Int → Int → Int → Int → Int → Int → Int → Int → Int → Int → Int → Int → List Int → Int → Int → Int → Int → List Int → List Int → Option R13 := Nat.rec (motive := fun _ => Int → Int → Int → Int → Int → Int → Int → Int → Int → Int → Int → Int → Int → List Int → Int → Int → Int → Int → List Int → List Int → Option R13) (fun _ _ _ _ _ _ _ _ _ _ _ _ _ _ _ _ _ _ _ _ => none) (fun _ ih => DF13_4 n f1 f2 ih) m
theorem DL13_4_succ (n : Nat × Nat) (f1 : Int → Int → Int → Int → Int → Int → Int → Int → Int → Int → Int → List Int → Option R13) (f2 : Int → Int → Int → Int → Int → Int → Int → Int → Int → Int → Int → List Int → Int → Int → List Int → Option R13) (m : Nat) : DL13_4 n f1 f2 (m + 1) = DF13_4 n f1 f2 (DL13_4 n f1 f2 m) := rfl
theorem DL13_4_eq (n : Nat × Nat) (hn : n.2 = 1) (m1 m2 : Nat) : ∀ m, L13_4 n m1 m2 m = DL13_4 n (L13_1 n m1) (L13_2 n m1 m2) m
  | 0 => by funext w4_0 w4_1 w4_2 w4_3 w4_4 w4_5 w4_6 w4_7 known7 x8 v10 v26 v27 v32 v33 v34 v52 v53 out6 v51; kernel_rfl
  | m + 1 => by
    have ih := DL13_4_eq n hn m1 m2 m
    funext w4_0 w4_1 w4_2 w4_3 w4_4 w4_5 w4_6 w4_7 known7 x8 v10 v26 v27 v32 v33 v34 v52 v53 out6 v51; refine (L13_4_eq n m1 m2 m w4_0 w4_1 w4_2 w4_3 w4_4 w4_5 w4_6 w4_7 known7 x8 v10 v26 v27 v32 v33 v34 v52 v53 out6 v51).trans ?_
    rw [DL13_4_succ]
    unfold DF13_4
    (try simp only [ih, DL13_3_eq n hn, S33_D n hn, S35_D n hn, S40_D n hn, S41_D n hn, S42_D n hn]) <;> first | with_reducible rfl | rfl
noncomputable def DF13_2 (n : Nat × Nat) (f1 : Int → Int → Int → Int → Int → Int → Int → Int → Int → Int → Int → List Int → Option R13) (f2 : Int → Int → Int → Int → Int → Int → Int → Int → Int → Int → Int → List Int → Int → Int → List Int → Option R13) (w4_0 : Int) (w4_1 : Int) (w4_2 : Int) (w4_3 : Int) (w4_4 : Int) (w4_5 : Int) (w4_6 : Int) (w4_7 : Int) (known7 : Int) (v26 : Int) (v27 : Int) (v32 : List Int) (v33 : Int) (v34 : Int) (out6 : List Int) : Option R13 :=
 (bif decide (v34 < v33) then (idx v32 v34).bind fun x4' =>
 (bif decide (v34 < 0) then none
 else ((bif (((wr .u64 (BitVec.ofInt (IntKind.bits .u64) (Int.fdiv known7 (2 ^ (min (Int.toNat v34) (IntKind.bits .u64)))) &&& BitVec.ofInt (IntKind.bits .u64) 1).toNat) == 1) == false) then some ((wr .u64 (BitVec.ofInt (IntKind.bits .u64) x4' &&& ~~~BitVec.ofInt (IntKind.bits .u64) known7).toNat) != 0)
 else some true)).bind fun b5' =>
 (bif b5' then DL13_3 n f1 f2 w4_0 w4_1 w4_2 w4_3 w4_4 w4_5 w4_6 w4_7 known7 v26 v27 v32 v33 v34 out6
 else (D35 n x4').bind fun r6' =>
          DL13_4 n f1 f2 n.1 w4_0 w4_1 w4_2 w4_3 w4_4 w4_5 w4_6 w4_7 known7 v34 0 v26 v27 v32 v33 v34 (r6'.length : Int) 0 out6 r6'))
 else f1 w4_0 w4_1 w4_2 w4_3 w4_4 w4_5 w4_6 w4_7 known7 v26 (wr .i64 (v27 + 1)) out6)
noncomputable def DL13_2 (n : Nat × Nat) (f1 : Int → Int → Int → Int → Int → Int → Int → Int → Int → Int → Int → List Int → Option R13) (m : Nat) : Int → Int → Int → Int → Int → Int → Int → Int → Int → Int → Int → List Int → Int → Int → List Int → Option R13 := Nat.rec (motive := fun _ => Int → Int → Int → Int → Int → Int → Int → Int → Int → Int → Int → List Int → Int → Int → List Int → Option R13) (fun _ _ _ _ _ _ _ _ _ _ _ _ _ _ _ => none) (fun _ ih => DF13_2 n f1 ih) m
theorem DL13_2_succ (n : Nat × Nat) (f1 : Int → Int → Int → Int → Int → Int → Int → Int → Int → Int → Int → List Int → Option R13) (m : Nat) : DL13_2 n f1 (m + 1) = DF13_2 n f1 (DL13_2 n f1 m) := rfl
theorem DL13_2_eq (n : Nat × Nat) (hn : n.2 = 1) (m1 : Nat) : ∀ m, L13_2 n m1 m = DL13_2 n (L13_1 n m1) m
  | 0 => by funext w4_0 w4_1 w4_2 w4_3 w4_4 w4_5 w4_6 w4_7 known7 v26 v27 v32 v33 v34 out6; kernel_rfl
  | m + 1 => by
    have ih := DL13_2_eq n hn m1 m
    funext w4_0 w4_1 w4_2 w4_3 w4_4 w4_5 w4_6 w4_7 known7 v26 v27 v32 v33 v34 out6; refine (L13_2_eq n m1 m w4_0 w4_1 w4_2 w4_3 w4_4 w4_5 w4_6 w4_7 known7 v26 v27 v32 v33 v34 out6).trans ?_
    rw [DL13_2_succ]
    unfold DF13_2
    (try simp only [ih, DL13_3_eq n hn, DL13_4_eq n hn, S33_D n hn, S35_D n hn, S40_D n hn, S41_D n hn, S42_D n hn]) <;> first | with_reducible rfl | rfl
noncomputable def DF13_1 (n : Nat × Nat) (f1 : Int → Int → Int → Int → Int → Int → Int → Int → Int → Int → Int → List Int → Option R13) (w4_0 : Int) (w4_1 : Int) (w4_2 : Int) (w4_3 : Int) (w4_4 : Int) (w4_5 : Int) (w4_6 : Int) (w4_7 : Int) (known7 : Int) (v26 : Int) (v27 : Int) (out6 : List Int) : Option R13 :=
 (bif decide (v27 < v26) then (bif bounds none (some w4_0) none 7 then DL13_2 n f1 n.1 w4_0 w4_1 w4_2 w4_3 w4_4 w4_5 w4_6 w4_7 known7 v26 v27 ([w4_1, w4_2, w4_3, w4_4, w4_5, w4_6, w4_7].take (Int.toNat w4_0)) (([w4_1, w4_2, w4_3, w4_4, w4_5, w4_6, w4_7].take (Int.toNat w4_0)).length : Int) 0 out6
 else none)
 else (D42 n out6 (-1)).bind fun r3' =>
 (bif r3' then some ([], 13)
 else some (out6, 0)))
noncomputable def DL13_1 (n : Nat × Nat) (m : Nat) : Int → Int → Int → Int → Int → Int → Int → Int → Int → Int → Int → List Int → Option R13 := Nat.rec (motive := fun _ => Int → Int → Int → Int → Int → Int → Int → Int → Int → Int → Int → List Int → Option R13) (fun _ _ _ _ _ _ _ _ _ _ _ _ => none) (fun _ ih => DF13_1 n ih) m
theorem DL13_1_succ (n : Nat × Nat) (m : Nat) : DL13_1 n (m + 1) = DF13_1 n (DL13_1 n m) := rfl
theorem DL13_1_eq (n : Nat × Nat) (hn : n.2 = 1) : ∀ m, L13_1 n m = DL13_1 n m
  | 0 => by funext w4_0 w4_1 w4_2 w4_3 w4_4 w4_5 w4_6 w4_7 known7 v26 v27 out6; kernel_rfl
  | m + 1 => by
    have ih := DL13_1_eq n hn m
    funext w4_0 w4_1 w4_2 w4_3 w4_4 w4_5 w4_6 w4_7 known7 v26 v27 out6; refine (L13_1_eq n m w4_0 w4_1 w4_2 w4_3 w4_4 w4_5 w4_6 w4_7 known7 v26 v27 out6).trans ?_
    rw [DL13_1_succ]
    unfold DF13_1
    (try simp only [ih, DL13_3_eq n hn, DL13_4_eq n hn, DL13_2_eq n hn, S33_D n hn, S35_D n hn, S40_D n hn, S41_D n hn, S42_D n hn]) <;> first | with_reducible rfl | rfl
noncomputable def D13 (n : Nat × Nat) (b0 : Int × List (Int × Int)) : Option R13 :=
 (D33 n b0).bind fun r1' =>
 (bif (r1'.2 != 0) then some ([], r1'.2)
 else (D40 n [-1] r1'.1.1).bind fun r2' =>
      DL13_1 n n.1 r1'.1.1 r1'.1.2.1 r1'.1.2.2.1 r1'.1.2.2.2.1 r1'.1.2.2.2.2.1 r1'.1.2.2.2.2.2.1 r1'.1.2.2.2.2.2.2.1 r1'.1.2.2.2.2.2.2.2 0 r1'.1.1 0 r2')
theorem S13_D (n : Nat × Nat) (hn : n.2 = 1) : S13 n = D13 n := by
  funext b0; refine (S13_eq n b0).trans ?_
  unfold D13
  (try simp only [DL13_3_eq n hn, DL13_4_eq n hn, DL13_2_eq n hn, DL13_1_eq n hn, S33_D n hn, S35_D n hn, S40_D n hn, S41_D n hn, S42_D n hn]) <;> first | with_reducible rfl | rfl
/-D 29 -/
noncomputable def D29 (n : Nat × Nat) (coins0 : List Int) (sum1 : Int) : Option R29 :=
 (D52 n coins0 sum1).bind fun r1' =>
 (bif (r1' != 0) then some (0, r1')
 else (D63 n coins0 sum1).bind fun r2' =>
 (bif inB sum1 r2'.length then (idx r2' sum1).bind fun x3' =>
 some (x3', 0)
 else none))
theorem S29_D (n : Nat × Nat) (hn : n.2 = 1) : S29 n = D29 n := by
  funext coins0 sum1; refine (S29_eq n coins0 sum1).trans ?_
  unfold D29
  (try simp only [S52_D n hn, S63_D n hn]) <;> first | with_reducible rfl | rfl
/-D 7 -/
noncomputable def DL7_2 (n : Nat × Nat) (f1 : Int → Int → Int → List Int → List Int → Option R7) (sum2 : Int) (v41 : Int) (v42 : Int) (coins7 : List Int) (v40 : List Int) : Option R7 :=
    f1 sum2 v41 (wr .i64 (v42 + 1)) coins7 v40
theorem DL7_2_eq (n : Nat × Nat) (hn : n.2 = 1) (m1 : Nat) : L7_2 n m1 = DL7_2 n (L7_1 n m1) := by
  funext sum2 v41 v42 coins7 v40; refine ((held_eq hn _).trans (L7_2_raw n m1 sum2 v41 v42 coins7 v40)).trans ?_
  unfold DL7_2
  (try simp only [S11_D n hn, S13_D n hn, S14_D n hn, S15_D n hn, S25_D n hn, S29_D n hn]) <;> first | with_reducible rfl | rfl
noncomputable def DL7_6 (n : Nat × Nat) (f1 : Int → Int → List Int → Int → (List (Int × Int)) → Option R7) (f2 : Int → Int → Int → Int → Int → List Int → Int → (List (Int × Int)) → Option R7) (sum2 : Int) (s11 : Int) (v60 : Int) (v64 : Int) (v65 : Int) (coins7 : List Int) (b10_0 : Int) (v501229999 : List (Int × Int)) : Option R7 :=
    f2 sum2 s11 v60 v64 (wr .i64 (v65 + 1)) coins7 b10_0 v501229999
theorem DL7_6_eq (n : Nat × Nat) (hn : n.2 = 1) (m1 m2 : Nat) : L7_6 n m1 m2 = DL7_6 n (L7_3 n m1) (L7_4 n m1 m2) := by
  funext sum2 s11 v60 v64 v65 coins7 b10_0 v501229999; refine ((held_eq hn _).trans (L7_6_raw n m1 m2 sum2 s11 v60 v64 v65 coins7 b10_0 v501229999)).trans ?_
  unfold DL7_6
  (try simp only [DL7_2_eq n hn, S11_D n hn, S13_D n hn, S14_D n hn, S15_D n hn, S25_D n hn, S29_D n hn]) <;> first | with_reducible rfl | rfl
noncomputable def DF7_4 (n : Nat × Nat) (f1 : Int → Int → List Int → Int → (List (Int × Int)) → Option R7) (f2 : Int → Int → Int → Int → Int → List Int → Int → (List (Int × Int)) → Option R7) (sum2 : Int) (s11 : Int) (v60 : Int) (v64 : Int) (v65 : Int) (coins7 : List Int) (b10_0 : Int) (v501229999 : List (Int × Int)) : Option R7 :=
 (bif decide (v65 < v64) then (bif inB v65 coins7.length then (idx coins7 v65).bind fun x13' =>
 (bif decide (x13' ≤ s11) then (bif decide (v501229999.length + [(s11, wr .i64 (s11 - x13'))].length ≤ lim) then DL7_6 n f1 f2 sum2 s11 v60 v64 v65 coins7 b10_0 (v501229999 ++ [(s11, wr .i64 (s11 - x13'))])
 else none)
 else DL7_6 n f1 f2 sum2 s11 v60 v64 v65 coins7 b10_0 v501229999)
 else none)
 else f1 sum2 (wr .i64 (v60 + 1)) coins7 b10_0 v501229999)
noncomputable def DL7_4 (n : Nat × Nat) (f1 : Int → Int → List Int → Int → (List (Int × Int)) → Option R7) (m : Nat) : Int → Int → Int → Int → Int → List Int → Int → (List (Int × Int)) → Option R7 := Nat.rec (motive := fun _ => Int → Int → Int → Int → Int → List Int → Int → (List (Int × Int)) → Option R7) (fun _ _ _ _ _ _ _ _ => none) (fun _ ih => DF7_4 n f1 ih) m
theorem DL7_4_succ (n : Nat × Nat) (f1 : Int → Int → List Int → Int → (List (Int × Int)) → Option R7) (m : Nat) : DL7_4 n f1 (m + 1) = DF7_4 n f1 (DL7_4 n f1 m) := rfl
theorem DL7_4_eq (n : Nat × Nat) (hn : n.2 = 1) (m1 : Nat) : ∀ m, L7_4 n m1 m = DL7_4 n (L7_3 n m1) m
  | 0 => by funext sum2 s11 v60 v64 v65 coins7 b10_0 v501229999; kernel_rfl
  | m + 1 => by
    have ih := DL7_4_eq n hn m1 m
    funext sum2 s11 v60 v64 v65 coins7 b10_0 v501229999; refine (L7_4_eq n m1 m sum2 s11 v60 v64 v65 coins7 b10_0 v501229999).trans ?_
    rw [DL7_4_succ]
    unfold DF7_4
    (try simp only [ih, DL7_2_eq n hn, DL7_6_eq n hn, S11_D n hn, S13_D n hn, S14_D n hn, S15_D n hn, S25_D n hn, S29_D n hn]) <;> first | with_reducible rfl | rfl
noncomputable def DL7_7 (n : Nat × Nat) (f1 : Int → Int → Int → List Int → List (List Int) → List Int → List Int → Option R7) (s14 : Int) (v143 : Int) (v144 : Int) (way15 : List Int) (v19 : List (List Int)) (zero23 : List Int) (v142 : List Int) : Option R7 :=
    f1 s14 v143 (wr .i64 (v144 + 1)) way15 v19 zero23 v142
theorem DL7_7_eq (n : Nat × Nat) (hn : n.2 = 1) (m1 : Nat) : L7_7 n m1 = DL7_7 n (L7_5 n m1) := by
  funext s14 v143 v144 way15 v19 zero23 v142; refine ((held_eq hn _).trans (L7_7_raw n m1 s14 v143 v144 way15 v19 zero23 v142)).trans ?_
  unfold DL7_7
  (try simp only [DL7_2_eq n hn, DL7_6_eq n hn, DL7_4_eq n hn, S11_D n hn, S13_D n hn, S14_D n hn, S15_D n hn, S25_D n hn, S29_D n hn]) <;> first | with_reducible rfl | rfl
noncomputable def DF7_8 (n : Nat × Nat) (f1 : Int → Int → Int → Int → List (List Int) → List Int → List Int → Option R7) (s14 : Int) (left26 : Int) (v158 : Int) (v159 : Int) (v19 : List (List Int)) (zero23 : List Int) (v157 : List Int) : Option R7 :=
 (bif decide (v159 < v158) then (bif inB v159 v157.length then (idx v157 v159).bind fun x15' =>
 ((bif ((v159 == 0) == true) then some (x15' != s14)
 else some false)).bind fun b16' =>
 ((bif (b16' == false) then ((bif (decide (v159 > 0) == true) then ((bif (decide (x15' < 0) == false) then some (decide (x15' ≥ left26))
 else some true)).bind fun b17' =>
 some b17'
 else some false)).bind fun b18' =>
 some b18'
 else some true)).bind fun b19' =>
 (bif b19' then some false
 else f1 s14 x15' v158 (wr .i64 (v159 + 1)) v19 zero23 v157)
 else none)
 else ((bif ((left26 == 0) == true) then (bif inB 0 v19.length then (idx v19 0).bind fun x20' =>
 (D14 n x20' zero23).bind fun r21' =>
 some r21'
 else none)
 else some false)).bind fun b22' =>
 ((bif (b22' == true) then (D25 n).bind fun r23' =>
 some r23'
 else some false)).bind fun b24' =>
 some b24')
noncomputable def DL7_8 (n : Nat × Nat) (m : Nat) : Int → Int → Int → Int → List (List Int) → List Int → List Int → Option R7 := Nat.rec (motive := fun _ => Int → Int → Int → Int → List (List Int) → List Int → List Int → Option R7) (fun _ _ _ _ _ _ _ => none) (fun _ ih => DF7_8 n ih) m
theorem DL7_8_succ (n : Nat × Nat) (m : Nat) : DL7_8 n (m + 1) = DF7_8 n (DL7_8 n m) := rfl
theorem DL7_8_eq (n : Nat × Nat) (hn : n.2 = 1) : ∀ m, L7_8 n m = DL7_8 n m
  | 0 => by funext s14 left26 v158 v159 v19 zero23 v157; kernel_rfl
  | m + 1 => by
    have ih := DL7_8_eq n hn m
    funext s14 left26 v158 v159 v19 zero23 v157; refine (L7_8_eq n m s14 left26 v158 v159 v19 zero23 v157).trans ?_
    rw [DL7_8_succ]
    unfold DF7_8
    (try simp only [ih, DL7_2_eq n hn, DL7_6_eq n hn, DL7_4_eq n hn, DL7_7_eq n hn, S11_D n hn, S13_D n hn, S14_D n hn, S15_D n hn, S25_D n hn, S29_D n hn]) <;> first | with_reducible rfl | rfl
noncomputable def DF7_5 (n : Nat × Nat) (f1 : Int → Int → Int → List Int → List (List Int) → List Int → List Int → Option R7) (s14 : Int) (v143 : Int) (v144 : Int) (way15 : List Int) (v19 : List (List Int)) (zero23 : List Int) (v142 : List Int) : Option R7 :=
 (bif decide (v144 < v143) then (bif inB v144 v142.length then (idx v142 v144).bind fun x14' =>
 (bif (x14' == 0) then (bif decide (zero23.length + [v144].length ≤ lim) then DL7_7 n f1 s14 v143 v144 way15 v19 (zero23 ++ [v144]) v142
 else none)
 else DL7_7 n f1 s14 v143 v144 way15 v19 zero23 v142)
 else none)
 else DL7_8 n n.1 s14 s14 (way15.length : Int) 0 v19 zero23 way15)
noncomputable def DL7_5 (n : Nat × Nat) (m : Nat) : Int → Int → Int → List Int → List (List Int) → List Int → List Int → Option R7 := Nat.rec (motive := fun _ => Int → Int → Int → List Int → List (List Int) → List Int → List Int → Option R7) (fun _ _ _ _ _ _ _ => none) (fun _ ih => DF7_5 n ih) m
theorem DL7_5_succ (n : Nat × Nat) (m : Nat) : DL7_5 n (m + 1) = DF7_5 n (DL7_5 n m) := rfl
theorem DL7_5_eq (n : Nat × Nat) (hn : n.2 = 1) : ∀ m, L7_5 n m = DL7_5 n m
  | 0 => by funext s14 v143 v144 way15 v19 zero23 v142; kernel_rfl
  | m + 1 => by
    have ih := DL7_5_eq n hn m
    funext s14 v143 v144 way15 v19 zero23 v142; refine (L7_5_eq n m s14 v143 v144 way15 v19 zero23 v142).trans ?_
    rw [DL7_5_succ]
    unfold DF7_5
    (try simp only [ih, DL7_2_eq n hn, DL7_6_eq n hn, DL7_4_eq n hn, DL7_7_eq n hn, DL7_8_eq n hn, S11_D n hn, S13_D n hn, S14_D n hn, S15_D n hn, S25_D n hn, S29_D n hn]) <;> first | with_reducible rfl | rfl
noncomputable def DF7_3 (n : Nat × Nat) (f1 : Int → Int → List Int → Int → (List (Int × Int)) → Option R7) (sum2 : Int) (v60 : Int) (coins7 : List Int) (b10_0 : Int) (v501229999 : List (Int × Int)) : Option R7 :=
 (bif decide (v60 < 7) then DL7_4 n f1 n.1 sum2 v60 v60 (coins7.length : Int) 0 coins7 b10_0 v501229999
 else (bif 7 == 0 then none
 else (D15 n (b10_0, v501229999) [0] (Int.tmod (wr .i64 sum2) 7)).bind fun r3' =>
 (D29 n coins7 (Int.tmod (wr .i64 sum2) 7)).bind fun r4' =>
 (D11 n (b10_0, v501229999)).bind fun r5' =>
 (D13 n (b10_0, v501229999)).bind fun r6' =>
 ((bif ((r3'.2 != 0) == false) then some (r4'.2 != 0)
 else some true)).bind fun b7' =>
 ((bif (b7' == false) then some (r5'.2 != 0)
 else some true)).bind fun b8' =>
 ((bif (b8' == false) then some (r6'.2 != 0)
 else some true)).bind fun b9' =>
 ((bif (b9' == false) then some ((r3'.1.length : Int) != (wr .i64 (r4'.1 + 1)))
 else some true)).bind fun b10' =>
 ((bif (b10' == false) then some ((r5'.1.length : Int) != 1)
 else some true)).bind fun b11' =>
 ((bif (b11' == false) then some ((r6'.1.length : Int) != 7)
 else some true)).bind fun b12' =>
 (bif b12' then some false
 else DL7_5 n n.1 (Int.tmod (wr .i64 sum2) 7) (r6'.1.length : Int) 0 r3'.1 r5'.1 [] r6'.1)))
noncomputable def DL7_3 (n : Nat × Nat) (m : Nat) : Int → Int → List Int → Int → (List (Int × Int)) → Option R7 := Nat.rec (motive := fun _ => Int → Int → List Int → Int → (List (Int × Int)) → Option R7) (fun _ _ _ _ _ => none) (fun _ ih => DF7_3 n ih) m
theorem DL7_3_succ (n : Nat × Nat) (m : Nat) : DL7_3 n (m + 1) = DF7_3 n (DL7_3 n m) := rfl
theorem DL7_3_eq (n : Nat × Nat) (hn : n.2 = 1) : ∀ m, L7_3 n m = DL7_3 n m
  | 0 => by funext sum2 v60 coins7 b10_0 v501229999; kernel_rfl
  | m + 1 => by
    have ih := DL7_3_eq n hn m
    funext sum2 v60 coins7 b10_0 v501229999; refine (L7_3_eq n m sum2 v60 coins7 b10_0 v501229999).trans ?_
    rw [DL7_3_succ]
    unfold DF7_3
    (try simp only [ih, DL7_2_eq n hn, DL7_6_eq n hn, DL7_4_eq n hn, DL7_7_eq n hn, DL7_8_eq n hn, DL7_5_eq n hn, S11_D n hn, S13_D n hn, S14_D n hn, S15_D n hn, S25_D n hn, S29_D n hn]) <;> first | with_reducible rfl | rfl
noncomputable def DF7_1 (n : Nat × Nat) (f1 : Int → Int → Int → List Int → List Int → Option R7) (sum2 : Int) (v41 : Int) (v42 : Int) (coins7 : List Int) (v40 : List Int) : Option R7 :=
 (bif decide (v42 < v41) then (bif inB v42 v40.length then (idx v40 v42).bind fun x1' =>
 (bif inB (wr .i64 ((coins7.length : Int) - 1)) coins7.length then (idx coins7 (wr .i64 ((coins7.length : Int) - 1))).bind fun x2' =>
 (bif decide (x1' > x2') then (bif decide (coins7.length + [x1'].length ≤ lim) then DL7_2 n f1 sum2 v41 v42 (coins7 ++ [x1']) v40
 else none)
 else DL7_2 n f1 sum2 v41 v42 coins7 v40)
 else none)
 else none)
 else DL7_3 n n.1 sum2 0 coins7 7 [])
noncomputable def DL7_1 (n : Nat × Nat) (m : Nat) : Int → Int → Int → List Int → List Int → Option R7 := Nat.rec (motive := fun _ => Int → Int → Int → List Int → List Int → Option R7) (fun _ _ _ _ _ => none) (fun _ ih => DF7_1 n ih) m
theorem DL7_1_succ (n : Nat × Nat) (m : Nat) : DL7_1 n (m + 1) = DF7_1 n (DL7_1 n m) := rfl
theorem DL7_1_eq (n : Nat × Nat) (hn : n.2 = 1) : ∀ m, L7_1 n m = DL7_1 n m
  | 0 => by funext sum2 v41 v42 coins7 v40; kernel_rfl
  | m + 1 => by
    have ih := DL7_1_eq n hn m
    funext sum2 v41 v42 coins7 v40; refine (L7_1_eq n m sum2 v41 v42 coins7 v40).trans ?_
    rw [DL7_1_succ]
    unfold DF7_1
    (try simp only [ih, DL7_2_eq n hn, DL7_6_eq n hn, DL7_4_eq n hn, DL7_7_eq n hn, DL7_8_eq n hn, DL7_5_eq n hn, DL7_3_eq n hn, S11_D n hn, S13_D n hn, S14_D n hn, S15_D n hn, S25_D n hn, S29_D n hn]) <;> first | with_reducible rfl | rfl
noncomputable def D7 (n : Nat × Nat) (one0 : Int) (two1 : Int) (sum2 : Int) : Option R7 :=
 (bif 5 == 0 then none
 else (bif 5 == 0 then none
 else DL7_1 n n.1 sum2 ([wr .i64 (2 + (Int.tmod (wr .i64 one0) 5)), wr .i64 (2 + (Int.tmod (wr .i64 two1) 5))].length : Int) 0 [1] [wr .i64 (2 + (Int.tmod (wr .i64 one0) 5)), wr .i64 (2 + (Int.tmod (wr .i64 two1) 5))]))
theorem S7_D (n : Nat × Nat) (hn : n.2 = 1) : S7 n = D7 n := by
  funext one0 two1 sum2; refine (S7_eq n one0 two1 sum2).trans ?_
  unfold D7
  (try simp only [DL7_2_eq n hn, DL7_6_eq n hn, DL7_4_eq n hn, DL7_7_eq n hn, DL7_8_eq n hn, DL7_5_eq n hn, DL7_3_eq n hn, DL7_1_eq n hn, S11_D n hn, S13_D n hn, S14_D n hn, S15_D n hn, S25_D n hn, S29_D n hn]) <;> first | with_reducible rfl | rfl
def M : Nat × Nat := (100000, 1)
end Go.Proofs.YtkfkbebinhkdlaaDoor
/-
  The payment by greatest coins: the walk.
-/
set_option linter.unusedVariables false
set_option linter.unusedSimpArgs false
set_option maxRecDepth 100000
namespace Go.Proofs.YtkfkbebinhkdlaaDoor
open Go.RowKit Go.Shelf
section
attribute [local go_sem] Oper.semAt_some
end
open Go.Vi
end Go.Proofs.YtkfkbebinhkdlaaDoor
set_option linter.unusedVariables false
set_option linter.unusedSimpArgs false
set_option maxRecDepth 100000
namespace Go.Proofs.YtkfkbebinhkdlaaDoor
open Go.Vi
noncomputable def c5 : Code := bodyOf Tryd.f5
/-D 53 -/
/-D 21 -/
/-D 23 -/
/-D 5 -/
noncomputable def yesT (o : Option Bool) : Bool := match o with | some b => b | none => false
theorem yesT_some {o : Option Bool} (h : yesT o = true) : o = some true := by
  cases o with
  | none => cases h
  | some b => exact congrArg some h
theorem by_u8 {n : Int} (h : Wf (.int .u8) n) : 0 ≤ n ∧ n ≤ 255 := by
  have h : (Lit.int .u8 n).wf = true := h
  simp only [Lit.wf, Bool.and_eq_true, decide_eq_true_eq] at h
  exact h
theorem tmod_small (k : Nat) (hk : 0 < k) {m : Int} (h : 0 ≤ m ∧ m ≤ 255) : ∃ a : Nat, a < k ∧ Int.tmod (wr .i64 m) (k : Int) = (a : Int) := by
  obtain ⟨x, rfl⟩ := Int.eq_ofNat_of_zero_le h.1
  have e : wr .i64 (x : Int) = (x : Int) := by
    show IntKind.i64.wrap _ = _
    rw [IntKind.wrap_i64]
    omega
  rw [e]
  exact ⟨x % k, Nat.mod_lt _ hk, (Int.ofNat_tmod x k).symm⟩
end Go.Proofs.YtkfkbebinhkdlaaDoor
/-
  Sums: all coins and sums are tried.
-/
set_option linter.unusedVariables false
set_option linter.unusedSimpArgs false
set_option maxRecDepth 100000
namespace Go.Proofs.YtkfkbebinhkdlaaDoor
open Go.Vi
variable (n : Nat × Nat)
theorem cond_bind {α β : Type} (b : Bool) (x y : Option α) (f : α → Option β) : (bif b then x else y).bind f = bif b then x.bind f else y.bind f := by cases b <;> rfl
noncomputable def cl : Nat → Int → Int → List Int → List Int → Option (List Int)
  | 0, _, _, _, _ => none
  | k + 1, v41, v42, c, l => bif decide (v42 < v41) then (bif inB v42 l.length then (idx l v42).bind fun x1 => (bif inB (wr .i64 ((c.length : Int) - 1)) c.length then (idx c (wr .i64 ((c.length : Int) - 1))).bind fun x2 =>
      (bif decide (x1 > x2) then (bif decide (c.length + [x1].length ≤ lim) then cl k v41 (wr .i64 (v42 + 1)) (c ++ [x1]) l else none) else cl k v41 (wr .i64 (v42 + 1)) c l) else none) else none) else some c
theorem cl_eq (s : Int) : ∀ (k : Nat) (v41 v42 : Int) (c l : List Int), DL7_1 n k s v41 v42 c l = (cl k v41 v42 c l).bind fun c => DL7_3 n n.1 s 0 c 7 []
  | 0, _, _, _, _ => rfl
  | k + 1, v41, v42, c, l => by
    rw [DL7_1_succ]
    unfold DF7_1 DL7_2 cl
    simp only [cl_eq s k, cond_bind, Option.bind_assoc, Option.bind_none, Option.bind_some]
noncomputable def rf4 (f : Int → List (Int × Int) → Option (List (Int × Int))) (v60 : Int) : Nat → Int → Int → Int → List Int → List (Int × Int) → Option (List (Int × Int))
  | 0, _, _, _, _, _ => none
  | k + 1, s11, v64, v65, c, r => bif decide (v65 < v64) then (bif inB v65 c.length then (idx c v65).bind fun x =>
      (bif decide (x ≤ s11) then (bif decide (r.length + [(s11, wr .i64 (s11 - x))].length ≤ lim) then rf4 f v60 k s11 v64 (wr .i64 (v65 + 1)) c (r ++ [(s11, wr .i64 (s11 - x))]) else none) else rf4 f v60 k s11 v64 (wr .i64 (v65 + 1)) c r) else none) else f (wr .i64 (v60 + 1)) r
noncomputable def rf3 (c : List Int) : Nat → Int → List (Int × Int) → Option (List (Int × Int))
  | 0, _, _ => none
  | k + 1, v60, r => bif decide (v60 < 7) then rf4 (rf3 c k) v60 n.1 v60 (c.length : Int) 0 c r else some r
noncomputable def tail7 (c : List Int) (r : List (Int × Int)) (w : Int) (r5' : List (List Int) × Int) (r6' : List Int × Int) : Option R7 :=
  (D15 n (7, r) [0] w).bind fun r3' =>
        (D29 n c w).bind fun r4' =>
        ((bif ((r3'.2 != 0) == false) then some (r4'.2 != 0)
          else some true)).bind fun b7' =>
        ((bif (b7' == false) then some (r5'.2 != 0)
          else some true)).bind fun b8' =>
        ((bif (b8' == false) then some (r6'.2 != 0)
          else some true)).bind fun b9' =>
        ((bif (b9' == false) then some ((r3'.1.length : Int) != (wr .i64 (r4'.1 + 1)))
          else some true)).bind fun b10' =>
        ((bif (b10' == false) then some ((r5'.1.length : Int) != 1)
          else some true)).bind fun b11' =>
        ((bif (b11' == false) then some ((r6'.1.length : Int) != 7)
          else some true)).bind fun b12' =>
        (bif b12' then some false
        else DL7_5 n n.1 w (r6'.1.length : Int) 0 r3'.1 r5'.1 [] r6'.1)
theorem rf4_eq {f1 : Int → Int → List Int → Int → (List (Int × Int)) → Option R7} {f : Int → List (Int × Int) → Option (List (Int × Int))} {s : Int} {c : List Int} {g : List (Int × Int) → Option R7} (hf : ∀ v r, f1 s v c 7 r = (f v r).bind g) (v60 : Int) : ∀ (k : Nat) (s11 v64 v65 : Int) (r : List (Int × Int)), DL7_4 n f1 k s s11 v60 v64 v65 c 7 r = (rf4 f v60 k s11 v64 v65 c r).bind g
  | 0, _, _, _, _ => rfl
  | k + 1, s11, v64, v65, r => by
    rw [DL7_4_succ]
    unfold DF7_4 DL7_6 rf4
    simp only [rf4_eq hf v60 k, hf, cond_bind, Option.bind_assoc, Option.bind_none]
theorem swap4 {α β γ δ ε : Type} (x : Option α) (y : Option β) (z : Option γ) (u : Option δ) (f : α → β → γ → δ → Option ε) : (x.bind fun a => y.bind fun b => z.bind fun c => u.bind fun d => f a b c d) = z.bind fun c => u.bind fun d => x.bind fun a => y.bind fun b => f a b c d := by
  cases x <;> cases y <;> cases z <;> cases u <;> rfl
theorem rf3_eq (s : Int) (c : List Int) : ∀ (k : Nat) (v60 : Int) (r : List (Int × Int)), DL7_3 n k s v60 c 7 r = (rf3 n c k v60 r).bind fun r => (D11 n (7, r)).bind fun r5' => (D13 n (7, r)).bind fun r6' => tail7 n c r (Int.tmod (wr .i64 s) 7) r5' r6'
  | 0, _, _ => rfl
  | k + 1, v60, r => by
    rw [DL7_3_succ]
    unfold DF7_3 rf3 tail7
    rw [rf4_eq n (g := fun r => (D11 n (7, r)).bind fun r5' => (D13 n (7, r)).bind fun r6' => tail7 n c r (Int.tmod (wr .i64 s) 7) r5' r6') (rf3_eq s c k), cond_bind, Option.bind_some]
    unfold tail7
    cases decide (v60 < 7) with
    | true => rfl
    | false =>
      rw [cond_false, cond_false]
      exact swap4 (D15 n (7, r) [0] (Int.tmod (wr .i64 s) 7)) (D29 n c (Int.tmod (wr .i64 s) 7)) (D11 n (7, r)) (D13 n (7, r)) _
theorem D7_eq (a b s : Int) : D7 n a b s = (cl n.1 2 0 [1] [wr .i64 (2 + (Int.tmod (wr .i64 a) 5)), wr .i64 (2 + (Int.tmod (wr .i64 b) 5))]).bind fun c => (rf3 n c n.1 0 []).bind fun r => (D11 n (7, r)).bind fun r5' => (D13 n (7, r)).bind fun r6' => tail7 n c r (Int.tmod (wr .i64 s) 7) r5' r6' := by
  have h : D7 n a b s = DL7_1 n n.1 s 2 0 [1] [wr .i64 (2 + (Int.tmod (wr .i64 a) 5)), wr .i64 (2 + (Int.tmod (wr .i64 b) 5))] := rfl
  rw [h, cl_eq]
  congr 1
  funext c
  exact rf3_eq n s c _ _ _
/-- For two coins: all sums. -/
noncomputable def sums2 (a b : Int) : Bool :=
  match cl M.1 2 0 [1] [wr .i64 (2 + a), wr .i64 (2 + b)] with
  | some c => match rf3 M c M.1 0 [] with
    | some r => match D11 M (7, r), D13 M (7, r) with
      | some x, some y => (List.range 7).all fun w => yesT (tail7 M c r (w : Int) x y)
      | _, _ => false
    | none => false
  | none => false
theorem sums2_ok {a b : Int} (h : sums2 a b = true) {w : Nat} (hw : w < 7) : ((cl M.1 2 0 [1] [wr .i64 (2 + a), wr .i64 (2 + b)]).bind fun c => (rf3 M c M.1 0 []).bind fun r => (D11 M (7, r)).bind fun r5' => (D13 M (7, r)).bind fun r6' => tail7 M c r (w : Int) r5' r6') = some true := by
  unfold sums2 at h
  generalize cl M.1 2 0 [1] [wr .i64 (2 + a), wr .i64 (2 + b)] = C at h ⊢
  cases C with
  | none => cases h
  | some c =>
    simp only [Option.bind_some] at h ⊢
    generalize rf3 M c M.1 0 [] = R at h ⊢
    cases R with
    | none => cases h
    | some r =>
      simp only [Option.bind_some] at h ⊢
      generalize D11 M (7, r) = X at h ⊢
      generalize D13 M (7, r) = Y at h ⊢
      cases X with
      | none => cases h
      | some x =>
        cases Y with
        | none => cases h
        | some y => exact yesT_some (List.all_eq_true.1 h w (List.mem_range.2 hw))
theorem sum_all : ((List.range 5).all fun a => (List.range 5).all fun b => sums2 (a : Int) (b : Int)) = true := by kernel_rfl
theorem sums_ok (m v s : Int) (hm : 0 ≤ m ∧ m ≤ 255) (hv : 0 ≤ v ∧ v ≤ 255) (hs : 0 ≤ s ∧ s ≤ 255) : D7 M m v s = some true := by
  obtain ⟨a, ha, e1⟩ := tmod_small 5 (by decide) hm
  obtain ⟨b, hb, e2⟩ := tmod_small 5 (by decide) hv
  obtain ⟨c, hc, e3⟩ := tmod_small 7 (by decide) hs
  rw [D7_eq, show Int.tmod (wr .i64 m) 5 = (a : Int) from e1, show Int.tmod (wr .i64 v) 5 = (b : Int) from e2, show Int.tmod (wr .i64 s) 7 = (c : Int) from e3]
  exact sums2_ok (List.all_eq_true.1 (List.all_eq_true.1 sum_all a (List.mem_range.2 ha)) b (List.mem_range.2 hb)) hc
end Go.Proofs.YtkfkbebinhkdlaaDoor
