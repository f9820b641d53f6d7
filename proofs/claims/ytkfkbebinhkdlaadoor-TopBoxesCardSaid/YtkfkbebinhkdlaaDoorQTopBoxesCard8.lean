/- Texts of this claim, joined: D86 to Tc. -/
import Derived.KernelRfl
import Derived.Test.YtkfkbebinhkdlaaDoorProg
import Derived.WalkKit
import Derived.Test.YtkfkbebinhkdlaaDoorQTopBoxesCard7
set_option linter.unusedVariables false
set_option linter.unusedSimpArgs false
set_option maxRecDepth 100000
namespace Go.Proofs.YtkfkbebinhkdlaaDoor
open Go.Vi
/-D 86 -/
noncomputable def D86 (n : Nat × Nat) (l0 : List Int) (begin1 : Int) (v2 : Int) : Option R86 :=
 (idx l0 v2).bind fun x1' =>
 (idx l0 begin1).bind fun x2' =>
 some (wr .i64 (x1' - x2'))
theorem S86_D (n : Nat × Nat) (hn : n.2 = 1) : S86 n = D86 n := by
  funext l0 begin1 v2; refine (S86_eq n l0 begin1 v2).trans ?_
  unfold D86
  first | with_reducible rfl | rfl
/-D 57 -/
noncomputable def DL57_2 (n : Nat × Nat) (f1 : List Int → Int → Int → Int → List Int → Option R57) (l0 : List Int) (room1 : Int) (begin6 : Int) (v7 : Int) (out5 : List Int) : Option R57 :=
    f1 l0 room1 begin6 (wr .i64 (v7 + 1)) out5
theorem DL57_2_eq (n : Nat × Nat) (hn : n.2 = 1) (m1 : Nat) : L57_2 n m1 = DL57_2 n (L57_1 n m1) := by
  funext l0 room1 begin6 v7 out5; refine ((held_eq hn _).trans (L57_2_raw n m1 l0 room1 begin6 v7 out5)).trans ?_
  unfold DL57_2
  (try simp only [S86_D n hn]) <;> first | with_reducible rfl | rfl
noncomputable def DF57_1 (n : Nat × Nat) (f1 : List Int → Int → Int → Int → List Int → Option R57) (l0 : List Int) (room1 : Int) (begin6 : Int) (v7 : Int) (out5 : List Int) : Option R57 :=
 (bif decide (v7 < (l0.length : Int)) then (D86 n l0 (wr .i64 (v7 - 1)) v7).bind fun r1' =>
 (bif decide (r1' > room1) then some []
 else (D86 n l0 begin6 v7).bind fun r2' =>
 (bif decide (r2' > room1) then (bif decide (out5.length + [wr .i64 (v7 - 1)].length ≤ lim) then DL57_2 n f1 l0 room1 (wr .i64 (v7 - 1)) v7 (out5 ++ [wr .i64 (v7 - 1)])
 else none)
 else DL57_2 n f1 l0 room1 begin6 v7 out5))
 else (bif decide (out5.length + [wr .i64 ((l0.length : Int) - 1)].length ≤ lim) then some (out5 ++ [wr .i64 ((l0.length : Int) - 1)])
 else none))
noncomputable def DL57_1 (n : Nat × Nat) (m : Nat) : List Int → Int → Int → Int → List Int → Option R57 := Nat.rec (motive := fun _ => List Int → Int → Int → Int → List Int → Option R57) (fun _ _ _ _ _ => none) (fun _ ih => DF57_1 n ih) m
theorem DL57_1_succ (n : Nat × Nat) (m : Nat) : DL57_1 n (m + 1) = DF57_1 n (DL57_1 n m) := rfl
theorem DL57_1_eq (n : Nat × Nat) (hn : n.2 = 1) : ∀ m, L57_1 n m = DL57_1 n m
  | 0 => by funext l0 room1 begin6 v7 out5; kernel_rfl
  | m + 1 => by
    have ih := DL57_1_eq n hn m
    funext l0 room1 begin6 v7 out5; refine (L57_1_eq n m l0 room1 begin6 v7 out5).trans ?_
    rw [DL57_1_succ]
    unfold DF57_1
    (try simp only [ih, DL57_2_eq n hn, S86_D n hn]) <;> first | with_reducible rfl | rfl
noncomputable def D57 (n : Nat × Nat) (l0 : List Int) (room1 : Int) : Option R57 :=
    DL57_1 n n.1 l0 room1 0 1 []
theorem S57_D (n : Nat × Nat) (hn : n.2 = 1) : S57 n = D57 n := by
  funext l0 room1; refine (S57_eq n l0 room1).trans ?_
  unfold D57
  (try simp only [DL57_2_eq n hn, DL57_1_eq n hn, S86_D n hn]) <;> first | with_reducible rfl | rfl
/-D 23 -/
noncomputable def D23 (n : Nat × Nat) (b0 : (List (Int × Int)) × Int × Int) : Option R23 :=
 (D54 n b0).bind fun r1' =>
 (bif (r1' != 0) then some ([], r1')
 else (D55c56 n b0).bind fun r2' =>
 (D57 n r2' b0.2.1).bind fun r3' =>
 (bif r3'.isEmpty then some ([], 12)
 else some (r3', 0)))
theorem S23_D (n : Nat × Nat) (hn : n.2 = 1) : S23 n = D23 n := by
  funext b0; refine (S23_eq n b0).trans ?_
  unfold D23
  (try simp only [S54_D n hn, S55c56_D n hn, S57_D n hn]) <;> first | with_reducible rfl | rfl
/-D 24 -/
noncomputable def DF24_1 (n : Nat × Nat) (f1 : Int → Int → Int → List Int → Option R24) (volumes1 : Int) (low8 : Int) (high9 : Int) (l7 : List Int) : Option R24 :=
 (bif decide (low8 < high9) then (bif 2 == 0 then none
 else (D57 n l7 (wr .i64 (Int.tdiv (wr .i64 (low8 + high9)) 2))).bind fun r5' =>
 ((bif ((!r5'.isEmpty) == true) then some (decide ((r5'.length : Int) ≤ volumes1))
 else some false)).bind fun b6' =>
 (bif b6' then f1 volumes1 low8 (wr .i64 (Int.tdiv (wr .i64 (low8 + high9)) 2)) l7
 else f1 volumes1 (wr .i64 ((wr .i64 (Int.tdiv (wr .i64 (low8 + high9)) 2)) + 1)) high9 l7))
 else some (low8, 0))
noncomputable def DL24_1 (n : Nat × Nat) (m : Nat) : Int → Int → Int → List Int → Option R24 := Nat.rec (motive := fun _ => Int → Int → Int → List Int → Option R24) (fun _ _ _ _ => none) (fun _ ih => DF24_1 n ih) m
theorem DL24_1_succ (n : Nat × Nat) (m : Nat) : DL24_1 n (m + 1) = DF24_1 n (DL24_1 n m) := rfl
theorem DL24_1_eq (n : Nat × Nat) (hn : n.2 = 1) : ∀ m, L24_1 n m = DL24_1 n m
  | 0 => by funext volumes1 low8 high9 l7; kernel_rfl
  | m + 1 => by
    have ih := DL24_1_eq n hn m
    funext volumes1 low8 high9 l7; refine (L24_1_eq n m volumes1 low8 high9 l7).trans ?_
    rw [DL24_1_succ]
    unfold DF24_1
    (try simp only [ih, S54_D n hn, S55c56_D n hn, S57_D n hn]) <;> first | with_reducible rfl | rfl
noncomputable def D24 (n : Nat × Nat) (b0 : (List (Int × Int)) × Int × Int) (volumes1 : Int) : Option R24 :=
 (D54 n b0).bind fun r1' =>
 (bif (r1' != 0) then some (0, r1')
 else ((bif (decide (volumes1 < 1) == false) then some (decide (volumes1 > (b0.1.length : Int)))
 else some true)).bind fun b2' =>
 (bif b2' then some (0, 1)
 else (D55c56 n b0).bind fun r3' =>
 (bif inB (wr .i64 ((r3'.length : Int) - 1)) r3'.length then (idx r3' (wr .i64 ((r3'.length : Int) - 1))).bind fun x4' =>
          DL24_1 n n.1 volumes1 1 x4' r3'
 else none)))
theorem S24_D (n : Nat × Nat) (hn : n.2 = 1) : S24 n = D24 n := by
  funext b0 volumes1; refine (S24_eq n b0 volumes1).trans ?_
  unfold D24
  (try simp only [DL24_1_eq n hn, S54_D n hn, S55c56_D n hn, S57_D n hn]) <;> first | with_reducible rfl | rfl
/-D 14 -/
noncomputable def DF14_1 (n : Nat × Nat) (f1 : List Int → List Int → Int → Int → Option R14) (a0 : List Int) (b1 : List Int) (v12 : Int) (v13 : Int) : Option R14 :=
 (bif decide (v13 < v12) then (idx a0 v13).bind fun x1' =>
 (idx b1 v13).bind fun x2' =>
 (bif (x1' != x2') then some false
 else f1 a0 b1 v12 (wr .i64 (v13 + 1)))
 else some true)
noncomputable def DL14_1 (n : Nat × Nat) (m : Nat) : List Int → List Int → Int → Int → Option R14 := Nat.rec (motive := fun _ => List Int → List Int → Int → Int → Option R14) (fun _ _ _ _ => none) (fun _ ih => DF14_1 n ih) m
theorem DL14_1_succ (n : Nat × Nat) (m : Nat) : DL14_1 n (m + 1) = DF14_1 n (DL14_1 n m) := rfl
theorem DL14_1_eq (n : Nat × Nat) (hn : n.2 = 1) : ∀ m, L14_1 n m = DL14_1 n m
  | 0 => by funext a0 b1 v12 v13; kernel_rfl
  | m + 1 => by
    have ih := DL14_1_eq n hn m
    funext a0 b1 v12 v13; refine (L14_1_eq n m a0 b1 v12 v13).trans ?_
    rw [DL14_1_succ]
    unfold DF14_1
    (try simp only [ih]) <;> first | with_reducible rfl | rfl
noncomputable def D14 (n : Nat × Nat) (a0 : List Int) (b1 : List Int) : Option R14 :=
 (bif ((a0.length : Int) != (b1.length : Int)) then some false
 else DL14_1 n n.1 a0 b1 (a0.length : Int) 0)
theorem S14_D (n : Nat × Nat) (hn : n.2 = 1) : S14 n = D14 n := by
  funext a0 b1; refine (S14_eq n a0 b1).trans ?_
  unfold D14
  (try simp only [DL14_1_eq n hn]) <;> first | with_reducible rfl | rfl
/-D 63 -/
noncomputable def DL63_3 (n : Nat × Nat) (f1 : List Int → Int → Int → List Int → Option R63) (f2 : List Int → Int → Int → Int → List Int → Int → Int → List Int → Option R63) (coins0 : List Int) (most1 : Int) (sum6 : Int) (v7 : Int) (v17 : List Int) (v18 : Int) (v19 : Int) (out5 : List Int) : Option R63 :=
    f2 coins0 most1 sum6 v7 v17 v18 (wr .i64 (v19 + 1)) out5
theorem DL63_3_eq (n : Nat × Nat) (hn : n.2 = 1) (m1 m2 : Nat) : L63_3 n m1 m2 = DL63_3 n (L63_1 n m1) (L63_2 n m1 m2) := by
  funext coins0 most1 sum6 v7 v17 v18 v19 out5; refine ((held_eq hn _).trans (L63_3_raw n m1 m2 coins0 most1 sum6 v7 v17 v18 v19 out5)).trans ?_
  unfold DL63_3
  first | with_reducible rfl | rfl
noncomputable def DF63_2 (n : Nat × Nat) (f1 : List Int → Int → Int → List Int → Option R63) (f2 : List Int → Int → Int → Int → List Int → Int → Int → List Int → Option R63) (coins0 : List Int) (most1 : Int) (sum6 : Int) (v7 : Int) (v17 : List Int) (v18 : Int) (v19 : Int) (out5 : List Int) : Option R63 :=
 (bif decide (v19 < v18) then (idx v17 v19).bind fun x1' =>
 (bif decide (x1' ≤ sum6) then (bif inB (wr .i64 (sum6 - x1')) out5.length then (idx out5 (wr .i64 (sum6 - x1'))).bind fun x2' =>
          DL63_3 n f1 f2 coins0 most1 sum6 (if (wr .i64 (1 + x2')) < v7 then (wr .i64 (1 + x2')) else v7) v17 v18 v19 out5
 else none)
 else DL63_3 n f1 f2 coins0 most1 sum6 v7 v17 v18 v19 out5)
 else (bif decide (out5.length + [v7].length ≤ lim) then f1 coins0 most1 (wr .i64 (sum6 + 1)) (out5 ++ [v7])
 else none))
noncomputable def DL63_2 (n : Nat × Nat) (f1 : List Int → Int → Int → List Int → Option R63) (m : Nat) : List Int → Int → Int → Int → List Int → Int → Int → List Int → Option R63 := Nat.rec (motive := fun _ => List Int → Int → Int → Int → List Int → Int → Int → List Int → Option R63) (fun _ _ _ _ _ _ _ _ => none) (fun _ ih => DF63_2 n f1 ih) m
theorem DL63_2_succ (n : Nat × Nat) (f1 : List Int → Int → Int → List Int → Option R63) (m : Nat) : DL63_2 n f1 (m + 1) = DF63_2 n f1 (DL63_2 n f1 m) := rfl
theorem DL63_2_eq (n : Nat × Nat) (hn : n.2 = 1) (m1 : Nat) : ∀ m, L63_2 n m1 m = DL63_2 n (L63_1 n m1) m
  | 0 => by funext coins0 most1 sum6 v7 v17 v18 v19 out5; kernel_rfl
  | m + 1 => by
    have ih := DL63_2_eq n hn m1 m
    funext coins0 most1 sum6 v7 v17 v18 v19 out5; refine (L63_2_eq n m1 m coins0 most1 sum6 v7 v17 v18 v19 out5).trans ?_
    rw [DL63_2_succ]
    unfold DF63_2
    (try simp only [ih, DL63_3_eq n hn]) <;> first | with_reducible rfl | rfl
noncomputable def DF63_1 (n : Nat × Nat) (f1 : List Int → Int → Int → List Int → Option R63) (coins0 : List Int) (most1 : Int) (sum6 : Int) (out5 : List Int) : Option R63 :=
 (bif decide (sum6 ≤ most1) then DL63_2 n f1 n.1 coins0 most1 sum6 sum6 coins0 (coins0.length : Int) 0 out5
 else some out5)
noncomputable def DL63_1 (n : Nat × Nat) (m : Nat) : List Int → Int → Int → List Int → Option R63 := Nat.rec (motive := fun _ => List Int → Int → Int → List Int → Option R63) (fun _ _ _ _ => none) (fun _ ih => DF63_1 n ih) m
theorem DL63_1_succ (n : Nat × Nat) (m : Nat) : DL63_1 n (m + 1) = DF63_1 n (DL63_1 n m) := rfl
theorem DL63_1_eq (n : Nat × Nat) (hn : n.2 = 1) : ∀ m, L63_1 n m = DL63_1 n m
  | 0 => by funext coins0 most1 sum6 out5; kernel_rfl
  | m + 1 => by
    have ih := DL63_1_eq n hn m
    funext coins0 most1 sum6 out5; refine (L63_1_eq n m coins0 most1 sum6 out5).trans ?_
    rw [DL63_1_succ]
    unfold DF63_1
    (try simp only [ih, DL63_3_eq n hn, DL63_2_eq n hn]) <;> first | with_reducible rfl | rfl
noncomputable def D63 (n : Nat × Nat) (coins0 : List Int) (most1 : Int) : Option R63 :=
    DL63_1 n n.1 coins0 most1 1 [0]
theorem S63_D (n : Nat × Nat) (hn : n.2 = 1) : S63 n = D63 n := by
  funext coins0 most1; refine (S63_eq n coins0 most1).trans ?_
  unfold D63
  (try simp only [DL63_3_eq n hn, DL63_2_eq n hn, DL63_1_eq n hn]) <;> first | with_reducible rfl | rfl
/-D 87 -/
noncomputable def DF87_1 (n : Nat × Nat) (SS : List Int → Int → Int → Option R87) (f1 : List Int → Int → Int → Int → Int → Option R87) (coins0 : List Int) (sum1 : Int) (many2 : Int) (v7 : Int) (v8 : Int) : Option R87 :=
 ((bif (decide (v8 ≤ many2) == true) then (idx coins0 v7).bind fun x2' =>
 some (decide (wr .i64 (v8 * x2') ≤ sum1))
 else some false)).bind fun b3' =>
 (bif b3' then (bif bounds none (some v7) none coins0.length then (idx coins0 v7).bind fun x4' =>
 (SS (coins0.take (Int.toNat v7)) (wr .i64 (sum1 - (wr .i64 (v8 * x4')))) (wr .i64 (many2 - v8))).bind fun r5' =>
 (bif r5' then some true
 else f1 coins0 sum1 many2 v7 (wr .i64 (v8 + 1)))
 else none)
 else some false)
noncomputable def DL87_1 (n : Nat × Nat) (SS : List Int → Int → Int → Option R87) (m : Nat) : List Int → Int → Int → Int → Int → Option R87 := Nat.rec (motive := fun _ => List Int → Int → Int → Int → Int → Option R87) (fun _ _ _ _ _ => none) (fun _ ih => DF87_1 n SS ih) m
theorem DL87_1_succ (n : Nat × Nat) (SS : List Int → Int → Int → Option R87) (m : Nat) : DL87_1 n SS (m + 1) = DF87_1 n SS (DL87_1 n SS m) := rfl
theorem DL87_1_eq (n : Nat × Nat) (hn : n.2 = 1) (SS : List Int → Int → Int → Option R87) : ∀ m, L87_1 n SS m = DL87_1 n SS m
  | 0 => by funext coins0 sum1 many2 v7 v8; kernel_rfl
  | m + 1 => by
    have ih := DL87_1_eq n hn SS m
    funext coins0 sum1 many2 v7 v8; refine (L87_1_eq n SS m coins0 sum1 many2 v7 v8).trans ?_
    rw [DL87_1_succ]
    unfold DF87_1
    (try simp only [ih]) <;> first | with_reducible rfl | rfl
noncomputable def DB87 (n : Nat × Nat) (SS : List Int → Int → Int → Option R87) (coins0 : List Int) (sum1 : Int) (many2 : Int) : Option R87 :=
 (bif ((coins0.length : Int) == 0) then ((bif ((sum1 == 0) == true) then some (many2 == 0)
 else some false)).bind fun b1' =>
 some b1'
 else DL87_1 n SS n.1 coins0 sum1 many2 (wr .i64 ((coins0.length : Int) - 1)) 0)
theorem DB87_eq (n : Nat × Nat) (hn : n.2 = 1) (SS : List Int → Int → Int → Option R87) : B87 n SS = DB87 n SS := by
  funext coins0 sum1 many2; refine (B87_eq n SS coins0 sum1 many2).trans ?_
  unfold DB87
  (try simp only [DL87_1_eq n hn SS]) <;> first | with_reducible rfl | rfl
noncomputable def DT87 (n : Nat × Nat) (d : Nat) : List Int → Int → Int → Option R87 := Nat.rec (motive := fun _ => List Int → Int → Int → Option R87) (fun _ _ _ => none) (fun _ ih => DB87 n ih) d
theorem DT87_succ (n : Nat × Nat) (d : Nat) : DT87 n (d + 1) = DB87 n (DT87 n d) := rfl
theorem DT87_eq (n : Nat × Nat) (hn : n.2 = 1) : ∀ d, T87 n d = DT87 n d
  | 0 => rfl
  | d + 1 => by
    funext coins0 sum1 many2
    rw [T87_eq, DT87_eq n hn d, DB87_eq n hn, DT87_succ]
noncomputable def D87 (n : Nat × Nat) (coins0 : List Int) (sum1 : Int) (many2 : Int) : Option R87 := DT87 n n.1 coins0 sum1 many2
theorem S87_D (n : Nat × Nat) (hn : n.2 = 1) : S87 n = D87 n := by
  funext coins0 sum1 many2; unfold S87 D87; rw [DT87_eq n hn]
/-D 58 -/
noncomputable def DF58_2 (n : Nat × Nat) (f1 : List Int → Int → Int → List Int → Int → Int → List Int → Option R58) (f2 : List Int → Int → Int → Int → List Int → Int → List Int → Int → Int → List Int → Option R58) (coins0 : List Int) (sum1 : Int) (left7 : Int) (c10 : Int) (v11 : List Int) (v12 : Int) (v25 : List Int) (v26 : Int) (v27 : Int) (out8 : List Int) : Option R58 :=
 ((bif (decide (v12 < left7) == true) then (D87 n v11 (wr .i64 (sum1 - (wr .i64 (v12 * c10)))) (wr .i64 (left7 - v12))).bind fun r5' =>
 some (!r5')
 else some false)).bind fun b6' =>
 (bif b6' then f2 coins0 sum1 left7 c10 v11 (wr .i64 (v12 + 1)) v25 v26 v27 out8
 else (bif decide (out8.length + [v12].length ≤ lim) then f1 coins0 (wr .i64 (sum1 - (wr .i64 (v12 * c10)))) (wr .i64 (left7 - v12)) v25 v26 (wr .i64 (v27 + 1)) (out8 ++ [v12])
 else none))
noncomputable def DL58_2 (n : Nat × Nat) (f1 : List Int → Int → Int → List Int → Int → Int → List Int → Option R58) (m : Nat) : List Int → Int → Int → Int → List Int → Int → List Int → Int → Int → List Int → Option R58 := Nat.rec (motive := fun _ => List Int → Int → Int → Int → List Int → Int → List Int → Int → Int → List Int → Option R58) (fun _ _ _ _ _ _ _ _ _ _ => none) (fun _ ih => DF58_2 n f1 ih) m
theorem DL58_2_succ (n : Nat × Nat) (f1 : List Int → Int → Int → List Int → Int → Int → List Int → Option R58) (m : Nat) : DL58_2 n f1 (m + 1) = DF58_2 n f1 (DL58_2 n f1 m) := rfl
theorem DL58_2_eq (n : Nat × Nat) (hn : n.2 = 1) (m1 : Nat) : ∀ m, L58_2 n m1 m = DL58_2 n (L58_1 n m1) m
  | 0 => by funext coins0 sum1 left7 c10 v11 v12 v25 v26 v27 out8; kernel_rfl
  | m + 1 => by
    have ih := DL58_2_eq n hn m1 m
    funext coins0 sum1 left7 c10 v11 v12 v25 v26 v27 out8; refine (L58_2_eq n m1 m coins0 sum1 left7 c10 v11 v12 v25 v26 v27 out8).trans ?_
    rw [DL58_2_succ]
    unfold DF58_2
    (try simp only [ih, S52_D n hn, S63_D n hn, S87_D n hn]) <;> first | with_reducible rfl | rfl
noncomputable def DF58_1 (n : Nat × Nat) (f1 : List Int → Int → Int → List Int → Int → Int → List Int → Option R58) (coins0 : List Int) (sum1 : Int) (left7 : Int) (v25 : List Int) (v26 : Int) (v27 : Int) (out8 : List Int) : Option R58 :=
 (bif decide (v27 < v26) then (idx v25 v27).bind fun x4' =>
 (bif bounds (some (wr .i64 (v27 + 1))) none none coins0.length then DL58_2 n f1 n.1 coins0 sum1 left7 x4' (coins0.drop (Int.toNat (wr .i64 (v27 + 1)))) 0 v25 v26 v27 out8
 else none)
 else some (out8, 0))
noncomputable def DL58_1 (n : Nat × Nat) (m : Nat) : List Int → Int → Int → List Int → Int → Int → List Int → Option R58 := Nat.rec (motive := fun _ => List Int → Int → Int → List Int → Int → Int → List Int → Option R58) (fun _ _ _ _ _ _ _ => none) (fun _ ih => DF58_1 n ih) m
theorem DL58_1_succ (n : Nat × Nat) (m : Nat) : DL58_1 n (m + 1) = DF58_1 n (DL58_1 n m) := rfl
theorem DL58_1_eq (n : Nat × Nat) (hn : n.2 = 1) : ∀ m, L58_1 n m = DL58_1 n m
  | 0 => by funext coins0 sum1 left7 v25 v26 v27 out8; kernel_rfl
  | m + 1 => by
    have ih := DL58_1_eq n hn m
    funext coins0 sum1 left7 v25 v26 v27 out8; refine (L58_1_eq n m coins0 sum1 left7 v25 v26 v27 out8).trans ?_
    rw [DL58_1_succ]
    unfold DF58_1
    (try simp only [ih, DL58_2_eq n hn, S52_D n hn, S63_D n hn, S87_D n hn]) <;> first | with_reducible rfl | rfl
noncomputable def D58 (n : Nat × Nat) (coins0 : List Int) (sum1 : Int) : Option R58 :=
 (D52 n coins0 sum1).bind fun r1' =>
 (bif (r1' != 0) then some ([], r1')
 else (D63 n coins0 sum1).bind fun r2' =>
 (bif inB sum1 r2'.length then (idx r2' sum1).bind fun x3' =>
        DL58_1 n n.1 coins0 sum1 x3' coins0 (coins0.length : Int) 0 []
 else none))
theorem S58_D (n : Nat × Nat) (hn : n.2 = 1) : S58 n = D58 n := by
  funext coins0 sum1; refine (S58_eq n coins0 sum1).trans ?_
  unfold D58
  (try simp only [DL58_2_eq n hn, DL58_1_eq n hn, S52_D n hn, S63_D n hn, S87_D n hn]) <;> first | with_reducible rfl | rfl
/-D 48 -/
noncomputable def DF48_1 (n : Nat × Nat) (f1 : (List (Int × Int)) → Int → Int → Option R48) (v13 : List (Int × Int)) (v14 : Int) (v15 : Int) : Option R48 :=
 (bif decide (v15 < v14) then (idx v13 v15).bind fun x1' =>
 ((bif (decide (x1'.1 < 0) == false) then some (decide (x1'.1 > 100))
 else some true)).bind fun b2' =>
 ((bif (b2' == false) then some (decide (x1'.2 < 1))
 else some true)).bind fun b3' =>
 ((bif (b3' == false) then some (decide (x1'.2 > 9))
 else some true)).bind fun b4' =>
 (bif b4' then some 1
 else f1 v13 v14 (wr .i64 (v15 + 1)))
 else some 0)
noncomputable def DL48_1 (n : Nat × Nat) (m : Nat) : (List (Int × Int)) → Int → Int → Option R48 := Nat.rec (motive := fun _ => (List (Int × Int)) → Int → Int → Option R48) (fun _ _ _ => none) (fun _ ih => DF48_1 n ih) m
theorem DL48_1_succ (n : Nat × Nat) (m : Nat) : DL48_1 n (m + 1) = DF48_1 n (DL48_1 n m) := rfl
theorem DL48_1_eq (n : Nat × Nat) (hn : n.2 = 1) : ∀ m, L48_1 n m = DL48_1 n m
  | 0 => by funext v13 v14 v15; kernel_rfl
  | m + 1 => by
    have ih := DL48_1_eq n hn m
    funext v13 v14 v15; refine (L48_1_eq n m v13 v14 v15).trans ?_
    rw [DL48_1_succ]
    unfold DF48_1
    (try simp only [ih]) <;> first | with_reducible rfl | rfl
noncomputable def D48 (n : Nat × Nat) (l0 : List (Int × Int)) : Option R48 :=
 (bif ((l0.length : Int) == 0) then some 4
 else (bif decide ((l0.length : Int) > 8) then some 3
 else DL48_1 n n.1 l0 (l0.length : Int) 0))
theorem S48_D (n : Nat × Nat) (hn : n.2 = 1) : S48 n = D48 n := by
  funext l0; refine (S48_eq n l0).trans ?_
  unfold D48
  (try simp only [DL48_1_eq n hn]) <;> first | with_reducible rfl | rfl
/-D 101 -/
noncomputable def D101 (n : Nat × Nat) (x0 : Int) : Option R101 :=
 some (x0 != x0)
theorem S101_D (n : Nat × Nat) (hn : n.2 = 1) : S101 n = D101 n := by
  funext x0; refine (S101_eq n x0).trans ?_
  unfold D101
  first | with_reducible rfl | rfl
/-D 69 -/
noncomputable def D69 (n : Nat × Nat) (x0 : Int) (y1 : Int) : Option R69 :=
 (D101 n x0).bind fun r1' =>
 (D101 n y1).bind fun r2' =>
 (bif r1' then (bif r2' then some 0
 else some (-1))
 else (bif r2' then some 1
 else (bif decide (x0 < y1) then some (-1)
 else (bif decide (x0 > y1) then some 1
 else some 0))))
theorem S69_D (n : Nat × Nat) (hn : n.2 = 1) : S69 n = D69 n := by
  funext x0 y1; refine (S69_eq n x0 y1).trans ?_
  unfold D69
  (try simp only [S101_D n hn]) <;> first | with_reducible rfl | rfl
/-D 37 -/
noncomputable def DF37_1 (n : Nat × Nat) (f1 : List Int → List Int → List Int → Int → Int → Option R37) (s10 : List Int) (s21 : List Int) (v9 : List Int) (v10 : Int) (v11 : Int) : Option R37 :=
 (bif decide (v11 < v10) then (idx v9 v11).bind fun x1' =>
 (bif decide (v11 ≥ (s21.length : Int)) then some 1
 else (idx s21 v11).bind fun x2' =>
 (D69 n x1' x2').bind fun r3' =>
 (bif (r3' != 0) then some r3'
 else f1 s10 s21 v9 v10 (wr .i64 (v11 + 1))))
 else (bif decide ((s10.length : Int) < (s21.length : Int)) then some (-1)
 else some 0))
noncomputable def DL37_1 (n : Nat × Nat) (m : Nat) : List Int → List Int → List Int → Int → Int → Option R37 := Nat.rec (motive := fun _ => List Int → List Int → List Int → Int → Int → Option R37) (fun _ _ _ _ _ => none) (fun _ ih => DF37_1 n ih) m
theorem DL37_1_succ (n : Nat × Nat) (m : Nat) : DL37_1 n (m + 1) = DF37_1 n (DL37_1 n m) := rfl
theorem DL37_1_eq (n : Nat × Nat) (hn : n.2 = 1) : ∀ m, L37_1 n m = DL37_1 n m
  | 0 => by funext s10 s21 v9 v10 v11; kernel_rfl
  | m + 1 => by
    have ih := DL37_1_eq n hn m
    funext s10 s21 v9 v10 v11; refine (L37_1_eq n m s10 s21 v9 v10 v11).trans ?_
    rw [DL37_1_succ]
    unfold DF37_1
    (try simp only [ih, S69_D n hn]) <;> first | with_reducible rfl | rfl
noncomputable def D37 (n : Nat × Nat) (s10 : List Int) (s21 : List Int) : Option R37 :=
    DL37_1 n n.1 s10 s21 s10 (s10.length : Int) 0
theorem S37_D (n : Nat × Nat) (hn : n.2 = 1) : S37 n = D37 n := by
  funext s10 s21; refine (S37_eq n s10 s21).trans ?_
  unfold D37
  (try simp only [DL37_1_eq n hn, S69_D n hn]) <;> first | with_reducible rfl | rfl
/-D 50 -/
noncomputable def DL50_3 (n : Nat × Nat) (f1 : (List (Int × Int)) → Int → Int → List Int → Option R50) (f2 : (List (Int × Int)) → Int → Int → Bool → Int → Int → (List (Int × Int)) → Int → Int → List Int → List Int → Option R50) (l0 : List (Int × Int)) (v6 : Int) (v8 : Int) (good9 : Bool) (v19 : Int) (v20 : Int) (v23 : List (Int × Int)) (v24 : Int) (v25 : Int) (best5 : List Int) (out7 : List Int) : Option R50 :=
    f2 l0 v6 v8 good9 v19 v20 v23 v24 (wr .i64 (v25 + 1)) best5 out7
theorem DL50_3_eq (n : Nat × Nat) (hn : n.2 = 1) (m1 m2 : Nat) : L50_3 n m1 m2 = DL50_3 n (L50_1 n m1) (L50_2 n m1 m2) := by
  funext l0 v6 v8 good9 v19 v20 v23 v24 v25 best5 out7; refine ((held_eq hn _).trans (L50_3_raw n m1 m2 l0 v6 v8 good9 v19 v20 v23 v24 v25 best5 out7)).trans ?_
  unfold DL50_3
  (try simp only [S37_D n hn, S48_D n hn]) <;> first | with_reducible rfl | rfl
noncomputable def DL50_4 (n : Nat × Nat) (f1 : (List (Int × Int)) → Int → Int → List Int → Option R50) (l0 : List (Int × Int)) (v19 : Int) (v20 : Int) (best5 : List Int) : Option R50 :=
    f1 l0 v19 (wr .i64 (v20 + 1)) best5
theorem DL50_4_eq (n : Nat × Nat) (hn : n.2 = 1) (m1 : Nat) : L50_4 n m1 = DL50_4 n (L50_1 n m1) := by
  funext l0 v19 v20 best5; refine ((held_eq hn _).trans (L50_4_raw n m1 l0 v19 v20 best5)).trans ?_
  unfold DL50_4
  (try simp only [DL50_3_eq n hn, S37_D n hn, S48_D n hn]) <;> first | with_reducible rfl | rfl
noncomputable def DF50_2 (n : Nat × Nat) (f1 : (List (Int × Int)) → Int → Int → List Int → Option R50) (f2 : (List (Int × Int)) → Int → Int → Bool → Int → Int → (List (Int × Int)) → Int → Int → List Int → List Int → Option R50) (l0 : List (Int × Int)) (v6 : Int) (v8 : Int) (good9 : Bool) (v19 : Int) (v20 : Int) (v23 : List (Int × Int)) (v24 : Int) (v25 : Int) (best5 : List Int) (out7 : List Int) : Option R50 :=
 (bif decide (v25 < v24) then (idx v23 v25).bind fun x2' =>
 (bif decide (v25 < 0) then none
 else (bif ((wr .i64 (BitVec.ofInt (IntKind.bits .i64) (Int.fdiv v6 (2 ^ (min (Int.toNat v25) (IntKind.bits .i64)))) &&& BitVec.ofInt (IntKind.bits .i64) 1).toNat) == 1) then (bif decide (out7.length + [v25].length ≤ lim) then DL50_3 n f1 f2 l0 v6 v8 good9 v19 v20 v23 v24 v25 best5 (out7 ++ [v25])
 else none)
 else ((bif (good9 == true) then some (decide (x2'.1 ≥ v8))
 else some false)).bind fun b3' =>
          DL50_3 n f1 f2 l0 v6 x2'.1 b3' v19 v20 v23 v24 v25 best5 out7))
 else ((bif (good9 == true) then ((bif (best5.isEmpty == false) then some (decide ((out7.length : Int) < (best5.length : Int)))
 else some true)).bind fun b4' =>
 ((bif (b4' == false) then ((bif (((out7.length : Int) == (best5.length : Int)) == true) then (D37 n out7 best5).bind fun r5' =>
 some (decide (r5' < 0))
 else some false)).bind fun b6' =>
 some b6'
 else some true)).bind fun b7' =>
 some b7'
 else some false)).bind fun b8' =>
 (bif b8' then (bif out7.isEmpty then some ([], 0)
 else DL50_4 n f1 l0 v19 v20 out7)
 else DL50_4 n f1 l0 v19 v20 best5))
noncomputable def DL50_2 (n : Nat × Nat) (f1 : (List (Int × Int)) → Int → Int → List Int → Option R50) (m : Nat) : (List (Int × Int)) → Int → Int → Bool → Int → Int → (List (Int × Int)) → Int → Int → List Int → List Int → Option R50 := Nat.rec (motive := fun _ => (List (Int × Int)) → Int → Int → Bool → Int → Int → (List (Int × Int)) → Int → Int → List Int → List Int → Option R50) (fun _ _ _ _ _ _ _ _ _ _ _ => none) (fun _ ih => DF50_2 n f1 ih) m
theorem DL50_2_succ (n : Nat × Nat) (f1 : (List (Int × Int)) → Int → Int → List Int → Option R50) (m : Nat) : DL50_2 n f1 (m + 1) = DF50_2 n f1 (DL50_2 n f1 m) := rfl
theorem DL50_2_eq (n : Nat × Nat) (hn : n.2 = 1) (m1 : Nat) : ∀ m, L50_2 n m1 m = DL50_2 n (L50_1 n m1) m
  | 0 => by funext l0 v6 v8 good9 v19 v20 v23 v24 v25 best5 out7; kernel_rfl
  | m + 1 => by
    have ih := DL50_2_eq n hn m1 m
    funext l0 v6 v8 good9 v19 v20 v23 v24 v25 best5 out7; refine (L50_2_eq n m1 m l0 v6 v8 good9 v19 v20 v23 v24 v25 best5 out7).trans ?_
    rw [DL50_2_succ]
    unfold DF50_2
    (try simp only [ih, DL50_3_eq n hn, DL50_4_eq n hn, S37_D n hn, S48_D n hn]) <;> first | with_reducible rfl | rfl
noncomputable def DF50_1 (n : Nat × Nat) (f1 : (List (Int × Int)) → Int → Int → List Int → Option R50) (l0 : List (Int × Int)) (v19 : Int) (v20 : Int) (best5 : List Int) : Option R50 :=
 (bif decide (v20 < v19) then DL50_2 n f1 n.1 l0 v20 (-1) true v19 v20 l0 (l0.length : Int) 0 best5 []
 else some (best5, 0))
noncomputable def DL50_1 (n : Nat × Nat) (m : Nat) : (List (Int × Int)) → Int → Int → List Int → Option R50 := Nat.rec (motive := fun _ => (List (Int × Int)) → Int → Int → List Int → Option R50) (fun _ _ _ _ => none) (fun _ ih => DF50_1 n ih) m
theorem DL50_1_succ (n : Nat × Nat) (m : Nat) : DL50_1 n (m + 1) = DF50_1 n (DL50_1 n m) := rfl
theorem DL50_1_eq (n : Nat × Nat) (hn : n.2 = 1) : ∀ m, L50_1 n m = DL50_1 n m
  | 0 => by funext l0 v19 v20 best5; kernel_rfl
  | m + 1 => by
    have ih := DL50_1_eq n hn m
    funext l0 v19 v20 best5; refine (L50_1_eq n m l0 v19 v20 best5).trans ?_
    rw [DL50_1_succ]
    unfold DF50_1
    (try simp only [ih, DL50_3_eq n hn, DL50_4_eq n hn, DL50_2_eq n hn, S37_D n hn, S48_D n hn]) <;> first | with_reducible rfl | rfl
noncomputable def D50 (n : Nat × Nat) (l0 : List (Int × Int)) : Option R50 :=
 (D48 n l0).bind fun r1' =>
 (bif (r1' != 0) then some ([], r1')
 else (bif decide ((l0.length : Int) < 0) then none
 else DL50_1 n n.1 l0 (wr .i64 (1 * 2 ^ (min (Int.toNat (l0.length : Int)) (IntKind.bits .i64)))) 0 []))
theorem S50_D (n : Nat × Nat) (hn : n.2 = 1) : S50 n = D50 n := by
  funext l0; refine (S50_eq n l0).trans ?_
  unfold D50
  (try simp only [DL50_3_eq n hn, DL50_4_eq n hn, DL50_2_eq n hn, DL50_1_eq n hn, S37_D n hn, S48_D n hn]) <;> first | with_reducible rfl | rfl
/-D 17 -/
noncomputable def D17 (n : Nat × Nat) (j0 : Int × List Int) : Option R17 := HF17 j0
theorem S17_D (n : Nat × Nat) (hn : n.2 = 1) : S17 n = D17 n := by unfold S17 D17; rfl
/-D 117 -/
noncomputable def DF117_1 (n : Nat × Nat) (f1 : (List (Int × Int)) → Int → Int → Int → Int → Option R117) (s0 : List (Int × Int)) (v7 : Int) (v8 : Int) (v3_0 : Int) (v3_1 : Int) : Option R117 :=
 (bif decide (v8 < v7) then (idx s0 v8).bind fun x1' =>
 (bif ((v3_0 == x1'.1) && ((v3_1 == x1'.2) && true)) then some v8
 else f1 s0 v7 (wr .i64 (v8 + 1)) v3_0 v3_1)
 else some (-1))
noncomputable def DL117_1 (n : Nat × Nat) (m : Nat) : (List (Int × Int)) → Int → Int → Int → Int → Option R117 := Nat.rec (motive := fun _ => (List (Int × Int)) → Int → Int → Int → Int → Option R117) (fun _ _ _ _ _ => none) (fun _ ih => DF117_1 n ih) m
theorem DL117_1_succ (n : Nat × Nat) (m : Nat) : DL117_1 n (m + 1) = DF117_1 n (DL117_1 n m) := rfl
theorem DL117_1_eq (n : Nat × Nat) (hn : n.2 = 1) : ∀ m, L117_1 n m = DL117_1 n m
  | 0 => by funext s0 v7 v8 v3_0 v3_1; kernel_rfl
  | m + 1 => by
    have ih := DL117_1_eq n hn m
    funext s0 v7 v8 v3_0 v3_1; refine (L117_1_eq n m s0 v7 v8 v3_0 v3_1).trans ?_
    rw [DL117_1_succ]
    unfold DF117_1
    (try simp only [ih]) <;> first | with_reducible rfl | rfl
noncomputable def D117 (n : Nat × Nat) (s0 : List (Int × Int)) (v1 : Int × Int) : Option R117 :=
    DL117_1 n n.1 s0 (s0.length : Int) 0 v1.1 v1.2
theorem S117_D (n : Nat × Nat) (hn : n.2 = 1) : S117 n = D117 n := by
  funext s0 v1; refine (S117_eq n s0 v1).trans ?_
  unfold D117
  (try simp only [DL117_1_eq n hn]) <;> first | with_reducible rfl | rfl
/-D 90 -/
noncomputable def D90 (n : Nat × Nat) (s0 : List (Int × Int)) (v1 : Int × Int) : Option R90 :=
 (D117 n s0 v1).bind fun r1' =>
 some (decide (r1' ≥ 0))
theorem S90_D (n : Nat × Nat) (hn : n.2 = 1) : S90 n = D90 n := by
  funext s0 v1; refine (S90_eq n s0 v1).trans ?_
  unfold D90
  (try simp only [S117_D n hn]) <;> first | with_reducible rfl | rfl
/-D 126 -/
noncomputable def DF126_1 (n : Nat × Nat) (f1 : (List (Int × Int)) → Int → Int → Int → (List (Int × Int)) → Option R126) (v20 : List (Int × Int)) (v21 : Int) (v22 : Int) (b1_0 : Int) (b1_1 : List (Int × Int)) : Option R126 :=
 (bif decide (v22 < v21) then (idx v20 v22).bind fun x2' =>
 (bif inB 0 2 then (idx [x2'.1, x2'.2] 0).bind fun x3' =>
 (bif inB 1 2 then (idx [x2'.1, x2'.2] 1).bind fun x4' =>
 ((bif (decide ((if x4' < x3' then x4' else x3') < 0) == false) then (bif inB 0 2 then (idx [x2'.1, x2'.2] 0).bind fun x5' =>
 (bif inB 1 2 then (idx [x2'.1, x2'.2] 1).bind fun x6' =>
 some (decide ((if x6' > x5' then x6' else x5') ≥ b1_0))
 else none)
 else none)
 else some true)).bind fun b7' =>
 (bif b7' then some 2
 else (bif inB 0 2 then (idx [x2'.1, x2'.2] 0).bind fun x8' =>
 (bif inB 1 2 then (idx [x2'.1, x2'.2] 1).bind fun x9' =>
 (bif decide (x8' ≥ x9') then some 7
 else (bif bounds none (some v22) none b1_1.length then (D90 n (b1_1.take (Int.toNat v22)) x2').bind fun r10' =>
 (bif r10' then some 6
 else f1 v20 v21 (wr .i64 (v22 + 1)) b1_0 b1_1)
 else none))
 else none)
 else none))
 else none)
 else none)
 else some 0)
noncomputable def DL126_1 (n : Nat × Nat) (m : Nat) : (List (Int × Int)) → Int → Int → Int → (List (Int × Int)) → Option R126 := Nat.rec (motive := fun _ => (List (Int × Int)) → Int → Int → Int → (List (Int × Int)) → Option R126) (fun _ _ _ _ _ => none) (fun _ ih => DF126_1 n ih) m
theorem DL126_1_succ (n : Nat × Nat) (m : Nat) : DL126_1 n (m + 1) = DF126_1 n (DL126_1 n m) := rfl
theorem DL126_1_eq (n : Nat × Nat) (hn : n.2 = 1) : ∀ m, L126_1 n m = DL126_1 n m
  | 0 => by funext v20 v21 v22 b1_0 b1_1; kernel_rfl
  | m + 1 => by
    have ih := DL126_1_eq n hn m
    funext v20 v21 v22 b1_0 b1_1; refine (L126_1_eq n m v20 v21 v22 b1_0 b1_1).trans ?_
    rw [DL126_1_succ]
    unfold DF126_1
    (try simp only [ih, S90_D n hn]) <;> first | with_reducible rfl | rfl
noncomputable def D126 (n : Nat × Nat) (b0 : Int × List (Int × Int)) : Option R126 :=
 ((bif (decide (b0.1 < 1) == false) then some (decide (b0.1 > 7))
 else some true)).bind fun b1' =>
 (bif b1' then some 1
 else (bif decide ((b0.2.length : Int) > 10) then some 3
 else DL126_1 n n.1 b0.2 (b0.2.length : Int) 0 b0.1 b0.2))
theorem S126_D (n : Nat × Nat) (hn : n.2 = 1) : S126 n = D126 n := by
  funext b0; refine (S126_eq n b0).trans ?_
  unfold D126
  (try simp only [DL126_1_eq n hn, S90_D n hn]) <;> first | with_reducible rfl | rfl
/-D 137 -/
noncomputable def DF137_1 (n : Nat × Nat) (f1 : Int → List Int → Option R137) (v0 : Int) (out3 : List Int) : Option R137 :=
 (bif (v0 != 0) then (D41 n v0).bind fun r1' =>
 (bif decide (out3.length + [r1'].length ≤ lim) then f1 (wr .u64 (BitVec.ofInt (IntKind.bits .u64) v0 &&& BitVec.ofInt (IntKind.bits .u64) (wr .u64 (v0 - 1))).toNat) (out3 ++ [r1'])
 else none)
 else some out3)
noncomputable def DL137_1 (n : Nat × Nat) (m : Nat) : Int → List Int → Option R137 := Nat.rec (motive := fun _ => Int → List Int → Option R137) (fun _ _ => none) (fun _ ih => DF137_1 n ih) m
theorem DL137_1_succ (n : Nat × Nat) (m : Nat) : DL137_1 n (m + 1) = DF137_1 n (DL137_1 n m) := rfl
theorem DL137_1_eq (n : Nat × Nat) (hn : n.2 = 1) : ∀ m, L137_1 n m = DL137_1 n m
  | 0 => by funext v0 out3; kernel_rfl
  | m + 1 => by
    have ih := DL137_1_eq n hn m
    funext v0 out3; refine (L137_1_eq n m v0 out3).trans ?_
    rw [DL137_1_succ]
    unfold DF137_1
    (try simp only [ih, S41_D n hn]) <;> first | with_reducible rfl | rfl
noncomputable def D137 (n : Nat × Nat) (v0 : Int) : Option R137 :=
    DL137_1 n n.1 v0 []
theorem S137_D (n : Nat × Nat) (hn : n.2 = 1) : S137 n = D137 n := by
  funext v0; refine (S137_eq n v0).trans ?_
  unfold D137
  (try simp only [DL137_1_eq n hn, S41_D n hn]) <;> first | with_reducible rfl | rfl
/-D 144 -/
noncomputable def D144 (n : Nat × Nat) (p0 : Int × Int) (v1 : Int) : Option R144 :=
 (bif inB 0 2 then (idx [p0.1, p0.2] 0).bind fun x1' =>
 (bif decide (x1' < 0) then none
 else ((bif (((wr .u64 (BitVec.ofInt (IntKind.bits .u64) (Int.fdiv v1 (2 ^ (min (Int.toNat x1') (IntKind.bits .u64)))) &&& BitVec.ofInt (IntKind.bits .u64) 1).toNat) == 0) == true) then (bif inB 1 2 then (idx [p0.1, p0.2] 1).bind fun x2' =>
 (bif decide (x2' < 0) then none
 else some ((wr .u64 (BitVec.ofInt (IntKind.bits .u64) (Int.fdiv v1 (2 ^ (min (Int.toNat x2') (IntKind.bits .u64)))) &&& BitVec.ofInt (IntKind.bits .u64) 1).toNat) == 0))
 else none)
 else some false)).bind fun b3' =>
 some b3')
 else none)
theorem S144_D (n : Nat × Nat) (hn : n.2 = 1) : S144 n = D144 n := by
  funext p0 v1; refine (S144_eq n p0 v1).trans ?_
  unfold D144
  first | with_reducible rfl | rfl
/-D 148c144 -/
noncomputable def DF148c144_1 (n : Nat × Nat) (f1 : (List (Int × Int)) → Int → Int → Int → Option R148c144) (s0 : List (Int × Int)) (f1_0 : Int) (v7 : Int) (v8 : Int) : Option R148c144 :=
 (bif decide (v8 < v7) then (idx s0 v8).bind fun x1' =>
 (D144 n x1' f1_0).bind fun r2' =>
 (bif r2' then some v8
 else f1 s0 f1_0 v7 (wr .i64 (v8 + 1)))
 else some (-1))
noncomputable def DL148c144_1 (n : Nat × Nat) (m : Nat) : (List (Int × Int)) → Int → Int → Int → Option R148c144 := Nat.rec (motive := fun _ => (List (Int × Int)) → Int → Int → Int → Option R148c144) (fun _ _ _ _ => none) (fun _ ih => DF148c144_1 n ih) m
theorem DL148c144_1_succ (n : Nat × Nat) (m : Nat) : DL148c144_1 n (m + 1) = DF148c144_1 n (DL148c144_1 n m) := rfl
theorem DL148c144_1_eq (n : Nat × Nat) (hn : n.2 = 1) : ∀ m, L148c144_1 n m = DL148c144_1 n m
  | 0 => by funext s0 f1_0 v7 v8; kernel_rfl
  | m + 1 => by
    have ih := DL148c144_1_eq n hn m
    funext s0 f1_0 v7 v8; refine (L148c144_1_eq n m s0 f1_0 v7 v8).trans ?_
    rw [DL148c144_1_succ]
    unfold DF148c144_1
    (try simp only [ih, S144_D n hn]) <;> first | with_reducible rfl | rfl
noncomputable def D148c144 (n : Nat × Nat) (s0 : List (Int × Int)) (cp_1_0 : Int) : Option R148c144 :=
    DL148c144_1 n n.1 s0 cp_1_0 (s0.length : Int) 0
theorem S148c144_D (n : Nat × Nat) (hn : n.2 = 1) : S148c144 n = D148c144 n := by
  funext s0 cp_1_0; refine (S148c144_eq n s0 cp_1_0).trans ?_
  unfold D148c144
  (try simp only [DL148c144_1_eq n hn, S144_D n hn]) <;> first | with_reducible rfl | rfl
/-D 143c144 -/
noncomputable def D143c144 (n : Nat × Nat) (s0 : List (Int × Int)) (cp_1_0 : Int) : Option R143c144 :=
 (D148c144 n s0 cp_1_0).bind fun r1' =>
 some (decide (r1' ≥ 0))
theorem S143c144_D (n : Nat × Nat) (hn : n.2 = 1) : S143c144 n = D143c144 n := by
  funext s0 cp_1_0; refine (S143c144_eq n s0 cp_1_0).trans ?_
  unfold D143c144
  (try simp only [S148c144_D n hn]) <;> first | with_reducible rfl | rfl
/-D 138 -/
noncomputable def D138 (n : Nat × Nat) (b0 : Int × List (Int × Int)) (v1 : Int) : Option R138 :=
 (D143c144 n b0.2 v1).bind fun r1' =>
 some (!r1')
theorem S138_D (n : Nat × Nat) (hn : n.2 = 1) : S138 n = D138 n := by
  funext b0 v1; refine (S138_eq n b0 v1).trans ?_
  unfold D138
  (try simp only [S143c144_D n hn]) <;> first | with_reducible rfl | rfl
/-D 127 -/
noncomputable def DL127_2 (n : Nat × Nat) (f1 : Int → Int → Int → Int → (List (Int × Int)) → List Int → Option R127) (many5 : Int) (v10 : Int) (v11 : Int) (b1_0 : Int) (b1_1 : List (Int × Int)) (best4 : List Int) : Option R127 :=
    f1 many5 v10 (wr .u64 (v11 + 1)) b1_0 b1_1 best4
theorem DL127_2_eq (n : Nat × Nat) (hn : n.2 = 1) (m1 : Nat) : L127_2 n m1 = DL127_2 n (L127_1 n m1) := by
  funext many5 v10 v11 b1_0 b1_1 best4; refine ((held_eq hn _).trans (L127_2_raw n m1 many5 v10 v11 b1_0 b1_1 best4)).trans ?_
  unfold DL127_2
  (try simp only [S137_D n hn, S138_D n hn, S37_D n hn]) <;> first | with_reducible rfl | rfl
noncomputable def DF127_1 (n : Nat × Nat) (f1 : Int → Int → Int → Int → (List (Int × Int)) → List Int → Option R127) (many5 : Int) (v10 : Int) (v11 : Int) (b1_0 : Int) (b1_1 : List (Int × Int)) (best4 : List Int) : Option R127 :=
 (bif decide (v11 < v10) then (D137 n v11).bind fun r1' =>
 (D138 n (b1_0, b1_1) v11).bind fun r2' =>
 ((bif ((!r2') == false) then ((bif (decide (many5 > 0) == true) then some (decide ((r1'.length : Int) > (best4.length : Int)))
 else some false)).bind fun b3' =>
 some b3'
 else some true)).bind fun b4' =>
 (bif b4' then DL127_2 n f1 many5 v10 v11 b1_0 b1_1 best4
 else ((bif ((many5 == 0) == false) then some (decide ((r1'.length : Int) < (best4.length : Int)))
 else some true)).bind fun b5' =>
 (bif b5' then DL127_2 n f1 1 v10 v11 b1_0 b1_1 r1'
 else (D37 n r1' best4).bind fun r6' =>
 (bif decide (r6' < 0) then DL127_2 n f1 (wr .i64 (many5 + 1)) v10 v11 b1_0 b1_1 r1'
 else DL127_2 n f1 (wr .i64 (many5 + 1)) v10 v11 b1_0 b1_1 best4)))
 else some (best4, many5))
noncomputable def DL127_1 (n : Nat × Nat) (m : Nat) : Int → Int → Int → Int → (List (Int × Int)) → List Int → Option R127 := Nat.rec (motive := fun _ => Int → Int → Int → Int → (List (Int × Int)) → List Int → Option R127) (fun _ _ _ _ _ _ => none) (fun _ ih => DF127_1 n ih) m
theorem DL127_1_succ (n : Nat × Nat) (m : Nat) : DL127_1 n (m + 1) = DF127_1 n (DL127_1 n m) := rfl
theorem DL127_1_eq (n : Nat × Nat) (hn : n.2 = 1) : ∀ m, L127_1 n m = DL127_1 n m
  | 0 => by funext many5 v10 v11 b1_0 b1_1 best4; kernel_rfl
  | m + 1 => by
    have ih := DL127_1_eq n hn m
    funext many5 v10 v11 b1_0 b1_1 best4; refine (L127_1_eq n m many5 v10 v11 b1_0 b1_1 best4).trans ?_
    rw [DL127_1_succ]
    unfold DF127_1
    (try simp only [ih, DL127_2_eq n hn, S137_D n hn, S138_D n hn, S37_D n hn]) <;> first | with_reducible rfl | rfl
noncomputable def D127 (n : Nat × Nat) (b0 : Int × List (Int × Int)) : Option R127 :=
 (bif decide (b0.1 < 0) then none
 else DL127_1 n n.1 0 (wr .u64 (1 * 2 ^ (min (Int.toNat b0.1) (IntKind.bits .u64)))) 0 b0.1 b0.2 [])
theorem S127_D (n : Nat × Nat) (hn : n.2 = 1) : S127 n = D127 n := by
  funext b0; refine (S127_eq n b0).trans ?_
  unfold D127
  (try simp only [DL127_2_eq n hn, DL127_1_eq n hn, S137_D n hn, S138_D n hn, S37_D n hn]) <;> first | with_reducible rfl | rfl
/-D 113 -/
noncomputable def D113 (n : Nat × Nat) (b0 : Int × List (Int × Int)) : Option R113 :=
 (D126 n b0).bind fun r1' =>
 (bif (r1' != 0) then some ([], r1')
 else (D127 n b0).bind fun r2' =>
 some (r2'.1, 0))
theorem S113_D (n : Nat × Nat) (hn : n.2 = 1) : S113 n = D113 n := by
  funext b0; refine (S113_eq n b0).trans ?_
  unfold D113
  (try simp only [S126_D n hn, S127_D n hn]) <;> first | with_reducible rfl | rfl
/-D 66 -/
noncomputable def DF66_1 (n : Nat × Nat) (f1 : (List (Int × Int)) → Int → Int → Int → (List (Int × Int)) → Option R66) (v20 : List (Int × Int)) (v21 : Int) (v22 : Int) (b1_0 : Int) (b1_1 : List (Int × Int)) : Option R66 :=
 (bif decide (v22 < v21) then (idx v20 v22).bind fun x2' =>
 (bif inB 0 2 then (idx [x2'.1, x2'.2] 0).bind fun x3' =>
 (bif inB 1 2 then (idx [x2'.1, x2'.2] 1).bind fun x4' =>
 ((bif (decide ((if x4' < x3' then x4' else x3') < 0) == false) then (bif inB 0 2 then (idx [x2'.1, x2'.2] 0).bind fun x5' =>
 (bif inB 1 2 then (idx [x2'.1, x2'.2] 1).bind fun x6' =>
 some (decide ((if x6' > x5' then x6' else x5') ≥ b1_0))
 else none)
 else none)
 else some true)).bind fun b7' =>
 (bif b7' then some 2
 else (bif inB 0 2 then (idx [x2'.1, x2'.2] 0).bind fun x8' =>
 (bif inB 1 2 then (idx [x2'.1, x2'.2] 1).bind fun x9' =>
 (bif (x8' == x9') then some 5
 else (bif bounds none (some v22) none b1_1.length then (D90 n (b1_1.take (Int.toNat v22)) x2').bind fun r10' =>
 (bif r10' then some 6
 else f1 v20 v21 (wr .i64 (v22 + 1)) b1_0 b1_1)
 else none))
 else none)
 else none))
 else none)
 else none)
 else some 0)
noncomputable def DL66_1 (n : Nat × Nat) (m : Nat) : (List (Int × Int)) → Int → Int → Int → (List (Int × Int)) → Option R66 := Nat.rec (motive := fun _ => (List (Int × Int)) → Int → Int → Int → (List (Int × Int)) → Option R66) (fun _ _ _ _ _ => none) (fun _ ih => DF66_1 n ih) m
theorem DL66_1_succ (n : Nat × Nat) (m : Nat) : DL66_1 n (m + 1) = DF66_1 n (DL66_1 n m) := rfl
theorem DL66_1_eq (n : Nat × Nat) (hn : n.2 = 1) : ∀ m, L66_1 n m = DL66_1 n m
  | 0 => by funext v20 v21 v22 b1_0 b1_1; kernel_rfl
  | m + 1 => by
    have ih := DL66_1_eq n hn m
    funext v20 v21 v22 b1_0 b1_1; refine (L66_1_eq n m v20 v21 v22 b1_0 b1_1).trans ?_
    rw [DL66_1_succ]
    unfold DF66_1
    (try simp only [ih, S90_D n hn]) <;> first | with_reducible rfl | rfl
noncomputable def D66 (n : Nat × Nat) (b0 : Int × List (Int × Int)) : Option R66 :=
 ((bif (decide (b0.1 < 1) == false) then some (decide (b0.1 > 7))
 else some true)).bind fun b1' =>
 (bif b1' then some 1
 else (bif decide ((b0.2.length : Int) > 16) then some 3
 else DL66_1 n n.1 b0.2 (b0.2.length : Int) 0 b0.1 b0.2))
theorem S66_D (n : Nat × Nat) (hn : n.2 = 1) : S66 n = D66 n := by
  funext b0; refine (S66_eq n b0).trans ?_
  unfold D66
  (try simp only [DL66_1_eq n hn, S90_D n hn]) <;> first | with_reducible rfl | rfl
/-D 33 -/
noncomputable def DF33_1 (n : Nat × Nat) (f1 : (List (Int × Int)) → Int → Int → Int → Int → Int → Int → Int → Int → Int → Int → Int → Int → Int → Int → Int → Int → Int → Int → Option R33) (v18 : List (Int × Int)) (v19 : Int) (v20 : Int) (v2_0 : Int) (v2_1 : Int) (v2_2 : Int) (v2_3 : Int) (v2_4 : Int) (v2_5 : Int) (v2_6 : Int) (v2_7 : Int) (w4_0 : Int) (w4_1 : Int) (w4_2 : Int) (w4_3 : Int) (w4_4 : Int) (w4_5 : Int) (w4_6 : Int) (w4_7 : Int) : Option R33 :=
 (bif decide (v20 < v19) then (idx v18 v20).bind fun x2' =>
 (bif inB 0 2 then (idx [x2'.1, x2'.2] 0).bind fun x3' =>
 (bif inB x3' 7 then (idx [w4_1, w4_2, w4_3, w4_4, w4_5, w4_6, w4_7] x3').bind fun x4' =>
 (bif inB 1 2 then (idx [x2'.1, x2'.2] 1).bind fun x5' =>
 (bif decide (x5' < 0) then none
 else (bif inB x3' 7 then f1 v18 v19 (wr .i64 (v20 + 1)) v2_0 v2_1 v2_2 v2_3 v2_4 v2_5 v2_6 v2_7 w4_0 (bif (x3' == 0) then wr .u64 (BitVec.ofInt (IntKind.bits .u64) x4' ||| BitVec.ofInt (IntKind.bits .u64) (wr .u64 (1 * 2 ^ (min (Int.toNat x5') (IntKind.bits .u64))))).toNat else w4_1) (bif (x3' == 1) then wr .u64 (BitVec.ofInt (IntKind.bits .u64) x4' ||| BitVec.ofInt (IntKind.bits .u64) (wr .u64 (1 * 2 ^ (min (Int.toNat x5') (IntKind.bits .u64))))).toNat else w4_2) (bif (x3' == 2) then wr .u64 (BitVec.ofInt (IntKind.bits .u64) x4' ||| BitVec.ofInt (IntKind.bits .u64) (wr .u64 (1 * 2 ^ (min (Int.toNat x5') (IntKind.bits .u64))))).toNat else w4_3) (bif (x3' == 3) then wr .u64 (BitVec.ofInt (IntKind.bits .u64) x4' ||| BitVec.ofInt (IntKind.bits .u64) (wr .u64 (1 * 2 ^ (min (Int.toNat x5') (IntKind.bits .u64))))).toNat else w4_4) (bif (x3' == 4) then wr .u64 (BitVec.ofInt (IntKind.bits .u64) x4' ||| BitVec.ofInt (IntKind.bits .u64) (wr .u64 (1 * 2 ^ (min (Int.toNat x5') (IntKind.bits .u64))))).toNat else w4_5) (bif (x3' == 5) then wr .u64 (BitVec.ofInt (IntKind.bits .u64) x4' ||| BitVec.ofInt (IntKind.bits .u64) (wr .u64 (1 * 2 ^ (min (Int.toNat x5') (IntKind.bits .u64))))).toNat else w4_6) (bif (x3' == 6) then wr .u64 (BitVec.ofInt (IntKind.bits .u64) x4' ||| BitVec.ofInt (IntKind.bits .u64) (wr .u64 (1 * 2 ^ (min (Int.toNat x5') (IntKind.bits .u64))))).toNat else w4_7)
 else none))
 else none)
 else none)
 else none)
 else some ((w4_0, w4_1, w4_2, w4_3, w4_4, w4_5, w4_6, w4_7), 0))
noncomputable def DL33_1 (n : Nat × Nat) (m : Nat) : (List (Int × Int)) → Int → Int → Int → Int → Int → Int → Int → Int → Int → Int → Int → Int → Int → Int → Int → Int → Int → Int → Option R33 := Nat.rec (motive := fun _ => (List (Int × Int)) → Int → Int → Int → Int → Int → Int → Int → Int → Int → Int → Int → Int → Int → Int → Int → Int → Int → Int → Option R33) (fun _ _ _ _ _ _ _ _ _ _ _ _ _ _ _ _ _ _ _ => none) (fun _ ih => DF33_1 n ih) m
theorem DL33_1_succ (n : Nat × Nat) (m : Nat) : DL33_1 n (m + 1) = DF33_1 n (DL33_1 n m) := rfl
theorem DL33_1_eq (n : Nat × Nat) (hn : n.2 = 1) : ∀ m, L33_1 n m = DL33_1 n m
  | 0 => by funext v18 v19 v20 v2_0 v2_1 v2_2 v2_3 v2_4 v2_5 v2_6 v2_7 w4_0 w4_1 w4_2 w4_3 w4_4 w4_5 w4_6 w4_7; kernel_rfl
  | m + 1 => by
    have ih := DL33_1_eq n hn m
    funext v18 v19 v20 v2_0 v2_1 v2_2 v2_3 v2_4 v2_5 v2_6 v2_7 w4_0 w4_1 w4_2 w4_3 w4_4 w4_5 w4_6 w4_7; refine (L33_1_eq n m v18 v19 v20 v2_0 v2_1 v2_2 v2_3 v2_4 v2_5 v2_6 v2_7 w4_0 w4_1 w4_2 w4_3 w4_4 w4_5 w4_6 w4_7).trans ?_
    rw [DL33_1_succ]
    unfold DF33_1
    (try simp only [ih, S66_D n hn]) <;> first | with_reducible rfl | rfl
noncomputable def D33 (n : Nat × Nat) (b0 : Int × List (Int × Int)) : Option R33 :=
 (D66 n b0).bind fun r1' =>
 (bif (r1' != 0) then some ((b0.1, 0, 0, 0, 0, 0, 0, 0), r1')
 else DL33_1 n n.1 b0.2 (b0.2.length : Int) 0 0 0 0 0 0 0 0 0 b0.1 0 0 0 0 0 0 0)
theorem S33_D (n : Nat × Nat) (hn : n.2 = 1) : S33 n = D33 n := by
  funext b0; refine (S33_eq n b0).trans ?_
  unfold D33
  (try simp only [DL33_1_eq n hn, S66_D n hn]) <;> first | with_reducible rfl | rfl
/-D 34 -/
noncomputable def DL34_2 (n : Nat × Nat) (f1 : Int → Bool → List Int → Int → Int → Option R34) (choice1 : Int) (v5 : Bool) (v12 : List Int) (v13 : Int) (v14 : Int) : Option R34 :=
    f1 choice1 v5 v12 v13 (wr .i64 (v14 + 1))
theorem DL34_2_eq (n : Nat × Nat) (hn : n.2 = 1) (m1 : Nat) : L34_2 n m1 = DL34_2 n (L34_1 n m1) := by
  funext choice1 v5 v12 v13 v14; refine ((held_eq hn _).trans (L34_2_raw n m1 choice1 v5 v12 v13 v14)).trans ?_
  unfold DL34_2
  first | with_reducible rfl | rfl
noncomputable def DF34_1 (n : Nat × Nat) (f1 : Int → Bool → List Int → Int → Int → Option R34) (choice1 : Int) (v5 : Bool) (v12 : List Int) (v13 : Int) (v14 : Int) : Option R34 :=
 (bif decide (v14 < v13) then (idx v12 v14).bind fun x1' =>
 (bif decide (v14 < 0) then none
 else ((bif (((wr .u64 (BitVec.ofInt (IntKind.bits .u64) (Int.fdiv choice1 (2 ^ (min (Int.toNat v14) (IntKind.bits .u64)))) &&& BitVec.ofInt (IntKind.bits .u64) 1).toNat) == 1) == true) then some ((wr .u64 (BitVec.ofInt (IntKind.bits .u64) x1' &&& BitVec.ofInt (IntKind.bits .u64) choice1).toNat) != 0)
 else some false)).bind fun b2' =>
 (bif b2' then some 13
 else ((bif ((!((wr .u64 (BitVec.ofInt (IntKind.bits .u64) (Int.fdiv choice1 (2 ^ (min (Int.toNat v14) (IntKind.bits .u64)))) &&& BitVec.ofInt (IntKind.bits .u64) 1).toNat) == 1)) == true) then some ((wr .u64 (BitVec.ofInt (IntKind.bits .u64) x1' &&& BitVec.ofInt (IntKind.bits .u64) choice1).toNat) == 0)
 else some false)).bind fun b3' =>
 (bif b3' then DL34_2 n f1 choice1 true v12 v13 v14
 else DL34_2 n f1 choice1 v5 v12 v13 v14)))
 else (bif v5 then some 21
 else some 0))
noncomputable def DL34_1 (n : Nat × Nat) (m : Nat) : Int → Bool → List Int → Int → Int → Option R34 := Nat.rec (motive := fun _ => Int → Bool → List Int → Int → Int → Option R34) (fun _ _ _ _ _ => none) (fun _ ih => DF34_1 n ih) m
theorem DL34_1_succ (n : Nat × Nat) (m : Nat) : DL34_1 n (m + 1) = DF34_1 n (DL34_1 n m) := rfl
theorem DL34_1_eq (n : Nat × Nat) (hn : n.2 = 1) : ∀ m, L34_1 n m = DL34_1 n m
  | 0 => by funext choice1 v5 v12 v13 v14; kernel_rfl
  | m + 1 => by
    have ih := DL34_1_eq n hn m
    funext choice1 v5 v12 v13 v14; refine (L34_1_eq n m choice1 v5 v12 v13 v14).trans ?_
    rw [DL34_1_succ]
    unfold DF34_1
    (try simp only [ih, DL34_2_eq n hn]) <;> first | with_reducible rfl | rfl
noncomputable def D34 (n : Nat × Nat) (w0 : Int × Int × Int × Int × Int × Int × Int × Int) (choice1 : Int) : Option R34 :=
 (bif bounds none (some w0.1) none 7 then DL34_1 n n.1 choice1 false ([w0.2.1, w0.2.2.1, w0.2.2.2.1, w0.2.2.2.2.1, w0.2.2.2.2.2.1, w0.2.2.2.2.2.2.1, w0.2.2.2.2.2.2.2].take (Int.toNat w0.1)) (([w0.2.1, w0.2.2.1, w0.2.2.2.1, w0.2.2.2.2.1, w0.2.2.2.2.2.1, w0.2.2.2.2.2.2.1, w0.2.2.2.2.2.2.2].take (Int.toNat w0.1)).length : Int) 0
 else none)
theorem S34_D (n : Nat × Nat) (hn : n.2 = 1) : S34 n = D34 n := by
  funext w0 choice1; refine (S34_eq n w0 choice1).trans ?_
  unfold D34
  (try simp only [DL34_2_eq n hn, DL34_1_eq n hn]) <;> first | with_reducible rfl | rfl
/-D 35 -/
noncomputable def DF35_1 (n : Nat × Nat) (f1 : Int → List Int → Option R35) (v0 : Int) (out3 : List Int) : Option R35 :=
 (bif (v0 != 0) then (D41 n v0).bind fun r1' =>
 (bif decide (out3.length + [r1'].length ≤ lim) then f1 (wr .u64 (BitVec.ofInt (IntKind.bits .u64) v0 &&& BitVec.ofInt (IntKind.bits .u64) (wr .u64 (v0 - 1))).toNat) (out3 ++ [r1'])
 else none)
 else some out3)
noncomputable def DL35_1 (n : Nat × Nat) (m : Nat) : Int → List Int → Option R35 := Nat.rec (motive := fun _ => Int → List Int → Option R35) (fun _ _ => none) (fun _ ih => DF35_1 n ih) m
theorem DL35_1_succ (n : Nat × Nat) (m : Nat) : DL35_1 n (m + 1) = DF35_1 n (DL35_1 n m) := rfl
theorem DL35_1_eq (n : Nat × Nat) (hn : n.2 = 1) : ∀ m, L35_1 n m = DL35_1 n m
  | 0 => by funext v0 out3; kernel_rfl
  | m + 1 => by
    have ih := DL35_1_eq n hn m
    funext v0 out3; refine (L35_1_eq n m v0 out3).trans ?_
    rw [DL35_1_succ]
    unfold DF35_1
    (try simp only [ih, S41_D n hn]) <;> first | with_reducible rfl | rfl
noncomputable def D35 (n : Nat × Nat) (v0 : Int) : Option R35 :=
    DL35_1 n n.1 v0 []
theorem S35_D (n : Nat × Nat) (hn : n.2 = 1) : S35 n = D35 n := by
  funext v0; refine (S35_eq n v0).trans ?_
  unfold D35
  (try simp only [DL35_1_eq n hn, S41_D n hn]) <;> first | with_reducible rfl | rfl
/-D 100 -/
noncomputable def D100 (n : Nat × Nat) (x0 : Int) : Option R100 :=
 (bif decide (x0 ≥ 4294967296) then (bif decide (32 < 0) then none
 else (bif decide (Int.fdiv x0 (2 ^ (min (Int.toNat 32) (IntKind.bits .u64))) ≥ 65536) then (bif decide (16 < 0) then none
 else (bif decide (Int.fdiv (Int.fdiv x0 (2 ^ (min (Int.toNat 32) (IntKind.bits .u64)))) (2 ^ (min (Int.toNat 16) (IntKind.bits .u64))) ≥ 256) then (bif decide (8 < 0) then none
 else (idx (strBytes (⟨#[0, 1, 2, 2, 3, 3, 3, 3, 4, 4, 4, 4, 4, 4, 4, 4, 5, 5, 5, 5, 5, 5, 5, 5, 5, 5, 5, 5, 5, 5, 5, 5, 6, 6, 6, 6, 6, 6, 6, 6, 6, 6, 6, 6, 6, 6, 6, 6, 6, 6, 6, 6, 6, 6, 6, 6, 6, 6, 6, 6, 6, 6, 6, 6, 7, 7, 7, 7, 7, 7, 7, 7, 7, 7, 7, 7, 7, 7, 7, 7, 7, 7, 7, 7, 7, 7, 7, 7, 7, 7, 7, 7, 7, 7, 7, 7, 7, 7, 7, 7, 7, 7, 7, 7, 7, 7, 7, 7, 7, 7, 7, 7, 7, 7, 7, 7, 7, 7, 7, 7, 7, 7, 7, 7, 7, 7, 7, 7, 8, 8, 8, 8, 8, 8, 8, 8, 8, 8, 8, 8, 8, 8, 8, 8, 8, 8, 8, 8, 8, 8, 8, 8, 8, 8, 8, 8, 8, 8, 8, 8, 8, 8, 8, 8, 8, 8, 8, 8, 8, 8, 8, 8, 8, 8, 8, 8, 8, 8, 8, 8, 8, 8, 8, 8, 8, 8, 8, 8, 8, 8, 8, 8, 8, 8, 8, 8, 8, 8, 8, 8, 8, 8, 8, 8, 8, 8, 8, 8, 8, 8, 8, 8, 8, 8, 8, 8, 8, 8, 8, 8, 8, 8, 8, 8, 8, 8, 8, 8, 8, 8, 8, 8, 8, 8, 8, 8, 8, 8, 8, 8, 8, 8, 8, 8, 8, 8, 8, 8, 8, 8, 8, 8, 8, 8, 8, 8]⟩ : ByteArray)) (wr .u8 (Int.fdiv (Int.fdiv (Int.fdiv x0 (2 ^ (min (Int.toNat 32) (IntKind.bits .u64)))) (2 ^ (min (Int.toNat 16) (IntKind.bits .u64)))) (2 ^ (min (Int.toNat 8) (IntKind.bits .u64)))))).bind fun x1' =>
 some (wr .i64 ((wr .i64 ((wr .i64 (32 + 16)) + 8)) + (wr .i64 x1'))))
 else (idx (strBytes (⟨#[0, 1, 2, 2, 3, 3, 3, 3, 4, 4, 4, 4, 4, 4, 4, 4, 5, 5, 5, 5, 5, 5, 5, 5, 5, 5, 5, 5, 5, 5, 5, 5, 6, 6, 6, 6, 6, 6, 6, 6, 6, 6, 6, 6, 6, 6, 6, 6, 6, 6, 6, 6, 6, 6, 6, 6, 6, 6, 6, 6, 6, 6, 6, 6, 7, 7, 7, 7, 7, 7, 7, 7, 7, 7, 7, 7, 7, 7, 7, 7, 7, 7, 7, 7, 7, 7, 7, 7, 7, 7, 7, 7, 7, 7, 7, 7, 7, 7, 7, 7, 7, 7, 7, 7, 7, 7, 7, 7, 7, 7, 7, 7, 7, 7, 7, 7, 7, 7, 7, 7, 7, 7, 7, 7, 7, 7, 7, 7, 8, 8, 8, 8, 8, 8, 8, 8, 8, 8, 8, 8, 8, 8, 8, 8, 8, 8, 8, 8, 8, 8, 8, 8, 8, 8, 8, 8, 8, 8, 8, 8, 8, 8, 8, 8, 8, 8, 8, 8, 8, 8, 8, 8, 8, 8, 8, 8, 8, 8, 8, 8, 8, 8, 8, 8, 8, 8, 8, 8, 8, 8, 8, 8, 8, 8, 8, 8, 8, 8, 8, 8, 8, 8, 8, 8, 8, 8, 8, 8, 8, 8, 8, 8, 8, 8, 8, 8, 8, 8, 8, 8, 8, 8, 8, 8, 8, 8, 8, 8, 8, 8, 8, 8, 8, 8, 8, 8, 8, 8, 8, 8, 8, 8, 8, 8, 8, 8, 8, 8, 8, 8, 8, 8, 8, 8, 8, 8]⟩ : ByteArray)) (wr .u8 (Int.fdiv (Int.fdiv x0 (2 ^ (min (Int.toNat 32) (IntKind.bits .u64)))) (2 ^ (min (Int.toNat 16) (IntKind.bits .u64)))))).bind fun x2' =>
 some (wr .i64 ((wr .i64 (32 + 16)) + (wr .i64 x2')))))
 else (bif decide (Int.fdiv x0 (2 ^ (min (Int.toNat 32) (IntKind.bits .u64))) ≥ 256) then (bif decide (8 < 0) then none
 else (idx (strBytes (⟨#[0, 1, 2, 2, 3, 3, 3, 3, 4, 4, 4, 4, 4, 4, 4, 4, 5, 5, 5, 5, 5, 5, 5, 5, 5, 5, 5, 5, 5, 5, 5, 5, 6, 6, 6, 6, 6, 6, 6, 6, 6, 6, 6, 6, 6, 6, 6, 6, 6, 6, 6, 6, 6, 6, 6, 6, 6, 6, 6, 6, 6, 6, 6, 6, 7, 7, 7, 7, 7, 7, 7, 7, 7, 7, 7, 7, 7, 7, 7, 7, 7, 7, 7, 7, 7, 7, 7, 7, 7, 7, 7, 7, 7, 7, 7, 7, 7, 7, 7, 7, 7, 7, 7, 7, 7, 7, 7, 7, 7, 7, 7, 7, 7, 7, 7, 7, 7, 7, 7, 7, 7, 7, 7, 7, 7, 7, 7, 7, 8, 8, 8, 8, 8, 8, 8, 8, 8, 8, 8, 8, 8, 8, 8, 8, 8, 8, 8, 8, 8, 8, 8, 8, 8, 8, 8, 8, 8, 8, 8, 8, 8, 8, 8, 8, 8, 8, 8, 8, 8, 8, 8, 8, 8, 8, 8, 8, 8, 8, 8, 8, 8, 8, 8, 8, 8, 8, 8, 8, 8, 8, 8, 8, 8, 8, 8, 8, 8, 8, 8, 8, 8, 8, 8, 8, 8, 8, 8, 8, 8, 8, 8, 8, 8, 8, 8, 8, 8, 8, 8, 8, 8, 8, 8, 8, 8, 8, 8, 8, 8, 8, 8, 8, 8, 8, 8, 8, 8, 8, 8, 8, 8, 8, 8, 8, 8, 8, 8, 8, 8, 8, 8, 8, 8, 8, 8, 8]⟩ : ByteArray)) (wr .u8 (Int.fdiv (Int.fdiv x0 (2 ^ (min (Int.toNat 32) (IntKind.bits .u64)))) (2 ^ (min (Int.toNat 8) (IntKind.bits .u64)))))).bind fun x3' =>
 some (wr .i64 ((wr .i64 (32 + 8)) + (wr .i64 x3'))))
 else (idx (strBytes (⟨#[0, 1, 2, 2, 3, 3, 3, 3, 4, 4, 4, 4, 4, 4, 4, 4, 5, 5, 5, 5, 5, 5, 5, 5, 5, 5, 5, 5, 5, 5, 5, 5, 6, 6, 6, 6, 6, 6, 6, 6, 6, 6, 6, 6, 6, 6, 6, 6, 6, 6, 6, 6, 6, 6, 6, 6, 6, 6, 6, 6, 6, 6, 6, 6, 7, 7, 7, 7, 7, 7, 7, 7, 7, 7, 7, 7, 7, 7, 7, 7, 7, 7, 7, 7, 7, 7, 7, 7, 7, 7, 7, 7, 7, 7, 7, 7, 7, 7, 7, 7, 7, 7, 7, 7, 7, 7, 7, 7, 7, 7, 7, 7, 7, 7, 7, 7, 7, 7, 7, 7, 7, 7, 7, 7, 7, 7, 7, 7, 8, 8, 8, 8, 8, 8, 8, 8, 8, 8, 8, 8, 8, 8, 8, 8, 8, 8, 8, 8, 8, 8, 8, 8, 8, 8, 8, 8, 8, 8, 8, 8, 8, 8, 8, 8, 8, 8, 8, 8, 8, 8, 8, 8, 8, 8, 8, 8, 8, 8, 8, 8, 8, 8, 8, 8, 8, 8, 8, 8, 8, 8, 8, 8, 8, 8, 8, 8, 8, 8, 8, 8, 8, 8, 8, 8, 8, 8, 8, 8, 8, 8, 8, 8, 8, 8, 8, 8, 8, 8, 8, 8, 8, 8, 8, 8, 8, 8, 8, 8, 8, 8, 8, 8, 8, 8, 8, 8, 8, 8, 8, 8, 8, 8, 8, 8, 8, 8, 8, 8, 8, 8, 8, 8, 8, 8, 8, 8]⟩ : ByteArray)) (wr .u8 (Int.fdiv x0 (2 ^ (min (Int.toNat 32) (IntKind.bits .u64)))))).bind fun x4' =>
 some (wr .i64 (32 + (wr .i64 x4'))))))
 else (bif decide (x0 ≥ 65536) then (bif decide (16 < 0) then none
 else (bif decide (Int.fdiv x0 (2 ^ (min (Int.toNat 16) (IntKind.bits .u64))) ≥ 256) then (bif decide (8 < 0) then none
 else (idx (strBytes (⟨#[0, 1, 2, 2, 3, 3, 3, 3, 4, 4, 4, 4, 4, 4, 4, 4, 5, 5, 5, 5, 5, 5, 5, 5, 5, 5, 5, 5, 5, 5, 5, 5, 6, 6, 6, 6, 6, 6, 6, 6, 6, 6, 6, 6, 6, 6, 6, 6, 6, 6, 6, 6, 6, 6, 6, 6, 6, 6, 6, 6, 6, 6, 6, 6, 7, 7, 7, 7, 7, 7, 7, 7, 7, 7, 7, 7, 7, 7, 7, 7, 7, 7, 7, 7, 7, 7, 7, 7, 7, 7, 7, 7, 7, 7, 7, 7, 7, 7, 7, 7, 7, 7, 7, 7, 7, 7, 7, 7, 7, 7, 7, 7, 7, 7, 7, 7, 7, 7, 7, 7, 7, 7, 7, 7, 7, 7, 7, 7, 8, 8, 8, 8, 8, 8, 8, 8, 8, 8, 8, 8, 8, 8, 8, 8, 8, 8, 8, 8, 8, 8, 8, 8, 8, 8, 8, 8, 8, 8, 8, 8, 8, 8, 8, 8, 8, 8, 8, 8, 8, 8, 8, 8, 8, 8, 8, 8, 8, 8, 8, 8, 8, 8, 8, 8, 8, 8, 8, 8, 8, 8, 8, 8, 8, 8, 8, 8, 8, 8, 8, 8, 8, 8, 8, 8, 8, 8, 8, 8, 8, 8, 8, 8, 8, 8, 8, 8, 8, 8, 8, 8, 8, 8, 8, 8, 8, 8, 8, 8, 8, 8, 8, 8, 8, 8, 8, 8, 8, 8, 8, 8, 8, 8, 8, 8, 8, 8, 8, 8, 8, 8, 8, 8, 8, 8, 8, 8]⟩ : ByteArray)) (wr .u8 (Int.fdiv (Int.fdiv x0 (2 ^ (min (Int.toNat 16) (IntKind.bits .u64)))) (2 ^ (min (Int.toNat 8) (IntKind.bits .u64)))))).bind fun x5' =>
 some (wr .i64 ((wr .i64 ((wr .i64 (0 + 16)) + 8)) + (wr .i64 x5'))))
 else (idx (strBytes (⟨#[0, 1, 2, 2, 3, 3, 3, 3, 4, 4, 4, 4, 4, 4, 4, 4, 5, 5, 5, 5, 5, 5, 5, 5, 5, 5, 5, 5, 5, 5, 5, 5, 6, 6, 6, 6, 6, 6, 6, 6, 6, 6, 6, 6, 6, 6, 6, 6, 6, 6, 6, 6, 6, 6, 6, 6, 6, 6, 6, 6, 6, 6, 6, 6, 7, 7, 7, 7, 7, 7, 7, 7, 7, 7, 7, 7, 7, 7, 7, 7, 7, 7, 7, 7, 7, 7, 7, 7, 7, 7, 7, 7, 7, 7, 7, 7, 7, 7, 7, 7, 7, 7, 7, 7, 7, 7, 7, 7, 7, 7, 7, 7, 7, 7, 7, 7, 7, 7, 7, 7, 7, 7, 7, 7, 7, 7, 7, 7, 8, 8, 8, 8, 8, 8, 8, 8, 8, 8, 8, 8, 8, 8, 8, 8, 8, 8, 8, 8, 8, 8, 8, 8, 8, 8, 8, 8, 8, 8, 8, 8, 8, 8, 8, 8, 8, 8, 8, 8, 8, 8, 8, 8, 8, 8, 8, 8, 8, 8, 8, 8, 8, 8, 8, 8, 8, 8, 8, 8, 8, 8, 8, 8, 8, 8, 8, 8, 8, 8, 8, 8, 8, 8, 8, 8, 8, 8, 8, 8, 8, 8, 8, 8, 8, 8, 8, 8, 8, 8, 8, 8, 8, 8, 8, 8, 8, 8, 8, 8, 8, 8, 8, 8, 8, 8, 8, 8, 8, 8, 8, 8, 8, 8, 8, 8, 8, 8, 8, 8, 8, 8, 8, 8, 8, 8, 8, 8]⟩ : ByteArray)) (wr .u8 (Int.fdiv x0 (2 ^ (min (Int.toNat 16) (IntKind.bits .u64)))))).bind fun x6' =>
 some (wr .i64 ((wr .i64 (0 + 16)) + (wr .i64 x6')))))
 else (bif decide (x0 ≥ 256) then (bif decide (8 < 0) then none
 else (idx (strBytes (⟨#[0, 1, 2, 2, 3, 3, 3, 3, 4, 4, 4, 4, 4, 4, 4, 4, 5, 5, 5, 5, 5, 5, 5, 5, 5, 5, 5, 5, 5, 5, 5, 5, 6, 6, 6, 6, 6, 6, 6, 6, 6, 6, 6, 6, 6, 6, 6, 6, 6, 6, 6, 6, 6, 6, 6, 6, 6, 6, 6, 6, 6, 6, 6, 6, 7, 7, 7, 7, 7, 7, 7, 7, 7, 7, 7, 7, 7, 7, 7, 7, 7, 7, 7, 7, 7, 7, 7, 7, 7, 7, 7, 7, 7, 7, 7, 7, 7, 7, 7, 7, 7, 7, 7, 7, 7, 7, 7, 7, 7, 7, 7, 7, 7, 7, 7, 7, 7, 7, 7, 7, 7, 7, 7, 7, 7, 7, 7, 7, 8, 8, 8, 8, 8, 8, 8, 8, 8, 8, 8, 8, 8, 8, 8, 8, 8, 8, 8, 8, 8, 8, 8, 8, 8, 8, 8, 8, 8, 8, 8, 8, 8, 8, 8, 8, 8, 8, 8, 8, 8, 8, 8, 8, 8, 8, 8, 8, 8, 8, 8, 8, 8, 8, 8, 8, 8, 8, 8, 8, 8, 8, 8, 8, 8, 8, 8, 8, 8, 8, 8, 8, 8, 8, 8, 8, 8, 8, 8, 8, 8, 8, 8, 8, 8, 8, 8, 8, 8, 8, 8, 8, 8, 8, 8, 8, 8, 8, 8, 8, 8, 8, 8, 8, 8, 8, 8, 8, 8, 8, 8, 8, 8, 8, 8, 8, 8, 8, 8, 8, 8, 8, 8, 8, 8, 8, 8, 8]⟩ : ByteArray)) (wr .u8 (Int.fdiv x0 (2 ^ (min (Int.toNat 8) (IntKind.bits .u64)))))).bind fun x7' =>
 some (wr .i64 ((wr .i64 (0 + 8)) + (wr .i64 x7'))))
 else (idx (strBytes (⟨#[0, 1, 2, 2, 3, 3, 3, 3, 4, 4, 4, 4, 4, 4, 4, 4, 5, 5, 5, 5, 5, 5, 5, 5, 5, 5, 5, 5, 5, 5, 5, 5, 6, 6, 6, 6, 6, 6, 6, 6, 6, 6, 6, 6, 6, 6, 6, 6, 6, 6, 6, 6, 6, 6, 6, 6, 6, 6, 6, 6, 6, 6, 6, 6, 7, 7, 7, 7, 7, 7, 7, 7, 7, 7, 7, 7, 7, 7, 7, 7, 7, 7, 7, 7, 7, 7, 7, 7, 7, 7, 7, 7, 7, 7, 7, 7, 7, 7, 7, 7, 7, 7, 7, 7, 7, 7, 7, 7, 7, 7, 7, 7, 7, 7, 7, 7, 7, 7, 7, 7, 7, 7, 7, 7, 7, 7, 7, 7, 8, 8, 8, 8, 8, 8, 8, 8, 8, 8, 8, 8, 8, 8, 8, 8, 8, 8, 8, 8, 8, 8, 8, 8, 8, 8, 8, 8, 8, 8, 8, 8, 8, 8, 8, 8, 8, 8, 8, 8, 8, 8, 8, 8, 8, 8, 8, 8, 8, 8, 8, 8, 8, 8, 8, 8, 8, 8, 8, 8, 8, 8, 8, 8, 8, 8, 8, 8, 8, 8, 8, 8, 8, 8, 8, 8, 8, 8, 8, 8, 8, 8, 8, 8, 8, 8, 8, 8, 8, 8, 8, 8, 8, 8, 8, 8, 8, 8, 8, 8, 8, 8, 8, 8, 8, 8, 8, 8, 8, 8, 8, 8, 8, 8, 8, 8, 8, 8, 8, 8, 8, 8, 8, 8, 8, 8, 8, 8]⟩ : ByteArray)) (wr .u8 x0)).bind fun x8' =>
 some (wr .i64 (0 + (wr .i64 x8'))))))
theorem S100_D (n : Nat × Nat) (hn : n.2 = 1) : S100 n = D100 n := by
  funext x0; refine (S100_eq n x0).trans ?_
  unfold D100
  first | with_reducible rfl | rfl
/-D 68 -/
noncomputable def D68 (n : Nat × Nat) (x0 : Int) : Option R68 :=
 (D100 n x0).bind fun r1' =>
 some r1'
theorem S68_D (n : Nat × Nat) (hn : n.2 = 1) : S68 n = D68 n := by
  funext x0; refine (S68_eq n x0).trans ?_
  unfold D68
  (try simp only [S100_D n hn]) <;> first | with_reducible rfl | rfl
/-D 91c37 -/
noncomputable def DF91c37_2 (n : Nat × Nat) (f1 : List (List Int) → Int → Int → Int → Option R91c37) (f2 : List (List Int) → Int → Int → Int → Int → Option R91c37) (data0 : List (List Int)) (a1 : Int) (b2 : Int) (i8 : Int) (j9 : Int) : Option R91c37 :=
 ((bif (decide (j9 > a1) == true) then (idx data0 j9).bind fun x1' =>
 (idx data0 (wr .i64 (j9 - 1))).bind fun x2' =>
 (D37 n x1' x2').bind fun r3' =>
 some (decide (r3' < 0))
 else some false)).bind fun b4' =>
 (bif b4' then none
 else f1 data0 a1 b2 (wr .i64 (i8 + 1)))
noncomputable def DL91c37_2 (n : Nat × Nat) (f1 : List (List Int) → Int → Int → Int → Option R91c37) (m : Nat) : List (List Int) → Int → Int → Int → Int → Option R91c37 := Nat.rec (motive := fun _ => List (List Int) → Int → Int → Int → Int → Option R91c37) (fun _ _ _ _ _ => none) (fun _ ih => DF91c37_2 n f1 ih) m
theorem DL91c37_2_succ (n : Nat × Nat) (f1 : List (List Int) → Int → Int → Int → Option R91c37) (m : Nat) : DL91c37_2 n f1 (m + 1) = DF91c37_2 n f1 (DL91c37_2 n f1 m) := rfl
theorem DL91c37_2_eq (n : Nat × Nat) (hn : n.2 = 1) (m1 : Nat) : ∀ m, L91c37_2 n m1 m = DL91c37_2 n (L91c37_1 n m1) m
  | 0 => by funext data0 a1 b2 i8 j9; kernel_rfl
  | m + 1 => by
    have ih := DL91c37_2_eq n hn m1 m
    funext data0 a1 b2 i8 j9; refine (L91c37_2_eq n m1 m data0 a1 b2 i8 j9).trans ?_
    rw [DL91c37_2_succ]
    unfold DF91c37_2
    (try simp only [ih, S37_D n hn]) <;> first | with_reducible rfl | rfl
noncomputable def DF91c37_1 (n : Nat × Nat) (f1 : List (List Int) → Int → Int → Int → Option R91c37) (data0 : List (List Int)) (a1 : Int) (b2 : Int) (i8 : Int) : Option R91c37 :=
 (bif decide (i8 < b2) then DL91c37_2 n f1 n.1 data0 a1 b2 i8 i8
 else some ())
noncomputable def DL91c37_1 (n : Nat × Nat) (m : Nat) : List (List Int) → Int → Int → Int → Option R91c37 := Nat.rec (motive := fun _ => List (List Int) → Int → Int → Int → Option R91c37) (fun _ _ _ _ => none) (fun _ ih => DF91c37_1 n ih) m
theorem DL91c37_1_succ (n : Nat × Nat) (m : Nat) : DL91c37_1 n (m + 1) = DF91c37_1 n (DL91c37_1 n m) := rfl
theorem DL91c37_1_eq (n : Nat × Nat) (hn : n.2 = 1) : ∀ m, L91c37_1 n m = DL91c37_1 n m
  | 0 => by funext data0 a1 b2 i8; kernel_rfl
  | m + 1 => by
    have ih := DL91c37_1_eq n hn m
    funext data0 a1 b2 i8; refine (L91c37_1_eq n m data0 a1 b2 i8).trans ?_
    rw [DL91c37_1_succ]
    unfold DF91c37_1
    (try simp only [ih, DL91c37_2_eq n hn, S37_D n hn]) <;> first | with_reducible rfl | rfl
noncomputable def D91c37 (n : Nat × Nat) (data0 : List (List Int)) (a1 : Int) (b2 : Int) : Option R91c37 :=
    DL91c37_1 n n.1 data0 a1 b2 (wr .i64 (a1 + 1))
theorem S91c37_D (n : Nat × Nat) (hn : n.2 = 1) : S91c37 n = D91c37 n := by
  funext data0 a1 b2; refine (S91c37_eq n data0 a1 b2).trans ?_
  unfold D91c37
  (try simp only [DL91c37_2_eq n hn, DL91c37_1_eq n hn, S37_D n hn]) <;> first | with_reducible rfl | rfl
/-D 118c37 -/
noncomputable def DF118c37_1 (n : Nat × Nat) (f1 : List (List Int) → Int → Int → Int → Option R118c37) (data0 : List (List Int)) (hi2 : Int) (first3 : Int) (root10 : Int) : Option R118c37 :=
 (bif decide (wr .i64 ((wr .i64 (2 * root10)) + 1) ≥ hi2) then some ()
 else ((bif (decide (wr .i64 ((wr .i64 ((wr .i64 (2 * root10)) + 1)) + 1) < hi2) == true) then (idx data0 (wr .i64 (first3 + (wr .i64 ((wr .i64 (2 * root10)) + 1))))).bind fun x1' =>
 (idx data0 (wr .i64 ((wr .i64 (first3 + (wr .i64 ((wr .i64 (2 * root10)) + 1)))) + 1))).bind fun x2' =>
 (D37 n x1' x2').bind fun r3' =>
 some (decide (r3' < 0))
 else some false)).bind fun b4' =>
 (bif b4' then (idx data0 (wr .i64 (first3 + root10))).bind fun x5' =>
 (idx data0 (wr .i64 (first3 + (wr .i64 ((wr .i64 ((wr .i64 (2 * root10)) + 1)) + 1))))).bind fun x6' =>
 (D37 n x5' x6').bind fun r7' =>
 (bif (!(decide (r7' < 0))) then some ()
 else none)
 else (idx data0 (wr .i64 (first3 + root10))).bind fun x8' =>
 (idx data0 (wr .i64 (first3 + (wr .i64 ((wr .i64 (2 * root10)) + 1))))).bind fun x9' =>
 (D37 n x8' x9').bind fun r10' =>
 (bif (!(decide (r10' < 0))) then some ()
 else none)))
noncomputable def DL118c37_1 (n : Nat × Nat) (m : Nat) : List (List Int) → Int → Int → Int → Option R118c37 := Nat.rec (motive := fun _ => List (List Int) → Int → Int → Int → Option R118c37) (fun _ _ _ _ => none) (fun _ ih => DF118c37_1 n ih) m
theorem DL118c37_1_succ (n : Nat × Nat) (m : Nat) : DL118c37_1 n (m + 1) = DF118c37_1 n (DL118c37_1 n m) := rfl
theorem DL118c37_1_eq (n : Nat × Nat) (hn : n.2 = 1) : ∀ m, L118c37_1 n m = DL118c37_1 n m
  | 0 => by funext data0 hi2 first3 root10; kernel_rfl
  | m + 1 => by
    have ih := DL118c37_1_eq n hn m
    funext data0 hi2 first3 root10; refine (L118c37_1_eq n m data0 hi2 first3 root10).trans ?_
    rw [DL118c37_1_succ]
    unfold DF118c37_1
    (try simp only [ih, S37_D n hn]) <;> first | with_reducible rfl | rfl
noncomputable def D118c37 (n : Nat × Nat) (data0 : List (List Int)) (lo1 : Int) (hi2 : Int) (first3 : Int) : Option R118c37 :=
    DL118c37_1 n n.1 data0 hi2 first3 lo1
theorem S118c37_D (n : Nat × Nat) (hn : n.2 = 1) : S118c37 n = D118c37 n := by
  funext data0 lo1 hi2 first3; refine (S118c37_eq n data0 lo1 hi2 first3).trans ?_
  unfold D118c37
  (try simp only [DL118c37_1_eq n hn, S37_D n hn]) <;> first | with_reducible rfl | rfl
/-D 92c37 -/
noncomputable def DF92c37_2 (n : Nat × Nat) (f1 : List (List Int) → Int → Int → Int → Option R92c37) (data0 : List (List Int)) (first8 : Int) (lo9 : Int) (i12 : Int) : Option R92c37 :=
 (bif decide (i12 ≥ 0) then none
 else some ())
noncomputable def DL92c37_2 (n : Nat × Nat) (m : Nat) : List (List Int) → Int → Int → Int → Option R92c37 := Nat.rec (motive := fun _ => List (List Int) → Int → Int → Int → Option R92c37) (fun _ _ _ _ => none) (fun _ ih => DF92c37_2 n ih) m
theorem DL92c37_2_succ (n : Nat × Nat) (m : Nat) : DL92c37_2 n (m + 1) = DF92c37_2 n (DL92c37_2 n m) := rfl
theorem DL92c37_2_eq (n : Nat × Nat) (hn : n.2 = 1) : ∀ m, L92c37_2 n m = DL92c37_2 n m
  | 0 => by funext data0 first8 lo9 i12; kernel_rfl
  | m + 1 => by
    have ih := DL92c37_2_eq n hn m
    funext data0 first8 lo9 i12; refine (L92c37_2_eq n m data0 first8 lo9 i12).trans ?_
    rw [DL92c37_2_succ]
    unfold DF92c37_2
    (try simp only [ih, S118c37_D n hn]) <;> first | with_reducible rfl | rfl
noncomputable def DF92c37_1 (n : Nat × Nat) (f1 : List (List Int) → Int → Int → Int → Int → Option R92c37) (data0 : List (List Int)) (first8 : Int) (lo9 : Int) (hi10 : Int) (i11 : Int) : Option R92c37 :=
 (bif decide (i11 ≥ 0) then (D118c37 n data0 i11 hi10 first8).bind fun r1' =>
      f1 data0 first8 lo9 hi10 (wr .i64 (i11 - 1))
 else DL92c37_2 n n.1 data0 first8 lo9 (wr .i64 (hi10 - 1)))
noncomputable def DL92c37_1 (n : Nat × Nat) (m : Nat) : List (List Int) → Int → Int → Int → Int → Option R92c37 := Nat.rec (motive := fun _ => List (List Int) → Int → Int → Int → Int → Option R92c37) (fun _ _ _ _ _ => none) (fun _ ih => DF92c37_1 n ih) m
theorem DL92c37_1_succ (n : Nat × Nat) (m : Nat) : DL92c37_1 n (m + 1) = DF92c37_1 n (DL92c37_1 n m) := rfl
theorem DL92c37_1_eq (n : Nat × Nat) (hn : n.2 = 1) : ∀ m, L92c37_1 n m = DL92c37_1 n m
  | 0 => by funext data0 first8 lo9 hi10 i11; kernel_rfl
  | m + 1 => by
    have ih := DL92c37_1_eq n hn m
    funext data0 first8 lo9 hi10 i11; refine (L92c37_1_eq n m data0 first8 lo9 hi10 i11).trans ?_
    rw [DL92c37_1_succ]
    unfold DF92c37_1
    (try simp only [ih, DL92c37_2_eq n hn, S118c37_D n hn]) <;> first | with_reducible rfl | rfl
noncomputable def D92c37 (n : Nat × Nat) (data0 : List (List Int)) (a1 : Int) (b2 : Int) : Option R92c37 :=
 (bif 2 == 0 then none
 else DL92c37_1 n n.1 data0 a1 0 (wr .i64 (b2 - a1)) (wr .i64 (Int.tdiv (wr .i64 ((wr .i64 (b2 - a1)) - 1)) 2)))
theorem S92c37_D (n : Nat × Nat) (hn : n.2 = 1) : S92c37 n = D92c37 n := by
  funext data0 a1 b2; refine (S92c37_eq n data0 a1 b2).trans ?_
  unfold D92c37
  (try simp only [DL92c37_2_eq n hn, DL92c37_1_eq n hn, S118c37_D n hn]) <;> first | with_reducible rfl | rfl
/-D 119 -/
noncomputable def D119 (n : Nat × Nat) (length0 : Int) : Option R119 :=
 (D68 n (wr .u64 length0)).bind fun r1' =>
 (bif decide (r1' < 0) then none
 else some (wr .u64 (1 * 2 ^ (min (Int.toNat r1') (IntKind.bits .u64)))))
theorem S119_D (n : Nat × Nat) (hn : n.2 = 1) : S119 n = D119 n := by
  funext length0; refine (S119_eq n length0).trans ?_
  unfold D119
  (try simp only [S68_D n hn]) <;> first | with_reducible rfl | rfl
/-D 120io1 -/
noncomputable def D120io1 (n : Nat × Nat) (r0 : Int) : Option R120io1 :=
 (bif decide (13 < 0) then none
 else (bif decide (7 < 0) then none
 else (bif decide (17 < 0) then none
 else some (wr .u64 (BitVec.ofInt (IntKind.bits .u64) (wr .u64 (BitVec.ofInt (IntKind.bits .u64) (wr .u64 (BitVec.ofInt (IntKind.bits .u64) r0 ^^^ BitVec.ofInt (IntKind.bits .u64) (wr .u64 (r0 * 2 ^ (min (Int.toNat 13) (IntKind.bits .u64))))).toNat) ^^^ BitVec.ofInt (IntKind.bits .u64) (Int.fdiv (wr .u64 (BitVec.ofInt (IntKind.bits .u64) r0 ^^^ BitVec.ofInt (IntKind.bits .u64) (wr .u64 (r0 * 2 ^ (min (Int.toNat 13) (IntKind.bits .u64))))).toNat) (2 ^ (min (Int.toNat 7) (IntKind.bits .u64))))).toNat) ^^^ BitVec.ofInt (IntKind.bits .u64) (wr .u64 ((wr .u64 (BitVec.ofInt (IntKind.bits .u64) (wr .u64 (BitVec.ofInt (IntKind.bits .u64) r0 ^^^ BitVec.ofInt (IntKind.bits .u64) (wr .u64 (r0 * 2 ^ (min (Int.toNat 13) (IntKind.bits .u64))))).toNat) ^^^ BitVec.ofInt (IntKind.bits .u64) (Int.fdiv (wr .u64 (BitVec.ofInt (IntKind.bits .u64) r0 ^^^ BitVec.ofInt (IntKind.bits .u64) (wr .u64 (r0 * 2 ^ (min (Int.toNat 13) (IntKind.bits .u64))))).toNat) (2 ^ (min (Int.toNat 7) (IntKind.bits .u64))))).toNat) * 2 ^ (min (Int.toNat 17) (IntKind.bits .u64))))).toNat, wr .u64 (BitVec.ofInt (IntKind.bits .u64) (wr .u64 (BitVec.ofInt (IntKind.bits .u64) (wr .u64 (BitVec.ofInt (IntKind.bits .u64) r0 ^^^ BitVec.ofInt (IntKind.bits .u64) (wr .u64 (r0 * 2 ^ (min (Int.toNat 13) (IntKind.bits .u64))))).toNat) ^^^ BitVec.ofInt (IntKind.bits .u64) (Int.fdiv (wr .u64 (BitVec.ofInt (IntKind.bits .u64) r0 ^^^ BitVec.ofInt (IntKind.bits .u64) (wr .u64 (r0 * 2 ^ (min (Int.toNat 13) (IntKind.bits .u64))))).toNat) (2 ^ (min (Int.toNat 7) (IntKind.bits .u64))))).toNat) ^^^ BitVec.ofInt (IntKind.bits .u64) (wr .u64 ((wr .u64 (BitVec.ofInt (IntKind.bits .u64) (wr .u64 (BitVec.ofInt (IntKind.bits .u64) r0 ^^^ BitVec.ofInt (IntKind.bits .u64) (wr .u64 (r0 * 2 ^ (min (Int.toNat 13) (IntKind.bits .u64))))).toNat) ^^^ BitVec.ofInt (IntKind.bits .u64) (Int.fdiv (wr .u64 (BitVec.ofInt (IntKind.bits .u64) r0 ^^^ BitVec.ofInt (IntKind.bits .u64) (wr .u64 (r0 * 2 ^ (min (Int.toNat 13) (IntKind.bits .u64))))).toNat) (2 ^ (min (Int.toNat 7) (IntKind.bits .u64))))).toNat) * 2 ^ (min (Int.toNat 17) (IntKind.bits .u64))))).toNat, ()))))
theorem S120io1_D (n : Nat × Nat) (hn : n.2 = 1) : S120io1 n = D120io1 n := by
  funext r0; refine (S120io1_eq n r0).trans ?_
  unfold D120io1
  first | with_reducible rfl | rfl
/-D 93c37 -/
noncomputable def DF93c37_1 (n : Nat × Nat) (f1 : List (List Int) → Int → Int → Int → Int → Int → Option R93c37) (data0 : List (List Int)) (a1 : Int) (length8 : Int) (modulus10 : Int) (v11 : Int) (random9 : Int) : Option R93c37 :=
 (bif 4 == 0 then none
 else (bif decide (v11 ≤ wr .i64 ((wr .i64 (a1 + (wr .i64 ((wr .i64 (Int.tdiv length8 4)) * 2)))) + 1)) then (D120io1 n random9).bind fun r2' =>
 (bif decide (wr .i64 (wr .u64 (BitVec.ofInt (IntKind.bits .u64) r2'.1 &&& BitVec.ofInt (IntKind.bits .u64) (wr .u64 (modulus10 - 1))).toNat) ≥ length8) then none
 else none)
 else some ()))
noncomputable def DL93c37_1 (n : Nat × Nat) (m : Nat) : List (List Int) → Int → Int → Int → Int → Int → Option R93c37 := Nat.rec (motive := fun _ => List (List Int) → Int → Int → Int → Int → Int → Option R93c37) (fun _ _ _ _ _ _ => none) (fun _ ih => DF93c37_1 n ih) m
theorem DL93c37_1_succ (n : Nat × Nat) (m : Nat) : DL93c37_1 n (m + 1) = DF93c37_1 n (DL93c37_1 n m) := rfl
theorem DL93c37_1_eq (n : Nat × Nat) (hn : n.2 = 1) : ∀ m, L93c37_1 n m = DL93c37_1 n m
  | 0 => by funext data0 a1 length8 modulus10 v11 random9; kernel_rfl
  | m + 1 => by
    have ih := DL93c37_1_eq n hn m
    funext data0 a1 length8 modulus10 v11 random9; refine (L93c37_1_eq n m data0 a1 length8 modulus10 v11 random9).trans ?_
    rw [DL93c37_1_succ]
    unfold DF93c37_1
    (try simp only [ih, S119_D n hn, S120io1_D n hn]) <;> first | with_reducible rfl | rfl
noncomputable def D93c37 (n : Nat × Nat) (data0 : List (List Int)) (a1 : Int) (b2 : Int) : Option R93c37 :=
 (bif decide (wr .i64 (b2 - a1) ≥ 8) then (D119 n (wr .i64 (b2 - a1))).bind fun r1' =>
 (bif 4 == 0 then none
 else DL93c37_1 n n.1 data0 a1 (wr .i64 (b2 - a1)) r1' (wr .i64 ((wr .i64 (a1 + (wr .i64 ((wr .i64 (Int.tdiv (wr .i64 (b2 - a1)) 4)) * 2)))) - 1)) (wr .u64 (wr .i64 (b2 - a1))))
 else some ())
theorem S93c37_D (n : Nat × Nat) (hn : n.2 = 1) : S93c37 n = D93c37 n := by
  funext data0 a1 b2; refine (S93c37_eq n data0 a1 b2).trans ?_
  unfold D93c37
  (try simp only [DL93c37_1_eq n hn, S119_D n hn, S120io1_D n hn]) <;> first | with_reducible rfl | rfl
/-D 135c37io00010 -/
noncomputable def D135c37io00010 (n : Nat × Nat) (data0 : List (List Int)) (a1 : Int) (b2 : Int) (swaps3 : Int) : Option R135c37io00010 :=
 (idx data0 b2).bind fun x1' =>
 (idx data0 a1).bind fun x2' =>
 (D37 n x1' x2').bind fun r3' =>
 (bif decide (r3' < 0) then some ((b2, a1), wr .i64 (swaps3 + 1), ())
 else some ((a1, b2), swaps3, ()))
theorem S135c37io00010_D (n : Nat × Nat) (hn : n.2 = 1) : S135c37io00010 n = D135c37io00010 n := by
  funext data0 a1 b2 swaps3; refine (S135c37io00010_eq n data0 a1 b2 swaps3).trans ?_
  unfold D135c37io00010
  (try simp only [S37_D n hn]) <;> first | with_reducible rfl | rfl
/-D 122c37io000010 -/
noncomputable def D122c37io000010 (n : Nat × Nat) (data0 : List (List Int)) (a1 : Int) (b2 : Int) (c3 : Int) (swaps4 : Int) : Option R122c37io000010 :=
 (D135c37io00010 n data0 a1 b2 swaps4).bind fun r1' =>
 (D135c37io00010 n data0 r1'.1.2 c3 r1'.2.1).bind fun r2' =>
 (D135c37io00010 n data0 r1'.1.1 r2'.1.1 r2'.2.1).bind fun r3' =>
 some (r3'.1.2, r3'.2.1, ())
theorem S122c37io000010_D (n : Nat × Nat) (hn : n.2 = 1) : S122c37io000010 n = D122c37io000010 n := by
  funext data0 a1 b2 c3 swaps4; refine (S122c37io000010_eq n data0 a1 b2 c3 swaps4).trans ?_
  unfold D122c37io000010
  (try simp only [S135c37io00010_D n hn]) <;> first | with_reducible rfl | rfl
/-D 121c37io0010 -/
noncomputable def D121c37io0010 (n : Nat × Nat) (data0 : List (List Int)) (a1 : Int) (swaps2 : Int) : Option R121c37io0010 :=
 (D122c37io000010 n data0 (wr .i64 (a1 - 1)) a1 (wr .i64 (a1 + 1)) swaps2).bind fun r1' =>
 some (r1'.1, r1'.2.1, ())
theorem S121c37io0010_D (n : Nat × Nat) (hn : n.2 = 1) : S121c37io0010 n = D121c37io0010 n := by
  funext data0 a1 swaps2; refine (S121c37io0010_eq n data0 a1 swaps2).trans ?_
  unfold D121c37io0010
  (try simp only [S122c37io000010_D n hn]) <;> first | with_reducible rfl | rfl
/-D 94c37 -/
noncomputable def D94c37 (n : Nat × Nat) (data0 : List (List Int)) (a1 : Int) (b2 : Int) : Option R94c37 :=
 (bif 4 == 0 then none
 else (bif 4 == 0 then none
 else (bif 4 == 0 then none
 else (bif decide (wr .i64 (b2 - a1) ≥ 8) then (bif decide (wr .i64 (b2 - a1) ≥ 50) then (D121c37io0010 n data0 (wr .i64 (a1 + (wr .i64 ((wr .i64 (Int.tdiv (wr .i64 (b2 - a1)) 4)) * 1)))) 0).bind fun r1' =>
 (D121c37io0010 n data0 (wr .i64 (a1 + (wr .i64 ((wr .i64 (Int.tdiv (wr .i64 (b2 - a1)) 4)) * 2)))) r1'.2.1).bind fun r2' =>
 (D121c37io0010 n data0 (wr .i64 (a1 + (wr .i64 ((wr .i64 (Int.tdiv (wr .i64 (b2 - a1)) 4)) * 3)))) r2'.2.1).bind fun r3' =>
 (D122c37io000010 n data0 r1'.1 r2'.1 r3'.1 r3'.2.1).bind fun r4' =>
 (bif (r4'.2.1 == 0) then some (r4'.1, 1)
 else (bif (r4'.2.1 == 12) then some (r4'.1, 2)
 else some (r4'.1, 0)))
 else (D122c37io000010 n data0 (wr .i64 (a1 + (wr .i64 ((wr .i64 (Int.tdiv (wr .i64 (b2 - a1)) 4)) * 1)))) (wr .i64 (a1 + (wr .i64 ((wr .i64 (Int.tdiv (wr .i64 (b2 - a1)) 4)) * 2)))) (wr .i64 (a1 + (wr .i64 ((wr .i64 (Int.tdiv (wr .i64 (b2 - a1)) 4)) * 3)))) 0).bind fun r5' =>
 (bif (r5'.2.1 == 0) then some (r5'.1, 1)
 else (bif (r5'.2.1 == 12) then some (r5'.1, 2)
 else some (r5'.1, 0))))
 else (bif (0 == 0) then some (wr .i64 (a1 + (wr .i64 ((wr .i64 (Int.tdiv (wr .i64 (b2 - a1)) 4)) * 2))), 1)
 else (bif (0 == 12) then some (wr .i64 (a1 + (wr .i64 ((wr .i64 (Int.tdiv (wr .i64 (b2 - a1)) 4)) * 2))), 2)
 else some (wr .i64 (a1 + (wr .i64 ((wr .i64 (Int.tdiv (wr .i64 (b2 - a1)) 4)) * 2))), 0)))))))
theorem S94c37_D (n : Nat × Nat) (hn : n.2 = 1) : S94c37 n = D94c37 n := by
  funext data0 a1 b2; refine (S94c37_eq n data0 a1 b2).trans ?_
  unfold D94c37
  (try simp only [S121c37io0010_D n hn, S122c37io000010_D n hn]) <;> first | with_reducible rfl | rfl
/-D 95c37 -/
noncomputable def DF95c37_1 (n : Nat × Nat) (f1 : List (List Int) → Int → Int → Option R95c37) (data0 : List (List Int)) (i8 : Int) (j9 : Int) : Option R95c37 :=
 (bif decide (i8 < j9) then none
 else some ())
noncomputable def DL95c37_1 (n : Nat × Nat) (m : Nat) : List (List Int) → Int → Int → Option R95c37 := Nat.rec (motive := fun _ => List (List Int) → Int → Int → Option R95c37) (fun _ _ _ => none) (fun _ ih => DF95c37_1 n ih) m
theorem DL95c37_1_succ (n : Nat × Nat) (m : Nat) : DL95c37_1 n (m + 1) = DF95c37_1 n (DL95c37_1 n m) := rfl
theorem DL95c37_1_eq (n : Nat × Nat) (hn : n.2 = 1) : ∀ m, L95c37_1 n m = DL95c37_1 n m
  | 0 => by funext data0 i8 j9; kernel_rfl
  | m + 1 => by
    have ih := DL95c37_1_eq n hn m
    funext data0 i8 j9; refine (L95c37_1_eq n m data0 i8 j9).trans ?_
    rw [DL95c37_1_succ]
    unfold DF95c37_1
    (try simp only [ih]) <;> first | with_reducible rfl | rfl
noncomputable def D95c37 (n : Nat × Nat) (data0 : List (List Int)) (a1 : Int) (b2 : Int) : Option R95c37 :=
    DL95c37_1 n n.1 data0 a1 (wr .i64 (b2 - 1))
theorem S95c37_D (n : Nat × Nat) (hn : n.2 = 1) : S95c37 n = D95c37 n := by
  funext data0 a1 b2; refine (S95c37_eq n data0 a1 b2).trans ?_
  unfold D95c37
  (try simp only [DL95c37_1_eq n hn]) <;> first | with_reducible rfl | rfl
/-D 96c37 -/
noncomputable def DF96c37_2 (n : Nat × Nat) (f1 : List (List Int) → Int → Int → Int → Int → Option R96c37) (f2 : List (List Int) → Int → Int → Int → Int → Option R96c37) (data0 : List (List Int)) (a1 : Int) (b2 : Int) (i9 : Int) (j10 : Int) : Option R96c37 :=
 ((bif (decide (i9 < b2) == true) then (idx data0 i9).bind fun x1' =>
 (idx data0 (wr .i64 (i9 - 1))).bind fun x2' =>
 (D37 n x1' x2').bind fun r3' =>
 some (!(decide (r3' < 0)))
 else some false)).bind fun b4' =>
 (bif b4' then f2 data0 a1 b2 (wr .i64 (i9 + 1)) j10
 else (bif (i9 == b2) then some true
 else (bif decide (wr .i64 (b2 - a1) < 50) then some false
 else none)))
noncomputable def DL96c37_2 (n : Nat × Nat) (f1 : List (List Int) → Int → Int → Int → Int → Option R96c37) (m : Nat) : List (List Int) → Int → Int → Int → Int → Option R96c37 := Nat.rec (motive := fun _ => List (List Int) → Int → Int → Int → Int → Option R96c37) (fun _ _ _ _ _ => none) (fun _ ih => DF96c37_2 n f1 ih) m
theorem DL96c37_2_succ (n : Nat × Nat) (f1 : List (List Int) → Int → Int → Int → Int → Option R96c37) (m : Nat) : DL96c37_2 n f1 (m + 1) = DF96c37_2 n f1 (DL96c37_2 n f1 m) := rfl
theorem DL96c37_2_eq (n : Nat × Nat) (hn : n.2 = 1) (m1 : Nat) : ∀ m, L96c37_2 n m1 m = DL96c37_2 n (L96c37_1 n m1) m
  | 0 => by funext data0 a1 b2 i9 j10; kernel_rfl
  | m + 1 => by
    have ih := DL96c37_2_eq n hn m1 m
    funext data0 a1 b2 i9 j10; refine (L96c37_2_eq n m1 m data0 a1 b2 i9 j10).trans ?_
    rw [DL96c37_2_succ]
    unfold DF96c37_2
    (try simp only [ih, S37_D n hn]) <;> first | with_reducible rfl | rfl
noncomputable def DF96c37_1 (n : Nat × Nat) (f1 : List (List Int) → Int → Int → Int → Int → Option R96c37) (data0 : List (List Int)) (a1 : Int) (b2 : Int) (i9 : Int) (j10 : Int) : Option R96c37 :=
 (bif decide (j10 < 5) then DL96c37_2 n f1 n.1 data0 a1 b2 i9 j10
 else some false)
noncomputable def DL96c37_1 (n : Nat × Nat) (m : Nat) : List (List Int) → Int → Int → Int → Int → Option R96c37 := Nat.rec (motive := fun _ => List (List Int) → Int → Int → Int → Int → Option R96c37) (fun _ _ _ _ _ => none) (fun _ ih => DF96c37_1 n ih) m
theorem DL96c37_1_succ (n : Nat × Nat) (m : Nat) : DL96c37_1 n (m + 1) = DF96c37_1 n (DL96c37_1 n m) := rfl
theorem DL96c37_1_eq (n : Nat × Nat) (hn : n.2 = 1) : ∀ m, L96c37_1 n m = DL96c37_1 n m
  | 0 => by funext data0 a1 b2 i9 j10; kernel_rfl
  | m + 1 => by
    have ih := DL96c37_1_eq n hn m
    funext data0 a1 b2 i9 j10; refine (L96c37_1_eq n m data0 a1 b2 i9 j10).trans ?_
    rw [DL96c37_1_succ]
    unfold DF96c37_1
    (try simp only [ih, DL96c37_2_eq n hn, S37_D n hn]) <;> first | with_reducible rfl | rfl
noncomputable def D96c37 (n : Nat × Nat) (data0 : List (List Int)) (a1 : Int) (b2 : Int) : Option R96c37 :=
    DL96c37_1 n n.1 data0 a1 b2 (wr .i64 (a1 + 1)) 0
theorem S96c37_D (n : Nat × Nat) (hn : n.2 = 1) : S96c37 n = D96c37 n := by
  funext data0 a1 b2; refine (S96c37_eq n data0 a1 b2).trans ?_
  unfold D96c37
  (try simp only [DL96c37_2_eq n hn, DL96c37_1_eq n hn, S37_D n hn]) <;> first | with_reducible rfl | rfl
/-D 97c37 -/
noncomputable def D97c37 (n : Nat × Nat) (data0 : List (List Int)) (a1 : Int) (b2 : Int) (pivot3 : Int) : Option R97c37 :=
 none
theorem S97c37_D (n : Nat × Nat) (hn : n.2 = 1) : S97c37 n = D97c37 n := by
  funext data0 a1 b2 pivot3; refine (S97c37_eq n data0 a1 b2 pivot3).trans ?_
  unfold D97c37
  first | with_reducible rfl | rfl
/-D 98c37 -/
noncomputable def D98c37 (n : Nat × Nat) (data0 : List (List Int)) (a1 : Int) (b2 : Int) (pivot3 : Int) : Option R98c37 :=
 none
theorem S98c37_D (n : Nat × Nat) (hn : n.2 = 1) : S98c37 n = D98c37 n := by
  funext data0 a1 b2 pivot3; refine (S98c37_eq n data0 a1 b2 pivot3).trans ?_
  unfold D98c37
  first | with_reducible rfl | rfl
/-D 67c37 -/
noncomputable def DF67c37_1 (n : Nat × Nat) (SS : List (List Int) → Int → Int → Int → Option R67c37) (f1 : List (List Int) → Int → Int → Int → Bool → Bool → Option R67c37) (data0 : List (List Int)) (a1 : Int) (b2 : Int) (limit3 : Int) (wasBalanced10 : Bool) (wasPartitioned11 : Bool) : Option R67c37 :=
 (bif decide (wr .i64 (b2 - a1) ≤ 12) then (D91c37 n data0 a1 b2).bind fun r1' =>
 some ()
 else (bif (limit3 == 0) then (D92c37 n data0 a1 b2).bind fun r2' =>
 some ()
 else (bif (!wasBalanced10) then (D93c37 n data0 a1 b2).bind fun r3' =>
 (D94c37 n data0 a1 b2).bind fun r4' =>
 (bif (r4'.2 == 2) then (D95c37 n data0 a1 b2).bind fun r5' =>
 ((bif (wasBalanced10 == true) then some wasPartitioned11
 else some false)).bind fun b6' =>
 ((bif (b6' == true) then some (1 == 1)
 else some false)).bind fun b7' =>
 (bif b7' then (D96c37 n data0 a1 b2).bind fun r8' =>
 (bif r8' then some ()
 else ((bif (decide (a1 > 0) == true) then (idx data0 (wr .i64 (a1 - 1))).bind fun x9' =>
 (idx data0 (wr .i64 ((wr .i64 (b2 - 1)) - (wr .i64 (r4'.1 - a1))))).bind fun x10' =>
 (D37 n x9' x10').bind fun r11' =>
 some (!(decide (r11' < 0)))
 else some false)).bind fun b12' =>
 (bif b12' then (D97c37 n data0 a1 b2 (wr .i64 ((wr .i64 (b2 - 1)) - (wr .i64 (r4'.1 - a1))))).bind fun r13' =>
                  f1 data0 r13' b2 (wr .i64 (limit3 - 1)) wasBalanced10 wasPartitioned11
 else (D98c37 n data0 a1 b2 (wr .i64 ((wr .i64 (b2 - 1)) - (wr .i64 (r4'.1 - a1))))).bind fun r14' =>
 (bif 8 == 0 then none
 else (bif decide (wr .i64 (r14'.1 - a1) < wr .i64 (b2 - r14'.1)) then (SS data0 a1 r14'.1 (wr .i64 (limit3 - 1))).bind fun r15' =>
                      f1 data0 (wr .i64 (r14'.1 + 1)) b2 (wr .i64 (limit3 - 1)) (decide (wr .i64 (r14'.1 - a1) ≥ wr .i64 (Int.tdiv (wr .i64 (b2 - a1)) 8))) r14'.2
 else (SS data0 (wr .i64 (r14'.1 + 1)) b2 (wr .i64 (limit3 - 1))).bind fun r16' =>
                      f1 data0 a1 r14'.1 (wr .i64 (limit3 - 1)) (decide (wr .i64 (b2 - r14'.1) ≥ wr .i64 (Int.tdiv (wr .i64 (b2 - a1)) 8))) r14'.2))))
 else ((bif (decide (a1 > 0) == true) then (idx data0 (wr .i64 (a1 - 1))).bind fun x17' =>
 (idx data0 (wr .i64 ((wr .i64 (b2 - 1)) - (wr .i64 (r4'.1 - a1))))).bind fun x18' =>
 (D37 n x17' x18').bind fun r19' =>
 some (!(decide (r19' < 0)))
 else some false)).bind fun b20' =>
 (bif b20' then (D97c37 n data0 a1 b2 (wr .i64 ((wr .i64 (b2 - 1)) - (wr .i64 (r4'.1 - a1))))).bind fun r21' =>
                f1 data0 r21' b2 (wr .i64 (limit3 - 1)) wasBalanced10 wasPartitioned11
 else (D98c37 n data0 a1 b2 (wr .i64 ((wr .i64 (b2 - 1)) - (wr .i64 (r4'.1 - a1))))).bind fun r22' =>
 (bif 8 == 0 then none
 else (bif decide (wr .i64 (r22'.1 - a1) < wr .i64 (b2 - r22'.1)) then (SS data0 a1 r22'.1 (wr .i64 (limit3 - 1))).bind fun r23' =>
                    f1 data0 (wr .i64 (r22'.1 + 1)) b2 (wr .i64 (limit3 - 1)) (decide (wr .i64 (r22'.1 - a1) ≥ wr .i64 (Int.tdiv (wr .i64 (b2 - a1)) 8))) r22'.2
 else (SS data0 (wr .i64 (r22'.1 + 1)) b2 (wr .i64 (limit3 - 1))).bind fun r24' =>
                    f1 data0 a1 r22'.1 (wr .i64 (limit3 - 1)) (decide (wr .i64 (b2 - r22'.1) ≥ wr .i64 (Int.tdiv (wr .i64 (b2 - a1)) 8))) r22'.2))))
 else ((bif (wasBalanced10 == true) then some wasPartitioned11
 else some false)).bind fun b25' =>
 ((bif (b25' == true) then some (r4'.2 == 1)
 else some false)).bind fun b26' =>
 (bif b26' then (D96c37 n data0 a1 b2).bind fun r27' =>
 (bif r27' then some ()
 else ((bif (decide (a1 > 0) == true) then (idx data0 (wr .i64 (a1 - 1))).bind fun x28' =>
 (idx data0 r4'.1).bind fun x29' =>
 (D37 n x28' x29').bind fun r30' =>
 some (!(decide (r30' < 0)))
 else some false)).bind fun b31' =>
 (bif b31' then (D97c37 n data0 a1 b2 r4'.1).bind fun r32' =>
                  f1 data0 r32' b2 (wr .i64 (limit3 - 1)) wasBalanced10 wasPartitioned11
 else (D98c37 n data0 a1 b2 r4'.1).bind fun r33' =>
 (bif 8 == 0 then none
 else (bif decide (wr .i64 (r33'.1 - a1) < wr .i64 (b2 - r33'.1)) then (SS data0 a1 r33'.1 (wr .i64 (limit3 - 1))).bind fun r34' =>
                      f1 data0 (wr .i64 (r33'.1 + 1)) b2 (wr .i64 (limit3 - 1)) (decide (wr .i64 (r33'.1 - a1) ≥ wr .i64 (Int.tdiv (wr .i64 (b2 - a1)) 8))) r33'.2
 else (SS data0 (wr .i64 (r33'.1 + 1)) b2 (wr .i64 (limit3 - 1))).bind fun r35' =>
                      f1 data0 a1 r33'.1 (wr .i64 (limit3 - 1)) (decide (wr .i64 (b2 - r33'.1) ≥ wr .i64 (Int.tdiv (wr .i64 (b2 - a1)) 8))) r33'.2))))
 else ((bif (decide (a1 > 0) == true) then (idx data0 (wr .i64 (a1 - 1))).bind fun x36' =>
 (idx data0 r4'.1).bind fun x37' =>
 (D37 n x36' x37').bind fun r38' =>
 some (!(decide (r38' < 0)))
 else some false)).bind fun b39' =>
 (bif b39' then (D97c37 n data0 a1 b2 r4'.1).bind fun r40' =>
                f1 data0 r40' b2 (wr .i64 (limit3 - 1)) wasBalanced10 wasPartitioned11
 else (D98c37 n data0 a1 b2 r4'.1).bind fun r41' =>
 (bif 8 == 0 then none
 else (bif decide (wr .i64 (r41'.1 - a1) < wr .i64 (b2 - r41'.1)) then (SS data0 a1 r41'.1 (wr .i64 (limit3 - 1))).bind fun r42' =>
                    f1 data0 (wr .i64 (r41'.1 + 1)) b2 (wr .i64 (limit3 - 1)) (decide (wr .i64 (r41'.1 - a1) ≥ wr .i64 (Int.tdiv (wr .i64 (b2 - a1)) 8))) r41'.2
 else (SS data0 (wr .i64 (r41'.1 + 1)) b2 (wr .i64 (limit3 - 1))).bind fun r43' =>
                    f1 data0 a1 r41'.1 (wr .i64 (limit3 - 1)) (decide (wr .i64 (b2 - r41'.1) ≥ wr .i64 (Int.tdiv (wr .i64 (b2 - a1)) 8))) r41'.2)))))
 else (D94c37 n data0 a1 b2).bind fun r44' =>
 (bif (r44'.2 == 2) then (D95c37 n data0 a1 b2).bind fun r45' =>
 ((bif (wasBalanced10 == true) then some wasPartitioned11
 else some false)).bind fun b46' =>
 ((bif (b46' == true) then some (1 == 1)
 else some false)).bind fun b47' =>
 (bif b47' then (D96c37 n data0 a1 b2).bind fun r48' =>
 (bif r48' then some ()
 else ((bif (decide (a1 > 0) == true) then (idx data0 (wr .i64 (a1 - 1))).bind fun x49' =>
 (idx data0 (wr .i64 ((wr .i64 (b2 - 1)) - (wr .i64 (r44'.1 - a1))))).bind fun x50' =>
 (D37 n x49' x50').bind fun r51' =>
 some (!(decide (r51' < 0)))
 else some false)).bind fun b52' =>
 (bif b52' then (D97c37 n data0 a1 b2 (wr .i64 ((wr .i64 (b2 - 1)) - (wr .i64 (r44'.1 - a1))))).bind fun r53' =>
                  f1 data0 r53' b2 limit3 wasBalanced10 wasPartitioned11
 else (D98c37 n data0 a1 b2 (wr .i64 ((wr .i64 (b2 - 1)) - (wr .i64 (r44'.1 - a1))))).bind fun r54' =>
 (bif 8 == 0 then none
 else (bif decide (wr .i64 (r54'.1 - a1) < wr .i64 (b2 - r54'.1)) then (SS data0 a1 r54'.1 limit3).bind fun r55' =>
                      f1 data0 (wr .i64 (r54'.1 + 1)) b2 limit3 (decide (wr .i64 (r54'.1 - a1) ≥ wr .i64 (Int.tdiv (wr .i64 (b2 - a1)) 8))) r54'.2
 else (SS data0 (wr .i64 (r54'.1 + 1)) b2 limit3).bind fun r56' =>
                      f1 data0 a1 r54'.1 limit3 (decide (wr .i64 (b2 - r54'.1) ≥ wr .i64 (Int.tdiv (wr .i64 (b2 - a1)) 8))) r54'.2))))
 else ((bif (decide (a1 > 0) == true) then (idx data0 (wr .i64 (a1 - 1))).bind fun x57' =>
 (idx data0 (wr .i64 ((wr .i64 (b2 - 1)) - (wr .i64 (r44'.1 - a1))))).bind fun x58' =>
 (D37 n x57' x58').bind fun r59' =>
 some (!(decide (r59' < 0)))
 else some false)).bind fun b60' =>
 (bif b60' then (D97c37 n data0 a1 b2 (wr .i64 ((wr .i64 (b2 - 1)) - (wr .i64 (r44'.1 - a1))))).bind fun r61' =>
                f1 data0 r61' b2 limit3 wasBalanced10 wasPartitioned11
 else (D98c37 n data0 a1 b2 (wr .i64 ((wr .i64 (b2 - 1)) - (wr .i64 (r44'.1 - a1))))).bind fun r62' =>
 (bif 8 == 0 then none
 else (bif decide (wr .i64 (r62'.1 - a1) < wr .i64 (b2 - r62'.1)) then (SS data0 a1 r62'.1 limit3).bind fun r63' =>
                    f1 data0 (wr .i64 (r62'.1 + 1)) b2 limit3 (decide (wr .i64 (r62'.1 - a1) ≥ wr .i64 (Int.tdiv (wr .i64 (b2 - a1)) 8))) r62'.2
 else (SS data0 (wr .i64 (r62'.1 + 1)) b2 limit3).bind fun r64' =>
                    f1 data0 a1 r62'.1 limit3 (decide (wr .i64 (b2 - r62'.1) ≥ wr .i64 (Int.tdiv (wr .i64 (b2 - a1)) 8))) r62'.2))))
 else ((bif (wasBalanced10 == true) then some wasPartitioned11
 else some false)).bind fun b65' =>
 ((bif (b65' == true) then some (r44'.2 == 1)
 else some false)).bind fun b66' =>
 (bif b66' then (D96c37 n data0 a1 b2).bind fun r67' =>
 (bif r67' then some ()
 else ((bif (decide (a1 > 0) == true) then (idx data0 (wr .i64 (a1 - 1))).bind fun x68' =>
 (idx data0 r44'.1).bind fun x69' =>
 (D37 n x68' x69').bind fun r70' =>
 some (!(decide (r70' < 0)))
 else some false)).bind fun b71' =>
 (bif b71' then (D97c37 n data0 a1 b2 r44'.1).bind fun r72' =>
                  f1 data0 r72' b2 limit3 wasBalanced10 wasPartitioned11
 else (D98c37 n data0 a1 b2 r44'.1).bind fun r73' =>
 (bif 8 == 0 then none
 else (bif decide (wr .i64 (r73'.1 - a1) < wr .i64 (b2 - r73'.1)) then (SS data0 a1 r73'.1 limit3).bind fun r74' =>
                      f1 data0 (wr .i64 (r73'.1 + 1)) b2 limit3 (decide (wr .i64 (r73'.1 - a1) ≥ wr .i64 (Int.tdiv (wr .i64 (b2 - a1)) 8))) r73'.2
 else (SS data0 (wr .i64 (r73'.1 + 1)) b2 limit3).bind fun r75' =>
                      f1 data0 a1 r73'.1 limit3 (decide (wr .i64 (b2 - r73'.1) ≥ wr .i64 (Int.tdiv (wr .i64 (b2 - a1)) 8))) r73'.2))))
 else ((bif (decide (a1 > 0) == true) then (idx data0 (wr .i64 (a1 - 1))).bind fun x76' =>
 (idx data0 r44'.1).bind fun x77' =>
 (D37 n x76' x77').bind fun r78' =>
 some (!(decide (r78' < 0)))
 else some false)).bind fun b79' =>
 (bif b79' then (D97c37 n data0 a1 b2 r44'.1).bind fun r80' =>
                f1 data0 r80' b2 limit3 wasBalanced10 wasPartitioned11
 else (D98c37 n data0 a1 b2 r44'.1).bind fun r81' =>
 (bif 8 == 0 then none
 else (bif decide (wr .i64 (r81'.1 - a1) < wr .i64 (b2 - r81'.1)) then (SS data0 a1 r81'.1 limit3).bind fun r82' =>
                    f1 data0 (wr .i64 (r81'.1 + 1)) b2 limit3 (decide (wr .i64 (r81'.1 - a1) ≥ wr .i64 (Int.tdiv (wr .i64 (b2 - a1)) 8))) r81'.2
 else (SS data0 (wr .i64 (r81'.1 + 1)) b2 limit3).bind fun r83' =>
                    f1 data0 a1 r81'.1 limit3 (decide (wr .i64 (b2 - r81'.1) ≥ wr .i64 (Int.tdiv (wr .i64 (b2 - a1)) 8))) r81'.2))))))))
noncomputable def DL67c37_1 (n : Nat × Nat) (SS : List (List Int) → Int → Int → Int → Option R67c37) (m : Nat) : List (List Int) → Int → Int → Int → Bool → Bool → Option R67c37 := Nat.rec (motive := fun _ => List (List Int) → Int → Int → Int → Bool → Bool → Option R67c37) (fun _ _ _ _ _ _ => none) (fun _ ih => DF67c37_1 n SS ih) m
theorem DL67c37_1_succ (n : Nat × Nat) (SS : List (List Int) → Int → Int → Int → Option R67c37) (m : Nat) : DL67c37_1 n SS (m + 1) = DF67c37_1 n SS (DL67c37_1 n SS m) := rfl
theorem DL67c37_1_eq (n : Nat × Nat) (hn : n.2 = 1) (SS : List (List Int) → Int → Int → Int → Option R67c37) : ∀ m, L67c37_1 n SS m = DL67c37_1 n SS m
  | 0 => by funext data0 a1 b2 limit3 wasBalanced10 wasPartitioned11; kernel_rfl
  | m + 1 => by
    have ih := DL67c37_1_eq n hn SS m
    funext data0 a1 b2 limit3 wasBalanced10 wasPartitioned11; refine (L67c37_1_eq n SS m data0 a1 b2 limit3 wasBalanced10 wasPartitioned11).trans ?_
    rw [DL67c37_1_succ]
    unfold DF67c37_1
    (try simp only [ih, S37_D n hn, S91c37_D n hn, S92c37_D n hn, S93c37_D n hn, S94c37_D n hn, S95c37_D n hn, S96c37_D n hn, S97c37_D n hn, S98c37_D n hn]) <;> first | with_reducible rfl | rfl
noncomputable def DB67c37 (n : Nat × Nat) (SS : List (List Int) → Int → Int → Int → Option R67c37) (data0 : List (List Int)) (a1 : Int) (b2 : Int) (limit3 : Int) : Option R67c37 :=
    DL67c37_1 n SS n.1 data0 a1 b2 limit3 true true
theorem DB67c37_eq (n : Nat × Nat) (hn : n.2 = 1) (SS : List (List Int) → Int → Int → Int → Option R67c37) : B67c37 n SS = DB67c37 n SS := by
  funext data0 a1 b2 limit3; refine (B67c37_eq n SS data0 a1 b2 limit3).trans ?_
  unfold DB67c37
  (try simp only [DL67c37_1_eq n hn SS, S37_D n hn, S91c37_D n hn, S92c37_D n hn, S93c37_D n hn, S94c37_D n hn, S95c37_D n hn, S96c37_D n hn, S97c37_D n hn, S98c37_D n hn]) <;> first | with_reducible rfl | rfl
noncomputable def DT67c37 (n : Nat × Nat) (d : Nat) : List (List Int) → Int → Int → Int → Option R67c37 := Nat.rec (motive := fun _ => List (List Int) → Int → Int → Int → Option R67c37) (fun _ _ _ _ => none) (fun _ ih => DB67c37 n ih) d
theorem DT67c37_succ (n : Nat × Nat) (d : Nat) : DT67c37 n (d + 1) = DB67c37 n (DT67c37 n d) := rfl
theorem DT67c37_eq (n : Nat × Nat) (hn : n.2 = 1) : ∀ d, T67c37 n d = DT67c37 n d
  | 0 => rfl
  | d + 1 => by
    funext data0 a1 b2 limit3
    rw [T67c37_eq, DT67c37_eq n hn d, DB67c37_eq n hn, DT67c37_succ]
noncomputable def D67c37 (n : Nat × Nat) (data0 : List (List Int)) (a1 : Int) (b2 : Int) (limit3 : Int) : Option R67c37 := DT67c37 n n.1 data0 a1 b2 limit3
theorem S67c37_D (n : Nat × Nat) (hn : n.2 = 1) : S67c37 n = D67c37 n := by
  funext data0 a1 b2 limit3; unfold S67c37 D67c37; rw [DT67c37_eq n hn]
/-D 36c37 -/
noncomputable def D36c37 (n : Nat × Nat) (x0 : List (List Int)) : Option R36c37 :=
 (D68 n (wr .u64 (x0.length : Int))).bind fun r1' =>
 (D67c37 n x0 0 (x0.length : Int) r1').bind fun r2' =>
 some ()
theorem S36c37_D (n : Nat × Nat) (hn : n.2 = 1) : S36c37 n = D36c37 n := by
  funext x0; refine (S36c37_eq n x0).trans ?_
  unfold D36c37
  (try simp only [S67c37_D n hn, S68_D n hn]) <;> first | with_reducible rfl | rfl
/-D 11 -/
noncomputable def DL11_2 (n : Nat × Nat) (f1 : Int → Int → Int → Int → Int → Int → Int → Int → Int → Int → List (List Int) → Option R11) (v18 : Int) (v19 : Int) (w4_0 : Int) (w4_1 : Int) (w4_2 : Int) (w4_3 : Int) (w4_4 : Int) (w4_5 : Int) (w4_6 : Int) (w4_7 : Int) (out6 : List (List Int)) : Option R11 :=
    f1 v18 (wr .u64 (v19 + 1)) w4_0 w4_1 w4_2 w4_3 w4_4 w4_5 w4_6 w4_7 out6
theorem DL11_2_eq (n : Nat × Nat) (hn : n.2 = 1) (m1 : Nat) : L11_2 n m1 = DL11_2 n (L11_1 n m1) := by
  funext v18 v19 w4_0 w4_1 w4_2 w4_3 w4_4 w4_5 w4_6 w4_7 out6; refine ((held_eq hn _).trans (L11_2_raw n m1 v18 v19 w4_0 w4_1 w4_2 w4_3 w4_4 w4_5 w4_6 w4_7 out6)).trans ?_
  unfold DL11_2
  (try simp only [S33_D n hn, S34_D n hn, S35_D n hn, S36c37_D n hn]) <;> first | with_reducible rfl | rfl
noncomputable def DF11_1 (n : Nat × Nat) (f1 : Int → Int → Int → Int → Int → Int → Int → Int → Int → Int → List (List Int) → Option R11) (v18 : Int) (v19 : Int) (w4_0 : Int) (w4_1 : Int) (w4_2 : Int) (w4_3 : Int) (w4_4 : Int) (w4_5 : Int) (w4_6 : Int) (w4_7 : Int) (out6 : List (List Int)) : Option R11 :=
 (bif decide (v19 < v18) then (D34 n (w4_0, w4_1, w4_2, w4_3, w4_4, w4_5, w4_6, w4_7) v19).bind fun r2' =>
 (bif (r2' == 0) then (D35 n v19).bind fun r3' =>
 (bif decide (out6.length + [r3'].length ≤ lim) then DL11_2 n f1 v18 v19 w4_0 w4_1 w4_2 w4_3 w4_4 w4_5 w4_6 w4_7 (out6 ++ [r3'])
 else none)
 else DL11_2 n f1 v18 v19 w4_0 w4_1 w4_2 w4_3 w4_4 w4_5 w4_6 w4_7 out6)
 else (D36c37 n out6).bind fun r4' =>
 some (out6, 0))
noncomputable def DL11_1 (n : Nat × Nat) (m : Nat) : Int → Int → Int → Int → Int → Int → Int → Int → Int → Int → List (List Int) → Option R11 := Nat.rec (motive := fun _ => Int → Int → Int → Int → Int → Int → Int → Int → Int → Int → List (List Int) → Option R11) (fun _ _ _ _ _ _ _ _ _ _ _ => none) (fun _ ih => DF11_1 n ih) m
theorem DL11_1_succ (n : Nat × Nat) (m : Nat) : DL11_1 n (m + 1) = DF11_1 n (DL11_1 n m) := rfl
theorem DL11_1_eq (n : Nat × Nat) (hn : n.2 = 1) : ∀ m, L11_1 n m = DL11_1 n m
  | 0 => by funext v18 v19 w4_0 w4_1 w4_2 w4_3 w4_4 w4_5 w4_6 w4_7 out6; kernel_rfl
  | m + 1 => by
    have ih := DL11_1_eq n hn m
    funext v18 v19 w4_0 w4_1 w4_2 w4_3 w4_4 w4_5 w4_6 w4_7 out6; refine (L11_1_eq n m v18 v19 w4_0 w4_1 w4_2 w4_3 w4_4 w4_5 w4_6 w4_7 out6).trans ?_
    rw [DL11_1_succ]
    unfold DF11_1
    (try simp only [ih, DL11_2_eq n hn, S33_D n hn, S34_D n hn, S35_D n hn, S36c37_D n hn]) <;> first | with_reducible rfl | rfl
noncomputable def D11 (n : Nat × Nat) (b0 : Int × List (Int × Int)) : Option R11 :=
 (D33 n b0).bind fun r1' =>
 (bif (r1'.2 != 0) then some ([], r1'.2)
 else (bif decide (r1'.1.1 < 0) then none
 else DL11_1 n n.1 (wr .u64 (1 * 2 ^ (min (Int.toNat r1'.1.1) (IntKind.bits .u64)))) 0 r1'.1.1 r1'.1.2.1 r1'.1.2.2.1 r1'.1.2.2.2.1 r1'.1.2.2.2.2.1 r1'.1.2.2.2.2.2.1 r1'.1.2.2.2.2.2.2.1 r1'.1.2.2.2.2.2.2.2 []))
theorem S11_D (n : Nat × Nat) (hn : n.2 = 1) : S11 n = D11 n := by
  funext b0; refine (S11_eq n b0).trans ?_
  unfold D11
  (try simp only [DL11_2_eq n hn, DL11_1_eq n hn, S33_D n hn, S34_D n hn, S35_D n hn, S36c37_D n hn]) <;> first | with_reducible rfl | rfl
/-D 44 -/
noncomputable def D44 (n : Nat × Nat) (b0 : Int × List (Int × Int)) : Option R44 :=
 (D11 n b0).bind fun r1' =>
 (bif (r1'.2 != 0) then some ([], r1'.2)
 else (bif ((r1'.1.length : Int) == 0) then some ([], 12)
 else (bif inB 0 r1'.1.length then (idx r1'.1 0).bind fun x2' =>
 some (x2', 0)
 else none)))
theorem S44_D (n : Nat × Nat) (hn : n.2 = 1) : S44 n = D44 n := by
  funext b0; refine (S44_eq n b0).trans ?_
  unfold D44
  (try simp only [S11_D n hn]) <;> first | with_reducible rfl | rfl
/-D 65 -/
noncomputable def DF65_1 (n : Nat × Nat) (f1 : ByteArray → Nat → Option R65) (v9s : ByteArray) (v9p : Nat) : Option R65 :=
 (bif Nat.blt v9p v9s.size then ((strBytes v9s)[v9p]?).bind fun x1' =>
 (bif decide (x1' < 128) then ((bif (decide (x1' < 97) == false) then some (decide (x1' ≥ 103))
 else some true)).bind fun b2' =>
 (bif b2' then some 10
 else f1 v9s (v9p + 1))
 else none)
 else some 0)
noncomputable def DL65_1 (n : Nat × Nat) (m : Nat) : ByteArray → Nat → Option R65 := Nat.rec (motive := fun _ => ByteArray → Nat → Option R65) (fun _ _ => none) (fun _ ih => DF65_1 n ih) m
theorem DL65_1_succ (n : Nat × Nat) (m : Nat) : DL65_1 n (m + 1) = DF65_1 n (DL65_1 n m) := rfl
theorem DL65_1_eq (n : Nat × Nat) (hn : n.2 = 1) : ∀ m, L65_1 n m = DL65_1 n m
  | 0 => by funext v9s v9p; kernel_rfl
  | m + 1 => by
    have ih := DL65_1_eq n hn m
    funext v9s v9p; refine (L65_1_eq n m v9s v9p).trans ?_
    rw [DL65_1_succ]
    unfold DF65_1
    (try simp only [ih]) <;> first | with_reducible rfl | rfl
noncomputable def D65 (n : Nat × Nat) (word0 : ByteArray) : Option R65 :=
 (bif decide ((word0.size : Int) > 10) then some 19
 else DL65_1 n n.1 word0 0)
theorem S65_D (n : Nat × Nat) (hn : n.2 = 1) : S65 n = D65 n := by
  funext word0; refine (S65_eq n word0).trans ?_
  unfold D65
  (try simp only [DL65_1_eq n hn]) <;> first | with_reducible rfl | rfl
/-D 31 -/
noncomputable def DF31_1 (n : Nat × Nat) (f1 : List ByteArray → Int → Int → Option R31) (v6 : List ByteArray) (v7 : Int) (v8 : Int) : Option R31 :=
 (bif decide (v8 < v7) then (idx v6 v8).bind fun x1' =>
 (D65 n x1').bind fun r2' =>
 (bif (r2' != 0) then some r2'
 else f1 v6 v7 (wr .i64 (v8 + 1)))
 else some 0)
noncomputable def DL31_1 (n : Nat × Nat) (m : Nat) : List ByteArray → Int → Int → Option R31 := Nat.rec (motive := fun _ => List ByteArray → Int → Int → Option R31) (fun _ _ _ => none) (fun _ ih => DF31_1 n ih) m
theorem DL31_1_succ (n : Nat × Nat) (m : Nat) : DL31_1 n (m + 1) = DF31_1 n (DL31_1 n m) := rfl
theorem DL31_1_eq (n : Nat × Nat) (hn : n.2 = 1) : ∀ m, L31_1 n m = DL31_1 n m
  | 0 => by funext v6 v7 v8; kernel_rfl
  | m + 1 => by
    have ih := DL31_1_eq n hn m
    funext v6 v7 v8; refine (L31_1_eq n m v6 v7 v8).trans ?_
    rw [DL31_1_succ]
    unfold DF31_1
    (try simp only [ih, S65_D n hn]) <;> first | with_reducible rfl | rfl
noncomputable def D31 (n : Nat × Nat) (words0 : List ByteArray) : Option R31 :=
    DL31_1 n n.1 words0 (words0.length : Int) 0
theorem S31_D (n : Nat × Nat) (hn : n.2 = 1) : S31 n = D31 n := by
  funext words0; refine (S31_eq n words0).trans ?_
  unfold D31
  (try simp only [DL31_1_eq n hn, S65_D n hn]) <;> first | with_reducible rfl | rfl
/-D 75 -/
noncomputable def DL75_3 (n : Nat × Nat) (f1 : ByteArray → List Int → Int → Int → List Int → Option R75) (f2 : ByteArray → Int → Int → List Int → Int → Int → List Int → Option R75) (part1 : ByteArray) (c9 : Int) (k10 : Int) (v25 : List Int) (v26 : Int) (v27 : Int) (begun7 : List Int) : Option R75 :=
    f2 part1 c9 (wr .i64 (k10 - 1)) v25 v26 v27 begun7
theorem DL75_3_eq (n : Nat × Nat) (hn : n.2 = 1) (m1 m2 : Nat) : L75_3 n m1 m2 = DL75_3 n (L75_1 n m1) (L75_2 n m1 m2) := by
  funext part1 c9 k10 v25 v26 v27 begun7; refine ((held_eq hn _).trans (L75_3_raw n m1 m2 part1 c9 k10 v25 v26 v27 begun7)).trans ?_
  unfold DL75_3
  (try simp only [S31_D n hn]) <;> first | with_reducible rfl | rfl
noncomputable def DF75_2 (n : Nat × Nat) (f1 : ByteArray → List Int → Int → Int → List Int → Option R75) (f2 : ByteArray → Int → Int → List Int → Int → Int → List Int → Option R75) (part1 : ByteArray) (c9 : Int) (k10 : Int) (v25 : List Int) (v26 : Int) (v27 : Int) (begun7 : List Int) : Option R75 :=
 (bif decide (k10 > 0) then (idx (strBytes part1) (wr .i64 (k10 - 1))).bind fun x5' =>
 (bif (x5' == c9) then (bif inB k10 begun7.length then (idx begun7 k10).bind fun x6' =>
 (bif inB (wr .i64 (k10 - 1)) begun7.length then (idx begun7 (wr .i64 (k10 - 1))).bind fun x7' =>
 (bif inB k10 begun7.length then (idx begun7 k10).bind fun x8' =>
              DL75_3 n f1 f2 part1 c9 k10 v25 v26 v27 (begun7.set (Int.toNat k10) (wr .i64 (x6' + x7')))
 else none)
 else none)
 else none)
 else DL75_3 n f1 f2 part1 c9 k10 v25 v26 v27 begun7)
 else f1 part1 v25 v26 (wr .i64 (v27 + 1)) begun7)
noncomputable def DL75_2 (n : Nat × Nat) (f1 : ByteArray → List Int → Int → Int → List Int → Option R75) (m : Nat) : ByteArray → Int → Int → List Int → Int → Int → List Int → Option R75 := Nat.rec (motive := fun _ => ByteArray → Int → Int → List Int → Int → Int → List Int → Option R75) (fun _ _ _ _ _ _ _ => none) (fun _ ih => DF75_2 n f1 ih) m
theorem DL75_2_succ (n : Nat × Nat) (f1 : ByteArray → List Int → Int → Int → List Int → Option R75) (m : Nat) : DL75_2 n f1 (m + 1) = DF75_2 n f1 (DL75_2 n f1 m) := rfl
theorem DL75_2_eq (n : Nat × Nat) (hn : n.2 = 1) (m1 : Nat) : ∀ m, L75_2 n m1 m = DL75_2 n (L75_1 n m1) m
  | 0 => by funext part1 c9 k10 v25 v26 v27 begun7; kernel_rfl
  | m + 1 => by
    have ih := DL75_2_eq n hn m1 m
    funext part1 c9 k10 v25 v26 v27 begun7; refine (L75_2_eq n m1 m part1 c9 k10 v25 v26 v27 begun7).trans ?_
    rw [DL75_2_succ]
    unfold DF75_2
    (try simp only [ih, DL75_3_eq n hn, S31_D n hn]) <;> first | with_reducible rfl | rfl
noncomputable def DF75_1 (n : Nat × Nat) (f1 : ByteArray → List Int → Int → Int → List Int → Option R75) (part1 : ByteArray) (v25 : List Int) (v26 : Int) (v27 : Int) (begun7 : List Int) : Option R75 :=
 (bif decide (v27 < v26) then (idx v25 v27).bind fun x3' =>
      DL75_2 n f1 n.1 part1 x3' (part1.size : Int) v25 v26 v27 begun7
 else (bif inB (part1.size : Int) begun7.length then (idx begun7 (part1.size : Int)).bind fun x4' =>
 some (x4', 0)
 else none))
noncomputable def DL75_1 (n : Nat × Nat) (m : Nat) : ByteArray → List Int → Int → Int → List Int → Option R75 := Nat.rec (motive := fun _ => ByteArray → List Int → Int → Int → List Int → Option R75) (fun _ _ _ _ _ => none) (fun _ ih => DF75_1 n ih) m
theorem DL75_1_succ (n : Nat × Nat) (m : Nat) : DL75_1 n (m + 1) = DF75_1 n (DL75_1 n m) := rfl
theorem DL75_1_eq (n : Nat × Nat) (hn : n.2 = 1) : ∀ m, L75_1 n m = DL75_1 n m
  | 0 => by funext part1 v25 v26 v27 begun7; kernel_rfl
  | m + 1 => by
    have ih := DL75_1_eq n hn m
    funext part1 v25 v26 v27 begun7; refine (L75_1_eq n m part1 v25 v26 v27 begun7).trans ?_
    rw [DL75_1_succ]
    unfold DF75_1
    (try simp only [ih, DL75_3_eq n hn, DL75_2_eq n hn, S31_D n hn]) <;> first | with_reducible rfl | rfl
noncomputable def D75 (n : Nat × Nat) (word0 : ByteArray) (part1 : ByteArray) : Option R75 :=
 (D31 n [word0, part1]).bind fun r1' =>
 (bif (r1' != 0) then some (0, r1')
 else (bif decide (0 ≤ wr .i64 ((part1.size : Int) + 1)) && decide (wr .i64 ((part1.size : Int) + 1) ≤ wr .i64 ((part1.size : Int) + 1)) && decide (wr .i64 ((part1.size : Int) + 1) ≤ lim) then (bif inB 0 (List.replicate (Int.toNat (wr .i64 ((part1.size : Int) + 1))) (0 : Int)).length then (idx (List.replicate (Int.toNat (wr .i64 ((part1.size : Int) + 1))) (0 : Int)) 0).bind fun x2' =>
          DL75_1 n n.1 part1 (strBytes word0) ((strBytes word0).length : Int) 0 ((List.replicate (Int.toNat (wr .i64 ((part1.size : Int) + 1))) (0 : Int)).set (Int.toNat 0) 1)
 else none)
 else none))
theorem S75_D (n : Nat × Nat) (hn : n.2 = 1) : S75 n = D75 n := by
  funext word0 part1; refine (S75_eq n word0 part1).trans ?_
  unfold D75
  (try simp only [DL75_3_eq n hn, DL75_2_eq n hn, DL75_1_eq n hn, S31_D n hn]) <;> first | with_reducible rfl | rfl
/-D 105 -/
noncomputable def DF105_1 (n : Nat × Nat) (f1 : Int → ByteArray → Nat → Option R105) (letters1 : Int) (v22s : ByteArray) (v22p : Nat) : Option R105 :=
 (bif Nat.blt v22p v22s.size then ((strBytes v22s)[v22p]?).bind fun x3' =>
 (bif decide (x3' < 128) then (bif decide (x3' ≥ wr .i32 (97 + (wr .i32 letters1))) then some 2
 else f1 letters1 v22s (v22p + 1))
 else none)
 else some 0)
noncomputable def DL105_1 (n : Nat × Nat) (m : Nat) : Int → ByteArray → Nat → Option R105 := Nat.rec (motive := fun _ => Int → ByteArray → Nat → Option R105) (fun _ _ _ => none) (fun _ ih => DF105_1 n ih) m
theorem DL105_1_succ (n : Nat × Nat) (m : Nat) : DL105_1 n (m + 1) = DF105_1 n (DL105_1 n m) := rfl
theorem DL105_1_eq (n : Nat × Nat) (hn : n.2 = 1) : ∀ m, L105_1 n m = DL105_1 n m
  | 0 => by funext letters1 v22s v22p; kernel_rfl
  | m + 1 => by
    have ih := DL105_1_eq n hn m
    funext letters1 v22s v22p; refine (L105_1_eq n m letters1 v22s v22p).trans ?_
    rw [DL105_1_succ]
    unfold DF105_1
    (try simp only [ih, S65_D n hn]) <;> first | with_reducible rfl | rfl
noncomputable def D105 (n : Nat × Nat) (word0 : ByteArray) (letters1 : Int) : Option R105 :=
 (D65 n word0).bind fun r1' =>
 (bif (r1' != 0) then some r1'
 else ((bif (decide (letters1 < 1) == false) then some (decide (letters1 > 6))
 else some true)).bind fun b2' =>
 (bif b2' then some 1
 else DL105_1 n n.1 letters1 word0 0))
theorem S105_D (n : Nat × Nat) (hn : n.2 = 1) : S105 n = D105 n := by
  funext word0 letters1; refine (S105_eq n word0 letters1).trans ?_
  unfold D105
  (try simp only [DL105_1_eq n hn, S65_D n hn]) <;> first | with_reducible rfl | rfl
/-D 106 -/
noncomputable def DF106_1 (n : Nat × Nat) (f1 : Int → List Int → (List (Int × Bool)) → ByteArray → Nat → Option R106) (letters1 : Int) (out5 : List Int) (met6 : List (Int × Bool)) (v11s : ByteArray) (v11p : Nat) : Option R106 :=
 (bif Nat.blt v11p v11s.size then ((strBytes v11s)[v11p]?).bind fun x1' =>
 (bif decide (x1' < 128) then (bif (((aset met6 x1' true).length : Int) == letters1) then (bif decide (out5.length + [wr .i64 ((v11p : Int) + 1)].length ≤ lim) then f1 letters1 (out5 ++ [wr .i64 ((v11p : Int) + 1)]) [] v11s (v11p + 1)
 else none)
 else f1 letters1 out5 (aset met6 x1' true) v11s (v11p + 1))
 else none)
 else some out5)
noncomputable def DL106_1 (n : Nat × Nat) (m : Nat) : Int → List Int → (List (Int × Bool)) → ByteArray → Nat → Option R106 := Nat.rec (motive := fun _ => Int → List Int → (List (Int × Bool)) → ByteArray → Nat → Option R106) (fun _ _ _ _ _ => none) (fun _ ih => DF106_1 n ih) m
theorem DL106_1_succ (n : Nat × Nat) (m : Nat) : DL106_1 n (m + 1) = DF106_1 n (DL106_1 n m) := rfl
theorem DL106_1_eq (n : Nat × Nat) (hn : n.2 = 1) : ∀ m, L106_1 n m = DL106_1 n m
  | 0 => by funext letters1 out5 met6 v11s v11p; kernel_rfl
  | m + 1 => by
    have ih := DL106_1_eq n hn m
    funext letters1 out5 met6 v11s v11p; refine (L106_1_eq n m letters1 out5 met6 v11s v11p).trans ?_
    rw [DL106_1_succ]
    unfold DF106_1
    (try simp only [ih]) <;> first | with_reducible rfl | rfl
noncomputable def D106 (n : Nat × Nat) (word0 : ByteArray) (letters1 : Int) : Option R106 :=
    DL106_1 n n.1 letters1 [] [] word0 0
theorem S106_D (n : Nat × Nat) (hn : n.2 = 1) : S106 n = D106 n := by
  funext word0 letters1; refine (S106_eq n word0 letters1).trans ?_
  unfold D106
  (try simp only [DL106_1_eq n hn]) <;> first | with_reducible rfl | rfl
/-D 107 -/
noncomputable def DF107_1 (n : Nat × Nat) (f1 : List Int → Int → Int → Int → Option R107) (s0 : List Int) (v1 : Int) (v7 : Int) (v8 : Int) : Option R107 :=
 (bif decide (v8 < v7) then (idx s0 v8).bind fun x1' =>
 (bif (v1 == x1') then some v8
 else f1 s0 v1 v7 (wr .i64 (v8 + 1)))
 else some (-1))
noncomputable def DL107_1 (n : Nat × Nat) (m : Nat) : List Int → Int → Int → Int → Option R107 := Nat.rec (motive := fun _ => List Int → Int → Int → Int → Option R107) (fun _ _ _ _ => none) (fun _ ih => DF107_1 n ih) m
theorem DL107_1_succ (n : Nat × Nat) (m : Nat) : DL107_1 n (m + 1) = DF107_1 n (DL107_1 n m) := rfl
theorem DL107_1_eq (n : Nat × Nat) (hn : n.2 = 1) : ∀ m, L107_1 n m = DL107_1 n m
  | 0 => by funext s0 v1 v7 v8; kernel_rfl
  | m + 1 => by
    have ih := DL107_1_eq n hn m
    funext s0 v1 v7 v8; refine (L107_1_eq n m s0 v1 v7 v8).trans ?_
    rw [DL107_1_succ]
    unfold DF107_1
    (try simp only [ih]) <;> first | with_reducible rfl | rfl
noncomputable def D107 (n : Nat × Nat) (s0 : List Int) (v1 : Int) : Option R107 :=
    DL107_1 n n.1 s0 v1 (s0.length : Int) 0
theorem S107_D (n : Nat × Nat) (hn : n.2 = 1) : S107 n = D107 n := by
  funext s0 v1; refine (S107_eq n s0 v1).trans ?_
  unfold D107
  (try simp only [DL107_1_eq n hn]) <;> first | with_reducible rfl | rfl
/-D 76 -/
noncomputable def DL76_3 (n : Nat × Nat) (f1 : ByteArray → Int → List Int → Option R76) (f2 : ByteArray → Int → Int → Bool → Int → List Int → Option R76) (word0 : ByteArray) (letters1 : Int) (left8 : Int) (found9 : Bool) (c10 : Int) (out7 : List Int) : Option R76 :=
    f2 word0 letters1 left8 found9 (wr .u8 (c10 + 1)) out7
theorem DL76_3_eq (n : Nat × Nat) (hn : n.2 = 1) (m1 m2 : Nat) : L76_3 n m1 m2 = DL76_3 n (L76_1 n m1) (L76_2 n m1 m2) := by
  funext word0 letters1 left8 found9 c10 out7; refine ((held_eq hn _).trans (L76_3_raw n m1 m2 word0 letters1 left8 found9 c10 out7)).trans ?_
  unfold DL76_3
  (try simp only [S105_D n hn, S106_D n hn, S107_D n hn]) <;> first | with_reducible rfl | rfl
noncomputable def DF76_2 (n : Nat × Nat) (f1 : ByteArray → Int → List Int → Option R76) (f2 : ByteArray → Int → Int → Bool → Int → List Int → Option R76) (word0 : ByteArray) (letters1 : Int) (left8 : Int) (found9 : Bool) (c10 : Int) (out7 : List Int) : Option R76 :=
 ((bif (decide (c10 < wr .u8 (wr .i64 (97 + letters1))) == true) then some (!found9)
 else some false)).bind fun b3' =>
 (bif b3' then (D107 n (strBytes word0) c10).bind fun r4' =>
 (bif decide (r4' < 0) then (bif decide (out7.length + [c10].length ≤ lim) then some (strNums (out7 ++ [c10]), 0)
 else none)
 else ((bif (decide (left8 > 0) == true) then (bif bounds (some (wr .i64 (r4' + 1))) none none word0.size then (D106 n (strCut (some (wr .i64 (r4' + 1))) none word0) letters1).bind fun r5' =>
 some ((r5'.length : Int) == (wr .i64 (left8 - 1)))
 else none)
 else some false)).bind fun b6' =>
 (bif b6' then (bif decide (out7.length + [c10].length ≤ lim) then (bif bounds (some (wr .i64 (r4' + 1))) none none word0.size then DL76_3 n f1 f2 (strCut (some (wr .i64 (r4' + 1))) none word0) letters1 left8 true c10 (out7 ++ [c10])
 else none)
 else none)
 else DL76_3 n f1 f2 word0 letters1 left8 found9 c10 out7))
 else f1 word0 letters1 out7)
noncomputable def DL76_2 (n : Nat × Nat) (f1 : ByteArray → Int → List Int → Option R76) (m : Nat) : ByteArray → Int → Int → Bool → Int → List Int → Option R76 := Nat.rec (motive := fun _ => ByteArray → Int → Int → Bool → Int → List Int → Option R76) (fun _ _ _ _ _ _ => none) (fun _ ih => DF76_2 n f1 ih) m
theorem DL76_2_succ (n : Nat × Nat) (f1 : ByteArray → Int → List Int → Option R76) (m : Nat) : DL76_2 n f1 (m + 1) = DF76_2 n f1 (DL76_2 n f1 m) := rfl
theorem DL76_2_eq (n : Nat × Nat) (hn : n.2 = 1) (m1 : Nat) : ∀ m, L76_2 n m1 m = DL76_2 n (L76_1 n m1) m
  | 0 => by funext word0 letters1 left8 found9 c10 out7; kernel_rfl
  | m + 1 => by
    have ih := DL76_2_eq n hn m1 m
    funext word0 letters1 left8 found9 c10 out7; refine (L76_2_eq n m1 m word0 letters1 left8 found9 c10 out7).trans ?_
    rw [DL76_2_succ]
    unfold DF76_2
    (try simp only [ih, DL76_3_eq n hn, S105_D n hn, S106_D n hn, S107_D n hn]) <;> first | with_reducible rfl | rfl
noncomputable def DF76_1 (n : Nat × Nat) (f1 : ByteArray → Int → List Int → Option R76) (word0 : ByteArray) (letters1 : Int) (out7 : List Int) : Option R76 :=
 (D106 n word0 letters1).bind fun r2' =>
    DL76_2 n f1 n.1 word0 letters1 (r2'.length : Int) false 97 out7
noncomputable def DL76_1 (n : Nat × Nat) (m : Nat) : ByteArray → Int → List Int → Option R76 := Nat.rec (motive := fun _ => ByteArray → Int → List Int → Option R76) (fun _ _ _ => none) (fun _ ih => DF76_1 n ih) m
theorem DL76_1_succ (n : Nat × Nat) (m : Nat) : DL76_1 n (m + 1) = DF76_1 n (DL76_1 n m) := rfl
theorem DL76_1_eq (n : Nat × Nat) (hn : n.2 = 1) : ∀ m, L76_1 n m = DL76_1 n m
  | 0 => by funext word0 letters1 out7; kernel_rfl
  | m + 1 => by
    have ih := DL76_1_eq n hn m
    funext word0 letters1 out7; refine (L76_1_eq n m word0 letters1 out7).trans ?_
    rw [DL76_1_succ]
    unfold DF76_1
    (try simp only [ih, DL76_3_eq n hn, DL76_2_eq n hn, S105_D n hn, S106_D n hn, S107_D n hn]) <;> first | with_reducible rfl | rfl
noncomputable def D76 (n : Nat × Nat) (word0 : ByteArray) (letters1 : Int) : Option R76 :=
 (D105 n word0 letters1).bind fun r1' =>
 (bif (r1' != 0) then some ((⟨#[]⟩ : ByteArray), r1')
 else DL76_1 n n.1 word0 letters1 [])
theorem S76_D (n : Nat × Nat) (hn : n.2 = 1) : S76 n = D76 n := by
  funext word0 letters1; refine (S76_eq n word0 letters1).trans ?_
  unfold D76
  (try simp only [DL76_3_eq n hn, DL76_2_eq n hn, DL76_1_eq n hn, S105_D n hn, S106_D n hn, S107_D n hn]) <;> first | with_reducible rfl | rfl
/-D 32 -/
noncomputable def DL32_2 (n : Nat × Nat) (f1 : ByteArray → ByteArray → Int → Option R32) (word0 : ByteArray) (part1 : ByteArray) (i5 : Int) : Option R32 :=
    f1 word0 part1 (wr .i64 (i5 + 1))
theorem DL32_2_eq (n : Nat × Nat) (hn : n.2 = 1) (m1 : Nat) : L32_2 n m1 = DL32_2 n (L32_1 n m1) := by
  funext word0 part1 i5; refine ((held_eq hn _).trans (L32_2_raw n m1 word0 part1 i5)).trans ?_
  unfold DL32_2
  first | with_reducible rfl | rfl
noncomputable def DF32_1 (n : Nat × Nat) (f1 : ByteArray → ByteArray → Int → Option R32) (word0 : ByteArray) (part1 : ByteArray) (i5 : Int) : Option R32 :=
 ((bif (decide (i5 < (word0.size : Int)) == true) then some (!strEq part1 (⟨#[]⟩ : ByteArray))
 else some false)).bind fun b1' =>
 (bif b1' then (idx (strBytes word0) i5).bind fun x2' =>
 (idx (strBytes part1) 0).bind fun x3' =>
 (bif (x2' == x3') then (bif bounds (some 1) none none part1.size then DL32_2 n f1 word0 (strCut (some 1) none part1) i5
 else none)
 else DL32_2 n f1 word0 part1 i5)
 else some (strEq part1 (⟨#[]⟩ : ByteArray)))
noncomputable def DL32_1 (n : Nat × Nat) (m : Nat) : ByteArray → ByteArray → Int → Option R32 := Nat.rec (motive := fun _ => ByteArray → ByteArray → Int → Option R32) (fun _ _ _ => none) (fun _ ih => DF32_1 n ih) m
theorem DL32_1_succ (n : Nat × Nat) (m : Nat) : DL32_1 n (m + 1) = DF32_1 n (DL32_1 n m) := rfl
theorem DL32_1_eq (n : Nat × Nat) (hn : n.2 = 1) : ∀ m, L32_1 n m = DL32_1 n m
  | 0 => by funext word0 part1 i5; kernel_rfl
  | m + 1 => by
    have ih := DL32_1_eq n hn m
    funext word0 part1 i5; refine (L32_1_eq n m word0 part1 i5).trans ?_
    rw [DL32_1_succ]
    unfold DF32_1
    (try simp only [ih, DL32_2_eq n hn]) <;> first | with_reducible rfl | rfl
noncomputable def D32 (n : Nat × Nat) (word0 : ByteArray) (part1 : ByteArray) : Option R32 :=
    DL32_1 n n.1 word0 part1 0
theorem S32_D (n : Nat × Nat) (hn : n.2 = 1) : S32 n = D32 n := by
  funext word0 part1; refine (S32_eq n word0 part1).trans ?_
  unfold D32
  (try simp only [DL32_2_eq n hn, DL32_1_eq n hn]) <;> first | with_reducible rfl | rfl
/-D 45 -/
noncomputable def D45 (n : Nat × Nat) : Option R45 :=
 (D75 n (⟨#[97, 98, 99, 97]⟩ : ByteArray) (⟨#[97]⟩ : ByteArray)).bind fun r1' =>
 (D76 n (⟨#[97, 98, 98, 97]⟩ : ByteArray) 2).bind fun r2' =>
 ((bif ((r1'.2 == 0) == true) then some (r2'.2 == 0)
 else some false)).bind fun b3' =>
 ((bif (b3' == true) then some (r1'.1 == 2)
 else some false)).bind fun b4' =>
 ((bif (b4' == true) then some (strEq r2'.1 (⟨#[97, 97, 97]⟩ : ByteArray))
 else some false)).bind fun b5' =>
 ((bif (b5' == true) then (D32 n (⟨#[100, 97, 121, 45, 98, 111, 111, 107]⟩ : ByteArray) (⟨#[121, 98, 107]⟩ : ByteArray)).bind fun r6' =>
 some r6'
 else some false)).bind fun b7' =>
 some b7'
theorem S45_D (n : Nat × Nat) (hn : n.2 = 1) : S45 n = D45 n := by
  refine (S45_eq n).trans ?_
  unfold D45
  (try simp only [S32_D n hn, S75_D n hn, S76_D n hn]) <;> first | with_reducible rfl | rfl
/-D 16 -/
noncomputable def D16 (n : Nat × Nat) : Option R16 :=
 (D44 n (3, [(0, 1), (1, 2)])).bind fun r1' =>
 ((bif ((r1'.2 == 0) == true) then (D14 n r1'.1 [0, 2]).bind fun r2' =>
 some r2'
 else some false)).bind fun b3' =>
 ((bif (b3' == true) then (D45 n).bind fun r4' =>
 some r4'
 else some false)).bind fun b5' =>
 some b5'
theorem S16_D (n : Nat × Nat) (hn : n.2 = 1) : S16 n = D16 n := by
  refine (S16_eq n).trans ?_
  unfold D16
  (try simp only [S14_D n hn, S44_D n hn, S45_D n hn]) <;> first | with_reducible rfl | rfl
/-D 83 -/
noncomputable def D83 (n : Nat × Nat) : Option R83 :=
 (D113 n (3, [(0, 1), (0, 2), (1, 2)])).bind fun r1' =>
 ((bif ((r1'.2 == 0) == true) then (D14 n r1'.1 [0, 1]).bind fun r2' =>
 some r2'
 else some false)).bind fun b3' =>
 ((bif (b3' == true) then (D16 n).bind fun r4' =>
 some r4'
 else some false)).bind fun b5' =>
 some b5'
theorem S83_D (n : Nat × Nat) (hn : n.2 = 1) : S83 n = D83 n := by
  refine (S83_eq n).trans ?_
  unfold D83
  (try simp only [S113_D n hn, S14_D n hn, S16_D n hn]) <;> first | with_reducible rfl | rfl
/-D 51 -/
noncomputable def D51 (n : Nat × Nat) : Option R51 :=
 (D17 n (2, [0, 1, 2, 0, 1])).bind fun r1' =>
 ((bif ((r1'.2 == 0) == true) then some (r1'.1 == 4)
 else some false)).bind fun b2' =>
 ((bif (b2' == true) then (D83 n).bind fun r3' =>
 some r3'
 else some false)).bind fun b4' =>
 some b4'
theorem S51_D (n : Nat × Nat) (hn : n.2 = 1) : S51 n = D51 n := by
  refine (S51_eq n).trans ?_
  unfold D51
  (try simp only [S17_D n hn, S83_D n hn]) <;> first | with_reducible rfl | rfl
/-D 20 -/
noncomputable def D20 (n : Nat × Nat) : Option R20 :=
 (D50 n [(3, 1), (1, 1), (2, 1)]).bind fun r1' =>
 ((bif ((r1'.2 == 0) == true) then (D14 n r1'.1 [0]).bind fun r2' =>
 some r2'
 else some false)).bind fun b3' =>
 ((bif (b3' == true) then (D51 n).bind fun r4' =>
 some r4'
 else some false)).bind fun b5' =>
 some b5'
theorem S20_D (n : Nat × Nat) (hn : n.2 = 1) : S20 n = D20 n := by
  refine (S20_eq n).trans ?_
  unfold D20
  (try simp only [S14_D n hn, S50_D n hn, S51_D n hn]) <;> first | with_reducible rfl | rfl
/-D 59 -/
noncomputable def D59 (n : Nat × Nat) : Option R59 :=
 (D24 n ([(1, 3), (1, 4), (1, 2)], 7, 0) 2).bind fun r1' =>
 ((bif ((r1'.2 == 0) == true) then some (r1'.1 == 6)
 else some false)).bind fun b2' =>
 ((bif (b2' == true) then (D20 n).bind fun r3' =>
 some r3'
 else some false)).bind fun b4' =>
 some b4'
theorem S59_D (n : Nat × Nat) (hn : n.2 = 1) : S59 n = D59 n := by
  refine (S59_eq n).trans ?_
  unfold D59
  (try simp only [S20_D n hn, S24_D n hn]) <;> first | with_reducible rfl | rfl
/-D 25 -/
noncomputable def D25 (n : Nat × Nat) : Option R25 :=
 (D58 n [1, 3, 4] 6).bind fun r1' =>
 ((bif ((r1'.2 == 0) == true) then (D14 n r1'.1 [0, 2, 0]).bind fun r2' =>
 some r2'
 else some false)).bind fun b3' =>
 ((bif (b3' == true) then (D59 n).bind fun r4' =>
 some r4'
 else some false)).bind fun b5' =>
 some b5'
theorem S25_D (n : Nat × Nat) (hn : n.2 = 1) : S25 n = D25 n := by
  refine (S25_eq n).trans ?_
  unfold D25
  (try simp only [S14_D n hn, S58_D n hn, S59_D n hn]) <;> first | with_reducible rfl | rfl
/-D 5 -/
noncomputable def DF5_1 (n : Nat × Nat) (f1 : Int → Int → Int → Int → Int → Int → (List (Int × Int)) → Option R5) (c5 : Int) (s6 : Int) (v24 : Int) (v25 : Int) (b7_1 : Int) (b7_2 : Int) (v500499999 : List (Int × Int)) : Option R5 :=
 (bif decide (v25 < v24) then (bif decide (v500499999.length + [(1, 1)].length ≤ lim) then f1 c5 s6 v24 (wr .i64 (v25 + 1)) b7_1 b7_2 (v500499999 ++ [(1, 1)])
 else none)
 else (D21 n [1, c5] s6).bind fun r1' =>
 (D23 n (v500499999, b7_1, b7_2)).bind fun r2' =>
 ((bif ((r1'.2 != 0) == false) then some (r2'.2 != 0)
 else some true)).bind fun b3' =>
 ((bif (b3' == false) then some ((r1'.1.length : Int) != 2)
 else some true)).bind fun b4' =>
 ((bif (b4' == false) then (bif inB 0 r1'.1.length then (idx r1'.1 0).bind fun x5' =>
 some (decide (x5' < 0))
 else none)
 else some true)).bind fun b6' =>
 ((bif (b6' == false) then (bif inB 0 r1'.1.length then (idx r1'.1 0).bind fun x7' =>
 some (decide (x7' ≥ c5))
 else none)
 else some true)).bind fun b8' =>
 (bif b8' then some false
 else (D24 n (v500499999, b7_1, b7_2) (r2'.1.length : Int)).bind fun r9' =>
 ((bif ((r9'.2 == 0) == true) then (bif inB 1 r1'.1.length then (idx r1'.1 1).bind fun x10' =>
 (bif inB 0 r1'.1.length then (idx r1'.1 0).bind fun x11' =>
 some ((r2'.1.length : Int) == (wr .i64 (x10' + (if x11' < 1 then x11' else 1))))
 else none)
 else none)
 else some false)).bind fun b12' =>
 ((bif (b12' == true) then some (decide (r9'.1 ≤ c5))
 else some false)).bind fun b13' =>
 ((bif (b13' == true) then (D25 n).bind fun r14' =>
 some r14'
 else some false)).bind fun b15' =>
 some b15'))
noncomputable def DL5_1 (n : Nat × Nat) (m : Nat) : Int → Int → Int → Int → Int → Int → (List (Int × Int)) → Option R5 := Nat.rec (motive := fun _ => Int → Int → Int → Int → Int → Int → (List (Int × Int)) → Option R5) (fun _ _ _ _ _ _ _ => none) (fun _ ih => DF5_1 n ih) m
theorem DL5_1_succ (n : Nat × Nat) (m : Nat) : DL5_1 n (m + 1) = DF5_1 n (DL5_1 n m) := rfl
theorem DL5_1_eq (n : Nat × Nat) (hn : n.2 = 1) : ∀ m, L5_1 n m = DL5_1 n m
  | 0 => by funext c5 s6 v24 v25 b7_1 b7_2 v500499999; kernel_rfl
  | m + 1 => by
    have ih := DL5_1_eq n hn m
    funext c5 s6 v24 v25 b7_1 b7_2 v500499999; refine (L5_1_eq n m c5 s6 v24 v25 b7_1 b7_2 v500499999).trans ?_
    rw [DL5_1_succ]
    unfold DF5_1
    (try simp only [ih, S21_D n hn, S23_D n hn, S24_D n hn, S25_D n hn]) <;> first | with_reducible rfl | rfl
noncomputable def D5 (n : Nat × Nat) (greatest0 : Int) (sum1 : Int) : Option R5 :=
 (bif 12 == 0 then none
 else (bif 12 == 0 then none
 else DL5_1 n n.1 (wr .i64 (2 + (Int.tmod (wr .i64 greatest0) 12))) (wr .i64 (1 + (Int.tmod (wr .i64 sum1) 12))) (wr .i64 (1 + (Int.tmod (wr .i64 sum1) 12))) 0 (wr .i64 (2 + (Int.tmod (wr .i64 greatest0) 12))) 0 []))
theorem S5_D (n : Nat × Nat) (hn : n.2 = 1) : S5 n = D5 n := by
  funext greatest0 sum1; refine (S5_eq n greatest0 sum1).trans ?_
  unfold D5
  (try simp only [DL5_1_eq n hn, S21_D n hn, S23_D n hn, S24_D n hn, S25_D n hn]) <;> first | with_reducible rfl | rfl
def M : Nat × Nat := (100000, 1)
noncomputable def yesT (o : Option Bool) : Bool := match o with | some b => b | none => false
theorem yesT_some {o : Option Bool} (h : yesT o = true) : o = some true := by
  cases o with
  | none => cases h
  | some b => exact congrArg some h
theorem by_u8 {n : Int} (h : Wf (.int .u8) n) : 0 ≤ n ∧ n ≤ 255 := by
  have h : (Lit.int .u8 n).wf = true := h
  simp only [Lit.wf, Bool.and_eq_true, decide_eq_true_eq] at h
  exact h
theorem tmod_small (k : Nat) (hk : 0 < k) {m : Int} (h : 0 ≤ m ∧ m ≤ 255) : ∃ a : Nat, a < k ∧ Int.tmod (wr .i64 m) (k : Int) = (a : Int) := by
  obtain ⟨x, rfl⟩ := Int.eq_ofNat_of_zero_le h.1
  have e : wr .i64 (x : Int) = (x : Int) := by
    show IntKind.i64.wrap _ = _
    rw [IntKind.wrap_i64]
    omega
  rw [e]
  exact ⟨x % k, Nat.mod_lt _ hk, (Int.ofNat_tmod x k).symm⟩
noncomputable def box5 (a b : Int) : Option R5 :=
  DL5_1 M M.1 (wr .i64 (2 + a)) (wr .i64 (1 + b)) (wr .i64 (1 + b)) 0 (wr .i64 (2 + a)) 0 []
theorem D5_box (m v : Int) : D5 M m v = box5 (Int.tmod (wr .i64 m) (12 : Nat)) (Int.tmod (wr .i64 v) (12 : Nat)) := rfl
theorem box_all : ((List.range 12).all fun a => (List.range 12).all fun b => yesT (box5 (a : Int) (b : Int))) = true := by kernel_rfl
theorem boxes_ok (m v : Int) (hm : 0 ≤ m ∧ m ≤ 255) (hv : 0 ≤ v ∧ v ≤ 255) : D5 M m v = some true := by
  obtain ⟨a, ha, e1⟩ := tmod_small 12 (by decide) hm
  obtain ⟨b, hb, e2⟩ := tmod_small 12 (by decide) hv
  rw [D5_box, e1, e2]
  exact yesT_some (List.all_eq_true.1 (List.all_eq_true.1 box_all a (List.mem_range.2 ha)) b (List.mem_range.2 hb))
end Go.Proofs.YtkfkbebinhkdlaaDoor
