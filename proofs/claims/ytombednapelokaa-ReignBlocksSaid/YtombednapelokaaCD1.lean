/- The functions, step by step: written by program -/
import Derived.Test.YtombednapelokaaViS
import Derived.Test.YtombednapelokaaProg
import Derived.KernelRfl
import Derived.WalkKit
import Derived.Test.YtombednapelokaaDel
import Derived.Test.YtombednapelokaaGro
import Derived.Test.YtombednapelokaaCG3
set_option linter.unusedVariables false
set_option linter.unusedSimpArgs false
set_option maxRecDepth 100000
namespace Go.Proofs.Ytombednapelokaa
open Go.Vi
variable (n : Nat × Nat)
/-D 60 -/
abbrev YCD11 := List Int → Int → LP → Option R60
noncomputable def DF60_1 (n : Nat × Nat) (f1 : YCD11) (l0 : List Int) (i4 : Int) (out3 : LP) : Option R60 :=
    (bif decide (wr .i64 (i4 + 1) < (l0.length : Int)) then (idx l0 i4).bind fun x1' =>
      (idx l0 (wr .i64 (i4 + 1))).bind fun x2' =>
      (bif decide (out3.length + [(x1',x2')].length ≤ lim) then f1 l0 (wr .i64 (i4 + 2)) (out3 ++ [(x1',x2')])
      else none)
    else some out3)
noncomputable def DL60_1 (m : Nat) : YCD11 := Nat.rec (motive := fun _ => YCD11) (fun _ _ _ => none) (fun _ ih => DF60_1 n ih) m
theorem DL60_1_succ (m : Nat) : DL60_1 n (m + 1) = DF60_1 n (DL60_1 n m) := rfl
theorem DL60_1_eq (n : Nat × Nat) (hn : n.2 = 1) : ∀ m,L60_1 n m = DL60_1 n m
  | 0 => by funext l0 i4 out3; kernel_rfl
  | m + 1 => by
    have ih := DL60_1_eq n hn m
    funext l0 i4 out3; refine (L60_1_eq n m l0 i4 out3).trans ?_
    rw [DL60_1_succ]
    unfold DF60_1
    (try simp only [ih]) <;> first | with_reducible rfl | rfl
noncomputable def D60 (l0 : List Int) : Option R60 :=
    DL60_1 n n.1 l0 0 []
theorem S60_D (hn : n.2 = 1) : S60 n = D60 n := by
  funext l0; refine (S60_eq n l0).trans ?_
  unfold D60
  (try simp only [DL60_1_eq n hn]) <;> first | with_reducible rfl | rfl
/-D 56 -/
noncomputable def D56 : Option R56 :=
    (D60 n [5,1,1,3,4,2,2,2]).bind fun r1' =>
    some r1'
theorem S56_D (hn : n.2 = 1) : S56 n = D56 n := by
  refine (S56_eq n).trans ?_
  unfold D56
  (try simp only [S60_D n hn]) <;> first | with_reducible rfl | rfl
/-D 24 -/
abbrev YCD12 := LP → Int → Int → Option R24
noncomputable def DF24_1 (n : Nat × Nat) (f1 : YCD12) (v13 : LP) (v14 : Int) (v15 : Int) : Option R24 :=
    (bif decide (v15 < v14) then (idx v13 v15).bind fun x1' =>
      ((bif (decide (x1'.1 < 0) == false) then some (decide (x1'.1 > 100))
        else some true)).bind fun b2' =>
      ((bif (b2' == false) then some (decide (x1'.2 < 1))
        else some true)).bind fun b3' =>
      ((bif (b3' == false) then some (decide (x1'.2 > 9))
        else some true)).bind fun b4' =>
      (bif b4' then some 1
      else f1 v13 v14 (wr .i64 (v15 + 1)))
    else some 0)
noncomputable def DL24_1 (m : Nat) : YCD12 := Nat.rec (motive := fun _ => YCD12) (fun _ _ _ => none) (fun _ ih => DF24_1 n ih) m
theorem DL24_1_succ (m : Nat) : DL24_1 n (m + 1) = DF24_1 n (DL24_1 n m) := rfl
theorem DL24_1_eq (n : Nat × Nat) (hn : n.2 = 1) : ∀ m,L24_1 n m = DL24_1 n m
  | 0 => by funext v13 v14 v15; kernel_rfl
  | m + 1 => by
    have ih := DL24_1_eq n hn m
    funext v13 v14 v15; refine (L24_1_eq n m v13 v14 v15).trans ?_
    rw [DL24_1_succ]
    unfold DF24_1
    (try simp only [ih]) <;> first | with_reducible rfl | rfl
noncomputable def D24 (l0 : LP) : Option R24 :=
    (bif ((l0.length : Int) == 0) then some 4
    else (bif decide ((l0.length : Int) > 8) then some 3
      else DL24_1 n n.1 l0 (l0.length : Int) 0))
theorem S24_D (hn : n.2 = 1) : S24 n = D24 n := by
  funext l0; refine (S24_eq n l0).trans ?_
  unfold D24
  (try simp only [DL24_1_eq n hn]) <;> first | with_reducible rfl | rfl
/-D 105 -/
noncomputable def DF105_1 (n : Nat × Nat) (f1 : Int → Int → Option R105) (a0 : Int) (b1 : Int) : Option R105 :=
    (bif (b1 != 0) then (bif b1 == 0 then none
      else f1 b1 (Int.tmod a0 b1))
    else some a0)
noncomputable def DL105_1 (m : Nat) : Int → Int → Option R105 := Nat.rec (motive := fun _ => Int → Int → Option R105) (fun _ _ => none) (fun _ ih => DF105_1 n ih) m
theorem DL105_1_succ (m : Nat) : DL105_1 n (m + 1) = DF105_1 n (DL105_1 n m) := rfl
theorem DL105_1_eq (n : Nat × Nat) (hn : n.2 = 1) : ∀ m,L105_1 n m = DL105_1 n m
  | 0 => by funext a0 b1; kernel_rfl
  | m + 1 => by
    have ih := DL105_1_eq n hn m
    funext a0 b1; refine (L105_1_eq n m a0 b1).trans ?_
    rw [DL105_1_succ]
    unfold DF105_1
    (try simp only [ih]) <;> first | with_reducible rfl | rfl
noncomputable def D105 (a0 : Int) (b1 : Int) : Option R105 :=
    DL105_1 n n.1 a0 b1
theorem S105_D (hn : n.2 = 1) : S105 n = D105 n := by
  funext a0 b1; refine (S105_eq n a0 b1).trans ?_
  unfold D105
  (try simp only [DL105_1_eq n hn]) <;> first | with_reducible rfl | rfl
/-D 98 -/
noncomputable def D98 (num0 : Int) (den1 : Int) : Option R98 :=
    (D105 n (if (wr .i64 (0 - num0)) > num0 then (wr .i64 (0 - num0)) else num0) den1).bind fun r1' =>
    (bif r1' == 0 then none
    else (bif r1' == 0 then none
      else some (wr .i64 (Int.tdiv num0 r1'),wr .i64 (Int.tdiv den1 r1'))))
theorem S98_D (hn : n.2 = 1) : S98 n = D98 n := by
  funext num0 den1; refine (S98_eq n num0 den1).trans ?_
  unfold D98
  (try simp only [S105_D n hn]) <;> first | with_reducible rfl | rfl
/-D 70 -/
abbrev YCD13 := Int → Int → LP → Int → Int → Int → Int → Option R70
noncomputable def DF70_1 (f1 : YCD13) (sum3 : Int) (trust4 : Int) (v7 : LP) (v8 : Int) (v9 : Int) (v2_0 : Int) (v2_1 : Int) : Option R70 :=
    (bif decide (v9 < v8) then (idx v7 v9).bind fun x1' =>
      f1 (wr .i64 (sum3 + (wr .i64 (x1'.1 * x1'.2)))) (wr .i64 (trust4 + x1'.2)) v7 v8 (wr .i64 (v9 + 1)) v2_0 v2_1
    else (D98 n sum3 trust4).bind fun r2' =>
      some r2')
noncomputable def DL70_1 (m : Nat) : YCD13 := Nat.rec (motive := fun _ => YCD13) (fun _ _ _ _ _ _ _ => none) (fun _ ih => DF70_1 n ih) m
theorem DL70_1_succ (m : Nat) : DL70_1 n (m + 1) = DF70_1 n (DL70_1 n m) := rfl
theorem DL70_1_eq (n : Nat × Nat) (hn : n.2 = 1) : ∀ m,L70_1 n m = DL70_1 n m
  | 0 => by funext sum3 trust4 v7 v8 v9 v2_0 v2_1; kernel_rfl
  | m + 1 => by
    have ih := DL70_1_eq n hn m
    funext sum3 trust4 v7 v8 v9 v2_0 v2_1; refine (L70_1_eq n m sum3 trust4 v7 v8 v9 v2_0 v2_1).trans ?_
    rw [DL70_1_succ]
    unfold DF70_1
    (try simp only [ih,S98_D n hn]) <;> first | with_reducible rfl | rfl
noncomputable def D70 (l0 : LP) : Option R70 :=
    DL70_1 n n.1 0 0 l0 (l0.length : Int) 0 0 0
theorem S70_D (hn : n.2 = 1) : S70 n = D70 n := by
  funext l0; refine (S70_eq n l0).trans ?_
  unfold D70
  (try simp only [DL70_1_eq n hn,S98_D n hn]) <;> first | with_reducible rfl | rfl
/-D 88 -/
noncomputable def D88 (n : Nat × Nat) (a0 : Int × Int) (b1 : Int × Int) : Option R88 :=
    some (wr .i64 ((wr .i64 (a0.1 * b1.2)) - (wr .i64 (b1.1 * a0.2))))
theorem S88_D (hn : n.2 = 1) : S88 n = D88 n := by
  funext a0 b1; refine (S88_eq n a0 b1).trans ?_
  unfold D88
  first | with_reducible rfl | rfl
/-D 104io1 -/
abbrev YCD14 := Int → Int → (List (Int × Int × Int × Int)) → Option R104io1
noncomputable def DF104io1_1 (n : Nat × Nat) (f1 : YCD14) (i2 : Int) (j3 : Int) (v1000000000 : List (Int × Int × Int × Int)) : Option R104io1 :=
    (bif decide (i2 < j3) then (bif inB j3 v1000000000.length then (idx v1000000000 j3).bind fun x1' =>
        (bif inB i2 v1000000000.length then (idx v1000000000 i2).bind fun x2' =>
          (bif inB i2 v1000000000.length then (idx v1000000000 i2).bind fun x3' =>
            (bif inB j3 (v1000000000.set (Int.toNat i2) x1').length then (idx (v1000000000.set (Int.toNat i2) x1') j3).bind fun x4' =>
              f1 (wr .i64 (i2 + 1)) (wr .i64 (j3 - 1)) ((v1000000000.set (Int.toNat i2) x1').set (Int.toNat j3) x2')
            else none)
          else none)
        else none)
      else none)
    else some ((),v1000000000,()))
noncomputable def DL104io1_1 (m : Nat) : YCD14 := Nat.rec (motive := fun _ => YCD14) (fun _ _ _ => none) (fun _ ih => DF104io1_1 n ih) m
theorem DL104io1_1_succ (m : Nat) : DL104io1_1 n (m + 1) = DF104io1_1 n (DL104io1_1 n m) := rfl
theorem DL104io1_1_eq (n : Nat × Nat) (hn : n.2 = 1) : ∀ m,L104io1_1 n m = DL104io1_1 n m
  | 0 => by funext i2 j3 v1000000000; kernel_rfl
  | m + 1 => by
    have ih := DL104io1_1_eq n hn m
    funext i2 j3 v1000000000; refine (L104io1_1_eq n m i2 j3 v1000000000).trans ?_
    rw [DL104io1_1_succ]
    unfold DF104io1_1
    (try simp only [ih]) <;> first | with_reducible rfl | rfl
noncomputable def D104io1 (s0 : List (Int × Int × Int × Int)) : Option R104io1 :=
    DL104io1_1 n n.1 0 (wr .i64 ((s0.length : Int) - 1)) s0
theorem S104io1_D (hn : n.2 = 1) : S104io1 n = D104io1 n := by
  funext s0; refine (S104io1_eq n s0).trans ?_
  unfold D104io1
  (try simp only [DL104io1_1_eq n hn]) <;> first | with_reducible rfl | rfl
/-D 79 -/
abbrev YCD15 := LP → Int → Bool → (List (Int × Int × Int × Int × Int)) → Int → Int → Int → Int → Int → Int → Int → Int → Option R79
abbrev YCD16 := LP → Int → (List (Int × Int × Int × Int × Int)) → Option R79
noncomputable def DF79_2 (f1 : YCD16) (f2 : YCD15) (l0 : LP) (v4 : Int) (is7 : Bool) (known3 : List (Int × Int × Int × Int × Int)) (now5_0 : Int) (now5_1 : Int) (now5_2 : Int) (now5_3 : Int) (before6_0 : Int) (before6_1 : Int) (before6_2 : Int) (before6_3 : Int) : Option R79 :=
    ((bif (is7 == true) then (D88 n (before6_2,before6_3) (now5_2,now5_3)).bind fun r2' =>
        some (decide (r2' ≥ 0))
      else some false)).bind fun b3' =>
    (bif b3' then (bif bounds (some before6_0) (some v4) (some v4) l0.length then (D70 n ((l0.take (Int.toNat v4)).drop (Int.toNat before6_0))).bind fun r4' =>
        f2 l0 v4 ((alook (known3.eraseP (fun p => p.1 == now5_0)) before6_0).isSome) (known3.eraseP (fun p => p.1 == now5_0)) before6_0 v4 r4'.1 r4'.2 (((alook (known3.eraseP (fun p => p.1 == now5_0)) before6_0).getD (0,0,0,0)).1) ((((alook (known3.eraseP (fun p => p.1 == now5_0)) before6_0).getD (0,0,0,0)).2).1) (((((alook (known3.eraseP (fun p => p.1 == now5_0)) before6_0).getD (0,0,0,0)).2).2).1) (((((alook (known3.eraseP (fun p => p.1 == now5_0)) before6_0).getD (0,0,0,0)).2).2).2)
      else none)
    else f1 l0 (wr .i64 (v4 + 1)) (aset known3 v4 (now5_0,now5_1,now5_2,now5_3)))
noncomputable def DL79_2 (f1 : YCD16) (m : Nat) : YCD15 := Nat.rec (motive := fun _ => YCD15) (fun _ _ _ _ _ _ _ _ _ _ _ _ => none) (fun _ ih => DF79_2 n f1 ih) m
theorem DL79_2_succ (f1 : YCD16) (m : Nat) : DL79_2 n f1 (m + 1) = DF79_2 n f1 (DL79_2 n f1 m) := rfl
theorem DL79_2_eq (n : Nat × Nat) (hn : n.2 = 1) (m1 : Nat) : ∀ m,L79_2 n m1 m = DL79_2 n (L79_1 n m1) m
  | 0 => by funext l0 v4 is7 known3 now5_0 now5_1 now5_2 now5_3 before6_0 before6_1 before6_2 before6_3; kernel_rfl
  | m + 1 => by
    have ih := DL79_2_eq n hn m1 m
    funext l0 v4 is7 known3 now5_0 now5_1 now5_2 now5_3 before6_0 before6_1 before6_2 before6_3; refine (L79_2_eq n m1 m l0 v4 is7 known3 now5_0 now5_1 now5_2 now5_3 before6_0 before6_1 before6_2 before6_3).trans ?_
    rw [DL79_2_succ]
    unfold DF79_2
    (try simp only [ih,S70_D n hn,S88_D n hn,S104io1_D n hn]) <;> first | with_reducible rfl | rfl
abbrev YCD17 := Int → (List (Int × Int × Int × Int × Int)) → (List (Int × Int × Int × Int)) → Option R79
noncomputable def DF79_3 (f1 : YCD17) (v9 : Int) (known3 : List (Int × Int × Int × Int × Int)) (out8 : List (Int × Int × Int × Int)) : Option R79 :=
    (bif decide (v9 > 0) then (bif decide (out8.length + [(((alook known3 v9).getD (0,0,0,0)).1,(((alook known3 v9).getD (0,0,0,0)).2).1,(((alook known3 v9).getD (0,0,0,0)).2).2)].length ≤ lim) then f1 (((alook known3 v9).getD (0,0,0,0)).1) known3 (out8 ++ [(((alook known3 v9).getD (0,0,0,0)).1,(((alook known3 v9).getD (0,0,0,0)).2).1,(((alook known3 v9).getD (0,0,0,0)).2).2)])
      else none)
    else (D104io1 n out8).bind fun r5' =>
      (bif Nat.beq r5'.2.1.length out8.length then some r5'.2.1
      else none))
noncomputable def DL79_3 (m : Nat) : YCD17 := Nat.rec (motive := fun _ => YCD17) (fun _ _ _ => none) (fun _ ih => DF79_3 n ih) m
theorem DL79_3_succ (m : Nat) : DL79_3 n (m + 1) = DF79_3 n (DL79_3 n m) := rfl
theorem DL79_3_eq (n : Nat × Nat) (hn : n.2 = 1) : ∀ m,L79_3 n m = DL79_3 n m
  | 0 => by funext v9 known3 out8; kernel_rfl
  | m + 1 => by
    have ih := DL79_3_eq n hn m
    funext v9 known3 out8; refine (L79_3_eq n m v9 known3 out8).trans ?_
    rw [DL79_3_succ]
    unfold DF79_3
    (try simp only [ih,DL79_2_eq n hn,S70_D n hn,S88_D n hn,S104io1_D n hn]) <;> first | with_reducible rfl | rfl
noncomputable def DF79_1 (f1 : YCD16) (l0 : LP) (v4 : Int) (known3 : List (Int × Int × Int × Int × Int)) : Option R79 :=
    (bif decide (v4 ≤ (l0.length : Int)) then (bif bounds (some (wr .i64 (v4 - 1))) (some v4) (some v4) l0.length then (D70 n ((l0.take (Int.toNat v4)).drop (Int.toNat (wr .i64 (v4 - 1))))).bind fun r1' =>
        DL79_2 n f1 n.1 l0 v4 ((alook known3 (wr .i64 (v4 - 1))).isSome) known3 (wr .i64 (v4 - 1)) v4 r1'.1 r1'.2 (((alook known3 (wr .i64 (v4 - 1))).getD (0,0,0,0)).1) ((((alook known3 (wr .i64 (v4 - 1))).getD (0,0,0,0)).2).1) (((((alook known3 (wr .i64 (v4 - 1))).getD (0,0,0,0)).2).2).1) (((((alook known3 (wr .i64 (v4 - 1))).getD (0,0,0,0)).2).2).2)
      else none)
    else DL79_3 n n.1 (l0.length : Int) known3 [])
noncomputable def DL79_1 (m : Nat) : YCD16 := Nat.rec (motive := fun _ => YCD16) (fun _ _ _ => none) (fun _ ih => DF79_1 n ih) m
theorem DL79_1_succ (m : Nat) : DL79_1 n (m + 1) = DF79_1 n (DL79_1 n m) := rfl
theorem DL79_1_eq (n : Nat × Nat) (hn : n.2 = 1) : ∀ m,L79_1 n m = DL79_1 n m
  | 0 => by funext l0 v4 known3; kernel_rfl
  | m + 1 => by
    have ih := DL79_1_eq n hn m
    funext l0 v4 known3; refine (L79_1_eq n m l0 v4 known3).trans ?_
    rw [DL79_1_succ]
    unfold DF79_1
    (try simp only [ih,DL79_2_eq n hn,DL79_3_eq n hn,S70_D n hn,S88_D n hn,S104io1_D n hn]) <;> first | with_reducible rfl | rfl
noncomputable def D79 (l0 : LP) : Option R79 :=
    DL79_1 n n.1 l0 1 []
theorem S79_D (hn : n.2 = 1) : S79 n = D79 n := by
  funext l0; refine (S79_eq n l0).trans ?_
  unfold D79
  (try simp only [DL79_2_eq n hn,DL79_3_eq n hn,DL79_1_eq n hn,S70_D n hn,S88_D n hn,S104io1_D n hn]) <;> first | with_reducible rfl | rfl
/-D 77 -/
abbrev YCD18 := Int → Int → Int → Int → LP → Int → Int → Int → Int → (List (Int × Int × Int × Int)) → Option R77
abbrev YCD19 := Int → Int → LP → (List (Int × Int × Int × Int)) → Option R77
noncomputable def DF77_2 (n : Nat × Nat) (f1 : YCD19) (f2 : YCD18) (v8 : Int) (v9 : Int) (v17 : Int) (v18 : Int) (out3 : LP) (b5_0 : Int) (b5_1 : Int) (b5_2 : Int) (b5_3 : Int) (v7 : List (Int × Int × Int × Int)) : Option R77 :=
    (bif decide (v18 < v17) then (bif decide (out3.length + [(b5_2,b5_3)].length ≤ lim) then f2 v8 v9 v17 (wr .i64 (v18 + 1)) (out3 ++ [(b5_2,b5_3)]) b5_0 b5_1 b5_2 b5_3 v7
      else none)
    else f1 v8 (wr .i64 (v9 + 1)) out3 v7)
noncomputable def DL77_2 (f1 : YCD19) (m : Nat) : YCD18 := Nat.rec (motive := fun _ => YCD18) (fun _ _ _ _ _ _ _ _ _ _ => none) (fun _ ih => DF77_2 n f1 ih) m
theorem DL77_2_succ (f1 : YCD19) (m : Nat) : DL77_2 n f1 (m + 1) = DF77_2 n f1 (DL77_2 n f1 m) := rfl
theorem DL77_2_eq (n : Nat × Nat) (hn : n.2 = 1) (m1 : Nat) : ∀ m,L77_2 n m1 m = DL77_2 n (L77_1 n m1) m
  | 0 => by funext v8 v9 v17 v18 out3 b5_0 b5_1 b5_2 b5_3 v7; kernel_rfl
  | m + 1 => by
    have ih := DL77_2_eq n hn m1 m
    funext v8 v9 v17 v18 out3 b5_0 b5_1 b5_2 b5_3 v7; refine (L77_2_eq n m1 m v8 v9 v17 v18 out3 b5_0 b5_1 b5_2 b5_3 v7).trans ?_
    rw [DL77_2_succ]
    unfold DF77_2
    (try simp only [ih,S79_D n hn]) <;> first | with_reducible rfl | rfl
noncomputable def DF77_1 (f1 : YCD19) (v8 : Int) (v9 : Int) (out3 : LP) (v7 : List (Int × Int × Int × Int)) : Option R77 :=
    (bif decide (v9 < v8) then (bif inB v9 v7.length then (idx v7 v9).bind fun x2' =>
        DL77_2 n f1 n.1 v8 v9 (wr .i64 (x2'.2.1 - x2'.1)) 0 out3 x2'.1 x2'.2.1 x2'.2.2.1 x2'.2.2.2 v7
      else none)
    else some out3)
noncomputable def DL77_1 (m : Nat) : YCD19 := Nat.rec (motive := fun _ => YCD19) (fun _ _ _ _ => none) (fun _ ih => DF77_1 n ih) m
theorem DL77_1_succ (m : Nat) : DL77_1 n (m + 1) = DF77_1 n (DL77_1 n m) := rfl
theorem DL77_1_eq (n : Nat × Nat) (hn : n.2 = 1) : ∀ m,L77_1 n m = DL77_1 n m
  | 0 => by funext v8 v9 out3 v7; kernel_rfl
  | m + 1 => by
    have ih := DL77_1_eq n hn m
    funext v8 v9 out3 v7; refine (L77_1_eq n m v8 v9 out3 v7).trans ?_
    rw [DL77_1_succ]
    unfold DF77_1
    (try simp only [ih,DL77_2_eq n hn,S79_D n hn]) <;> first | with_reducible rfl | rfl
noncomputable def D77 (l0 : LP) : Option R77 :=
    (D79 n l0).bind fun r1' =>
    DL77_1 n n.1 (r1'.length : Int) 0 [] r1'
theorem S77_D (hn : n.2 = 1) : S77 n = D77 n := by
  funext l0; refine (S77_eq n l0).trans ?_
  unfold D77
  (try simp only [DL77_2_eq n hn,DL77_1_eq n hn,S79_D n hn]) <;> first | with_reducible rfl | rfl
/-D 30 -/
noncomputable def D30 (l0 : LP) : Option R30 :=
    (D24 n l0).bind fun r1' =>
    (bif (r1' != 0) then some ([],r1')
    else (D77 n l0).bind fun r2' =>
      some (r2',0))
theorem S30_D (hn : n.2 = 1) : S30 n = D30 n := by
  funext l0; refine (S30_eq n l0).trans ?_
  unfold D30
  (try simp only [S24_D n hn,S77_D n hn]) <;> first | with_reducible rfl | rfl
/-D 32 -/
noncomputable def D32 (l0 : LP) : Option R32 :=
    (D24 n l0).bind fun r1' =>
    (bif (r1' != 0) then some ([],r1')
    else (D79 n l0).bind fun r2' =>
      some (r2',0))
theorem S32_D (hn : n.2 = 1) : S32 n = D32 n := by
  funext l0; refine (S32_eq n l0).trans ?_
  unfold D32
  (try simp only [S24_D n hn,S79_D n hn]) <;> first | with_reducible rfl | rfl
/-D 54 -/
noncomputable def D54 : Option R54 :=
    (D60 n [3,1,1,1,2,1]).bind fun r1' =>
    some r1'
theorem S54_D (hn : n.2 = 1) : S54 n = D54 n := by
  refine (S54_eq n).trans ?_
  unfold D54
  (try simp only [S60_D n hn]) <;> first | with_reducible rfl | rfl
/-D 80 -/
noncomputable def D80 (f0 : Int × Int) (num1 : Int) (den2 : Int) : Option R80 :=
    (D105 n f0.2 den2).bind fun r1' =>
    (bif r1' == 0 then none
    else (bif r1' == 0 then none
      else (bif r1' == 0 then none
        else (D98 n (wr .i64 ((wr .i64 (f0.1 * (wr .i64 (Int.tdiv den2 r1')))) + (wr .i64 (num1 * (wr .i64 (Int.tdiv f0.2 r1')))))) (wr .i64 ((wr .i64 (Int.tdiv f0.2 r1')) * den2))).bind fun r2' =>
          some r2')))
theorem S80_D (hn : n.2 = 1) : S80 n = D80 n := by
  funext f0 num1 den2; refine (S80_eq n f0 num1 den2).trans ?_
  unfold D80
  (try simp only [S105_D n hn,S98_D n hn]) <;> first | with_reducible rfl | rfl
/-D 35 -/
abbrev YCD110 := LP → Int → Int → Int → Int → LP → Int → Int → Int → Int → Int → Int → (List (Int × Int × Int × Int)) → Option R35
abbrev YCD111 := LP → Int → Int → Int → Int → Int → Int → (List (Int × Int × Int × Int)) → Option R35
noncomputable def DF35_2 (f1 : YCD111) (f2 : YCD110) (l0 : LP) (sum8 : Int) (trust9 : Int) (v21 : Int) (v22 : Int) (v33 : LP) (v34 : Int) (v35 : Int) (v2_0 : Int) (v2_1 : Int) (out5_0 : Int) (out5_1 : Int) (v20 : List (Int × Int × Int × Int)) : Option R35 :=
    (bif decide (v35 < v34) then (idx v33 v35).bind fun x4' =>
      f2 l0 (wr .i64 (sum8 + (wr .i64 (x4'.1 * x4'.2)))) (wr .i64 (trust9 + x4'.2)) v21 v22 v33 v34 (wr .i64 (v35 + 1)) v2_0 v2_1 (wr .i64 (out5_0 + (wr .i64 ((wr .i64 ((wr .i64 (x4'.2 * x4'.1)) * x4'.1)) * out5_1)))) out5_1 v20
    else (D80 n (out5_0,out5_1) (wr .i64 ((wr .i64 (0 - sum8)) * sum8)) trust9).bind fun r5' =>
      f1 l0 v21 (wr .i64 (v22 + 1)) v2_0 v2_1 r5'.1 r5'.2 v20)
noncomputable def DL35_2 (f1 : YCD111) (m : Nat) : YCD110 := Nat.rec (motive := fun _ => YCD110) (fun _ _ _ _ _ _ _ _ _ _ _ _ _ => none) (fun _ ih => DF35_2 n f1 ih) m
theorem DL35_2_succ (f1 : YCD111) (m : Nat) : DL35_2 n f1 (m + 1) = DF35_2 n f1 (DL35_2 n f1 m) := rfl
theorem DL35_2_eq (n : Nat × Nat) (hn : n.2 = 1) (m1 : Nat) : ∀ m,L35_2 n m1 m = DL35_2 n (L35_1 n m1) m
  | 0 => by funext l0 sum8 trust9 v21 v22 v33 v34 v35 v2_0 v2_1 out5_0 out5_1 v20; kernel_rfl
  | m + 1 => by
    have ih := DL35_2_eq n hn m1 m
    funext l0 sum8 trust9 v21 v22 v33 v34 v35 v2_0 v2_1 out5_0 out5_1 v20; refine (L35_2_eq n m1 m l0 sum8 trust9 v21 v22 v33 v34 v35 v2_0 v2_1 out5_0 out5_1 v20).trans ?_
    rw [DL35_2_succ]
    unfold DF35_2
    (try simp only [ih,S24_D n hn,S79_D n hn,S80_D n hn]) <;> first | with_reducible rfl | rfl
noncomputable def DF35_1 (f1 : YCD111) (l0 : LP) (v21 : Int) (v22 : Int) (v2_0 : Int) (v2_1 : Int) (out5_0 : Int) (out5_1 : Int) (v20 : List (Int × Int × Int × Int)) : Option R35 :=
    (bif decide (v22 < v21) then (bif inB v22 v20.length then (idx v20 v22).bind fun x3' =>
        (bif bounds (some x3'.1) (some x3'.2.1) (some x3'.2.1) l0.length then DL35_2 n f1 n.1 l0 0 0 v21 v22 ((l0.take (Int.toNat x3'.2.1)).drop (Int.toNat x3'.1)) (((l0.take (Int.toNat x3'.2.1)).drop (Int.toNat x3'.1)).length : Int) 0 v2_0 v2_1 out5_0 out5_1 v20
        else none)
      else none)
    else some ((out5_0,out5_1),0))
noncomputable def DL35_1 (m : Nat) : YCD111 := Nat.rec (motive := fun _ => YCD111) (fun _ _ _ _ _ _ _ _ => none) (fun _ ih => DF35_1 n ih) m
theorem DL35_1_succ (m : Nat) : DL35_1 n (m + 1) = DF35_1 n (DL35_1 n m) := rfl
theorem DL35_1_eq (n : Nat × Nat) (hn : n.2 = 1) : ∀ m,L35_1 n m = DL35_1 n m
  | 0 => by funext l0 v21 v22 v2_0 v2_1 out5_0 out5_1 v20; kernel_rfl
  | m + 1 => by
    have ih := DL35_1_eq n hn m
    funext l0 v21 v22 v2_0 v2_1 out5_0 out5_1 v20; refine (L35_1_eq n m l0 v21 v22 v2_0 v2_1 out5_0 out5_1 v20).trans ?_
    rw [DL35_1_succ]
    unfold DF35_1
    (try simp only [ih,DL35_2_eq n hn,S24_D n hn,S79_D n hn,S80_D n hn]) <;> first | with_reducible rfl | rfl
noncomputable def D35 (l0 : LP) : Option R35 :=
    (D24 n l0).bind fun r1' =>
    (bif (r1' != 0) then some ((0,0),r1')
    else (D79 n l0).bind fun r2' =>
      DL35_1 n n.1 l0 (r2'.length : Int) 0 0 0 0 1 r2')
theorem S35_D (hn : n.2 = 1) : S35 n = D35 n := by
  funext l0; refine (S35_eq n l0).trans ?_
  unfold D35
  (try simp only [DL35_2_eq n hn,DL35_1_eq n hn,S24_D n hn,S79_D n hn,S80_D n hn]) <;> first | with_reducible rfl | rfl
/-D 20 -/
abbrev YCD112 := LP → Int → Int → Option R20
noncomputable def DF20_1 (n : Nat × Nat) (f1 : YCD112) (l0 : LP) (v13 : Int) (v14 : Int) : Option R20 :=
    (bif decide (v14 < v13) then (idx l0 v14).bind fun x2' =>
      (idx l0 (wr .i64 (v14 + 1))).bind fun x3' =>
      (bif decide (x2'.1 > x3'.1) then some (v14,0)
      else f1 l0 v13 (wr .i64 (v14 + 1)))
    else some (0,13))
noncomputable def DL20_1 (m : Nat) : YCD112 := Nat.rec (motive := fun _ => YCD112) (fun _ _ _ => none) (fun _ ih => DF20_1 n ih) m
theorem DL20_1_succ (m : Nat) : DL20_1 n (m + 1) = DF20_1 n (DL20_1 n m) := rfl
theorem DL20_1_eq (n : Nat × Nat) (hn : n.2 = 1) : ∀ m,L20_1 n m = DL20_1 n m
  | 0 => by funext l0 v13 v14; kernel_rfl
  | m + 1 => by
    have ih := DL20_1_eq n hn m
    funext l0 v13 v14; refine (L20_1_eq n m l0 v13 v14).trans ?_
    rw [DL20_1_succ]
    unfold DF20_1
    (try simp only [ih,S24_D n hn]) <;> first | with_reducible rfl | rfl
noncomputable def D20 (l0 : LP) : Option R20 :=
    (D24 n l0).bind fun r1' =>
    (bif (r1' != 0) then some (0,r1')
    else DL20_1 n n.1 l0 (wr .i64 ((l0.length : Int) - 1)) 0)
theorem S20_D (hn : n.2 = 1) : S20 n = D20 n := by
  funext l0; refine (S20_eq n l0).trans ?_
  unfold D20
  (try simp only [DL20_1_eq n hn,S24_D n hn]) <;> first | with_reducible rfl | rfl
/-D 22 -/
noncomputable def D22 (l0 : LP) (begin1 : Int) (v2 : Int) : Option R22 :=
    (D24 n l0).bind fun r1' =>
    (bif (r1' != 0) then some ((0,0),r1')
    else ((bif (decide ((if v2 < begin1 then v2 else begin1) < 0) == false) then some (decide ((if v2 > begin1 then v2 else begin1) > (l0.length : Int)))
        else some true)).bind fun b2' =>
      (bif b2' then some ((0,0),2)
      else (bif decide (v2 ≤ begin1) then some ((0,0),7)
        else (bif bounds (some begin1) (some v2) (some v2) l0.length then (D70 n ((l0.take (Int.toNat v2)).drop (Int.toNat begin1))).bind fun r3' =>
            some (r3',0)
          else none))))
theorem S22_D (hn : n.2 = 1) : S22 n = D22 n := by
  funext l0 begin1 v2; refine (S22_eq n l0 begin1 v2).trans ?_
  unfold D22
  (try simp only [S24_D n hn,S70_D n hn]) <;> first | with_reducible rfl | rfl
/-D 101 -/
noncomputable def D101 (a0 : Int × Int) (b1 : Int × Int) (v2 : Int) : Option R101 :=
    (D88 n a0 b1).bind fun r1' =>
    some (wr .i64 (v2 * r1'))
theorem S101_D (hn : n.2 = 1) : S101 n = D101 n := by
  funext a0 b1 v2; refine (S101_eq n a0 b1 v2).trans ?_
  unfold D101
  (try simp only [S88_D n hn]) <;> first | with_reducible rfl | rfl
/-D 103c101 -/
abbrev YCD113 := LP → Int → Int → Int → Int → Int → Int → Option R103c101
noncomputable def DL103c101_2 (n : Nat × Nat) (f1 : YCD113) (x0 : LP) (cmp1_0 : Int) (i6 : Int) (v4_0 : Int) (v4_1 : Int) (m5_0 : Int) (m5_1 : Int) : Option R103c101 :=
    f1 x0 cmp1_0 (wr .i64 (i6 + 1)) v4_0 v4_1 m5_0 m5_1
theorem DL103c101_2_eq (hn : n.2 = 1) (m1 : Nat) : L103c101_2 n m1 = DL103c101_2 n (L103c101_1 n m1) := by
  funext x0 cmp1_0 i6 v4_0 v4_1 m5_0 m5_1; refine ((held_eq hn _).trans (L103c101_2_raw n m1 x0 cmp1_0 i6 v4_0 v4_1 m5_0 m5_1)).trans ?_
  unfold DL103c101_2
  (try simp only [S101_D n hn]) <;> first | with_reducible rfl | rfl
noncomputable def DF103c101_1 (f1 : YCD113) (x0 : LP) (cmp1_0 : Int) (i6 : Int) (v4_0 : Int) (v4_1 : Int) (m5_0 : Int) (m5_1 : Int) : Option R103c101 :=
    (bif decide (i6 < (x0.length : Int)) then (idx x0 i6).bind fun x2' =>
      (D101 n x2' (m5_0,m5_1) cmp1_0).bind fun r3' =>
      (bif decide (r3' > 0) then (idx x0 i6).bind fun x4' =>
        DL103c101_2 n f1 x0 cmp1_0 i6 v4_0 v4_1 x4'.1 x4'.2
      else DL103c101_2 n f1 x0 cmp1_0 i6 v4_0 v4_1 m5_0 m5_1)
    else some (m5_0,m5_1))
noncomputable def DL103c101_1 (m : Nat) : YCD113 := Nat.rec (motive := fun _ => YCD113) (fun _ _ _ _ _ _ _ => none) (fun _ ih => DF103c101_1 n ih) m
theorem DL103c101_1_succ (m : Nat) : DL103c101_1 n (m + 1) = DF103c101_1 n (DL103c101_1 n m) := rfl
theorem DL103c101_1_eq (n : Nat × Nat) (hn : n.2 = 1) : ∀ m,L103c101_1 n m = DL103c101_1 n m
  | 0 => by funext x0 cmp1_0 i6 v4_0 v4_1 m5_0 m5_1; kernel_rfl
  | m + 1 => by
    have ih := DL103c101_1_eq n hn m
    funext x0 cmp1_0 i6 v4_0 v4_1 m5_0 m5_1; refine (L103c101_1_eq n m x0 cmp1_0 i6 v4_0 v4_1 m5_0 m5_1).trans ?_
    rw [DL103c101_1_succ]
    unfold DF103c101_1
    (try simp only [ih,DL103c101_2_eq n hn,S101_D n hn]) <;> first | with_reducible rfl | rfl
noncomputable def D103c101 (x0 : LP) (cp_1_0 : Int) : Option R103c101 :=
    (bif decide ((x0.length : Int) < 1) then none
    else (idx x0 0).bind fun x1' =>
      DL103c101_1 n n.1 x0 cp_1_0 1 0 0 x1'.1 x1'.2)
theorem S103c101_D (hn : n.2 = 1) : S103c101 n = D103c101 n := by
  funext x0 cp_1_0; refine (S103c101_eq n x0 cp_1_0).trans ?_
  unfold D103c101
  (try simp only [DL103c101_2_eq n hn,DL103c101_1_eq n hn,S101_D n hn]) <;> first | with_reducible rfl | rfl
/-D 102c88 -/
abbrev YCD114 := LP → Int → Int → Int → Int → Int → Option R102c88
noncomputable def DL102c88_2 (n : Nat × Nat) (f1 : YCD114) (x0 : LP) (i6 : Int) (v4_0 : Int) (v4_1 : Int) (m5_0 : Int) (m5_1 : Int) : Option R102c88 :=
    f1 x0 (wr .i64 (i6 + 1)) v4_0 v4_1 m5_0 m5_1
theorem DL102c88_2_eq (hn : n.2 = 1) (m1 : Nat) : L102c88_2 n m1 = DL102c88_2 n (L102c88_1 n m1) := by
  funext x0 i6 v4_0 v4_1 m5_0 m5_1; refine ((held_eq hn _).trans (L102c88_2_raw n m1 x0 i6 v4_0 v4_1 m5_0 m5_1)).trans ?_
  unfold DL102c88_2
  (try simp only [S88_D n hn]) <;> first | with_reducible rfl | rfl
noncomputable def DF102c88_1 (f1 : YCD114) (x0 : LP) (i6 : Int) (v4_0 : Int) (v4_1 : Int) (m5_0 : Int) (m5_1 : Int) : Option R102c88 :=
    (bif decide (i6 < (x0.length : Int)) then (idx x0 i6).bind fun x2' =>
      (D88 n x2' (m5_0,m5_1)).bind fun r3' =>
      (bif decide (r3' < 0) then (idx x0 i6).bind fun x4' =>
        DL102c88_2 n f1 x0 i6 v4_0 v4_1 x4'.1 x4'.2
      else DL102c88_2 n f1 x0 i6 v4_0 v4_1 m5_0 m5_1)
    else some (m5_0,m5_1))
noncomputable def DL102c88_1 (m : Nat) : YCD114 := Nat.rec (motive := fun _ => YCD114) (fun _ _ _ _ _ _ => none) (fun _ ih => DF102c88_1 n ih) m
theorem DL102c88_1_succ (m : Nat) : DL102c88_1 n (m + 1) = DF102c88_1 n (DL102c88_1 n m) := rfl
theorem DL102c88_1_eq (n : Nat × Nat) (hn : n.2 = 1) : ∀ m,L102c88_1 n m = DL102c88_1 n m
  | 0 => by funext x0 i6 v4_0 v4_1 m5_0 m5_1; kernel_rfl
  | m + 1 => by
    have ih := DL102c88_1_eq n hn m
    funext x0 i6 v4_0 v4_1 m5_0 m5_1; refine (L102c88_1_eq n m x0 i6 v4_0 v4_1 m5_0 m5_1).trans ?_
    rw [DL102c88_1_succ]
    unfold DF102c88_1
    (try simp only [ih,DL102c88_2_eq n hn,S88_D n hn]) <;> first | with_reducible rfl | rfl
noncomputable def D102c88 (x0 : LP) : Option R102c88 :=
    (bif decide ((x0.length : Int) < 1) then none
    else (idx x0 0).bind fun x1' =>
      DL102c88_1 n n.1 x0 1 0 0 x1'.1 x1'.2)
theorem S102c88_D (hn : n.2 = 1) : S102c88 n = D102c88 n := by
  funext x0; refine (S102c88_eq n x0).trans ?_
  unfold D102c88
  (try simp only [DL102c88_2_eq n hn,DL102c88_1_eq n hn,S88_D n hn]) <;> first | with_reducible rfl | rfl
/-D 103c88 -/
abbrev YCD115 := LP → Int → Int → Int → Int → Int → Option R103c88
noncomputable def DL103c88_2 (n : Nat × Nat) (f1 : YCD115) (x0 : LP) (i6 : Int) (v4_0 : Int) (v4_1 : Int) (m5_0 : Int) (m5_1 : Int) : Option R103c88 :=
    f1 x0 (wr .i64 (i6 + 1)) v4_0 v4_1 m5_0 m5_1
theorem DL103c88_2_eq (hn : n.2 = 1) (m1 : Nat) : L103c88_2 n m1 = DL103c88_2 n (L103c88_1 n m1) := by
  funext x0 i6 v4_0 v4_1 m5_0 m5_1; refine ((held_eq hn _).trans (L103c88_2_raw n m1 x0 i6 v4_0 v4_1 m5_0 m5_1)).trans ?_
  unfold DL103c88_2
  (try simp only [S88_D n hn]) <;> first | with_reducible rfl | rfl
noncomputable def DF103c88_1 (f1 : YCD115) (x0 : LP) (i6 : Int) (v4_0 : Int) (v4_1 : Int) (m5_0 : Int) (m5_1 : Int) : Option R103c88 :=
    (bif decide (i6 < (x0.length : Int)) then (idx x0 i6).bind fun x2' =>
      (D88 n x2' (m5_0,m5_1)).bind fun r3' =>
      (bif decide (r3' > 0) then (idx x0 i6).bind fun x4' =>
        DL103c88_2 n f1 x0 i6 v4_0 v4_1 x4'.1 x4'.2
      else DL103c88_2 n f1 x0 i6 v4_0 v4_1 m5_0 m5_1)
    else some (m5_0,m5_1))
noncomputable def DL103c88_1 (m : Nat) : YCD115 := Nat.rec (motive := fun _ => YCD115) (fun _ _ _ _ _ _ => none) (fun _ ih => DF103c88_1 n ih) m
theorem DL103c88_1_succ (m : Nat) : DL103c88_1 n (m + 1) = DF103c88_1 n (DL103c88_1 n m) := rfl
theorem DL103c88_1_eq (n : Nat × Nat) (hn : n.2 = 1) : ∀ m,L103c88_1 n m = DL103c88_1 n m
  | 0 => by funext x0 i6 v4_0 v4_1 m5_0 m5_1; kernel_rfl
  | m + 1 => by
    have ih := DL103c88_1_eq n hn m
    funext x0 i6 v4_0 v4_1 m5_0 m5_1; refine (L103c88_1_eq n m x0 i6 v4_0 v4_1 m5_0 m5_1).trans ?_
    rw [DL103c88_1_succ]
    unfold DF103c88_1
    (try simp only [ih,DL103c88_2_eq n hn,S88_D n hn]) <;> first | with_reducible rfl | rfl
noncomputable def D103c88 (x0 : LP) : Option R103c88 :=
    (bif decide ((x0.length : Int) < 1) then none
    else (idx x0 0).bind fun x1' =>
      DL103c88_1 n n.1 x0 1 0 0 x1'.1 x1'.2)
theorem S103c88_D (hn : n.2 = 1) : S103c88 n = D103c88 n := by
  funext x0; refine (S103c88_eq n x0).trans ?_
  unfold D103c88
  (try simp only [DL103c88_2_eq n hn,DL103c88_1_eq n hn,S88_D n hn]) <;> first | with_reducible rfl | rfl
/-D 73 -/
abbrev YCD116 := LP → Int → Int → Int → Int → Int → Int → Int → LP → Int → LP → Option R73
abbrev YCD117 := LP → Int → Int → Int → Int → Int → LP → Int → Option R73
noncomputable def DF73_3 (f1 : YCD117) (f2 : YCD116) (l0 : LP) (i1 : Int) (a11 : Int) (b13 : Int) (v38 : Int) (v39 : Int) (v6_0 : Int) (v6_1 : Int) (outer9 : LP) (v10 : Int) (inner12 : LP) : Option R73 :=
    (bif decide (b13 < (l0.length : Int)) then (bif bounds (some a11) (some (wr .i64 (b13 + 1))) (some (wr .i64 (b13 + 1))) l0.length then (D70 n ((l0.take (Int.toNat (wr .i64 (b13 + 1)))).drop (Int.toNat a11))).bind fun r5' =>
        (bif decide (inner12.length + [r5'].length ≤ lim) then f2 l0 i1 a11 (wr .i64 (b13 + 1)) v38 v39 v6_0 v6_1 outer9 v10 (inner12 ++ [r5'])
        else none)
      else none)
    else (D102c88 n inner12).bind fun r6' =>
      (bif decide (outer9.length + [r6'].length ≤ lim) then f1 l0 i1 v38 (wr .i64 (v39 + 1)) v6_0 v6_1 (outer9 ++ [r6']) v10
      else none))
noncomputable def DL73_3 (f1 : YCD117) (m : Nat) : YCD116 := Nat.rec (motive := fun _ => YCD116) (fun _ _ _ _ _ _ _ _ _ _ _ => none) (fun _ ih => DF73_3 n f1 ih) m
theorem DL73_3_succ (f1 : YCD117) (m : Nat) : DL73_3 n f1 (m + 1) = DF73_3 n f1 (DL73_3 n f1 m) := rfl
theorem DL73_3_eq (n : Nat × Nat) (hn : n.2 = 1) (m1 : Nat) : ∀ m,L73_3 n m1 m = DL73_3 n (L73_1 n m1) m
  | 0 => by funext l0 i1 a11 b13 v38 v39 v6_0 v6_1 outer9 v10 inner12; kernel_rfl
  | m + 1 => by
    have ih := DL73_3_eq n hn m1 m
    funext l0 i1 a11 b13 v38 v39 v6_0 v6_1 outer9 v10 inner12; refine (L73_3_eq n m1 m l0 i1 a11 b13 v38 v39 v6_0 v6_1 outer9 v10 inner12).trans ?_
    rw [DL73_3_succ]
    unfold DF73_3
    (try simp only [ih,S102c88_D n hn,S103c101_D n hn,S103c88_D n hn,S24_D n hn,S70_D n hn]) <;> first | with_reducible rfl | rfl
noncomputable def DF73_1 (f1 : YCD117) (l0 : LP) (i1 : Int) (v38 : Int) (v39 : Int) (v6_0 : Int) (v6_1 : Int) (outer9 : LP) (v10 : Int) : Option R73 :=
    (bif decide (v39 < v38) then DL73_3 n f1 n.1 l0 i1 v39 i1 v38 v39 v6_0 v6_1 outer9 v10 []
    else (D103c101 n outer9 v10).bind fun r3' =>
      some (r3',0))
noncomputable def DL73_1 (m : Nat) : YCD117 := Nat.rec (motive := fun _ => YCD117) (fun _ _ _ _ _ _ _ _ => none) (fun _ ih => DF73_1 n ih) m
theorem DL73_1_succ (m : Nat) : DL73_1 n (m + 1) = DF73_1 n (DL73_1 n m) := rfl
theorem DL73_1_eq (n : Nat × Nat) (hn : n.2 = 1) : ∀ m,L73_1 n m = DL73_1 n m
  | 0 => by funext l0 i1 v38 v39 v6_0 v6_1 outer9 v10; kernel_rfl
  | m + 1 => by
    have ih := DL73_1_eq n hn m
    funext l0 i1 v38 v39 v6_0 v6_1 outer9 v10; refine (L73_1_eq n m l0 i1 v38 v39 v6_0 v6_1 outer9 v10).trans ?_
    rw [DL73_1_succ]
    unfold DF73_1
    (try simp only [ih,DL73_3_eq n hn,S102c88_D n hn,S103c101_D n hn,S103c88_D n hn,S24_D n hn,S70_D n hn]) <;> first | with_reducible rfl | rfl
abbrev YCD118 := LP → Int → Int → Int → Int → Int → Int → LP → Int → LP → Option R73
abbrev YCD119 := LP → Int → Int → Int → Int → LP → Int → Option R73
noncomputable def DF73_4 (f1 : YCD119) (f2 : YCD118) (l0 : LP) (i1 : Int) (b14 : Int) (v77 : Int) (v78 : Int) (v6_0 : Int) (v6_1 : Int) (outer9 : LP) (v10 : Int) (inner15 : LP) : Option R73 :=
    (bif decide (v78 < v77) then (bif bounds (some v78) (some (wr .i64 (b14 + 1))) (some (wr .i64 (b14 + 1))) l0.length then (D70 n ((l0.take (Int.toNat (wr .i64 (b14 + 1)))).drop (Int.toNat v78))).bind fun r7' =>
        (bif decide (inner15.length + [r7'].length ≤ lim) then f2 l0 i1 b14 v77 (wr .i64 (v78 + 1)) v6_0 v6_1 outer9 v10 (inner15 ++ [r7'])
        else none)
      else none)
    else (D103c88 n inner15).bind fun r8' =>
      (bif decide (outer9.length + [r8'].length ≤ lim) then f1 l0 i1 (wr .i64 (b14 + 1)) v6_0 v6_1 (outer9 ++ [r8']) v10
      else none))
noncomputable def DL73_4 (f1 : YCD119) (m : Nat) : YCD118 := Nat.rec (motive := fun _ => YCD118) (fun _ _ _ _ _ _ _ _ _ _ => none) (fun _ ih => DF73_4 n f1 ih) m
theorem DL73_4_succ (f1 : YCD119) (m : Nat) : DL73_4 n f1 (m + 1) = DF73_4 n f1 (DL73_4 n f1 m) := rfl
theorem DL73_4_eq (n : Nat × Nat) (hn : n.2 = 1) (m1 : Nat) : ∀ m,L73_4 n m1 m = DL73_4 n (L73_2 n m1) m
  | 0 => by funext l0 i1 b14 v77 v78 v6_0 v6_1 outer9 v10 inner15; kernel_rfl
  | m + 1 => by
    have ih := DL73_4_eq n hn m1 m
    funext l0 i1 b14 v77 v78 v6_0 v6_1 outer9 v10 inner15; refine (L73_4_eq n m1 m l0 i1 b14 v77 v78 v6_0 v6_1 outer9 v10 inner15).trans ?_
    rw [DL73_4_succ]
    unfold DF73_4
    (try simp only [ih,DL73_3_eq n hn,DL73_1_eq n hn,S102c88_D n hn,S103c101_D n hn,S103c88_D n hn,S24_D n hn,S70_D n hn]) <;> first | with_reducible rfl | rfl
noncomputable def DF73_2 (f1 : YCD119) (l0 : LP) (i1 : Int) (b14 : Int) (v6_0 : Int) (v6_1 : Int) (outer9 : LP) (v10 : Int) : Option R73 :=
    (bif decide (b14 < (l0.length : Int)) then DL73_4 n f1 n.1 l0 i1 b14 (wr .i64 (i1 + 1)) 0 v6_0 v6_1 outer9 v10 []
    else (D103c101 n outer9 v10).bind fun r4' =>
      some (r4',0))
noncomputable def DL73_2 (m : Nat) : YCD119 := Nat.rec (motive := fun _ => YCD119) (fun _ _ _ _ _ _ _ => none) (fun _ ih => DF73_2 n ih) m
theorem DL73_2_succ (m : Nat) : DL73_2 n (m + 1) = DF73_2 n (DL73_2 n m) := rfl
theorem DL73_2_eq (n : Nat × Nat) (hn : n.2 = 1) : ∀ m,L73_2 n m = DL73_2 n m
  | 0 => by funext l0 i1 b14 v6_0 v6_1 outer9 v10; kernel_rfl
  | m + 1 => by
    have ih := DL73_2_eq n hn m
    funext l0 i1 b14 v6_0 v6_1 outer9 v10; refine (L73_2_eq n m l0 i1 b14 v6_0 v6_1 outer9 v10).trans ?_
    rw [DL73_2_succ]
    unfold DF73_2
    (try simp only [ih,DL73_3_eq n hn,DL73_1_eq n hn,DL73_4_eq n hn,S102c88_D n hn,S103c101_D n hn,S103c88_D n hn,S24_D n hn,S70_D n hn]) <;> first | with_reducible rfl | rfl
noncomputable def D73 (l0 : LP) (i1 : Int) (sign2 : Int) : Option R73 :=
    (D24 n l0).bind fun r1' =>
    (bif (r1' != 0) then some ((0,0),r1')
    else ((bif (decide (i1 < 0) == false) then some (decide (i1 ≥ (l0.length : Int)))
        else some true)).bind fun b2' =>
      (bif b2' then some ((0,0),2)
      else (bif decide (sign2 > 0) then DL73_1 n n.1 l0 i1 (wr .i64 (i1 + 1)) 0 0 0 [] sign2
        else DL73_2 n n.1 l0 i1 i1 0 0 [] sign2)))
theorem S73_D (hn : n.2 = 1) : S73 n = D73 n := by
  funext l0 i1 sign2; refine (S73_eq n l0 i1 sign2).trans ?_
  unfold D73
  (try simp only [DL73_3_eq n hn,DL73_1_eq n hn,DL73_4_eq n hn,DL73_2_eq n hn,S102c88_D n hn,S103c101_D n hn,S103c88_D n hn,S24_D n hn,S70_D n hn]) <;> first | with_reducible rfl | rfl
/-D 26 -/
noncomputable def D26 (l0 : LP) (i1 : Int) : Option R26 :=
    (D73 n l0 i1 1).bind fun r1' =>
    some (r1'.1,r1'.2)
theorem S26_D (hn : n.2 = 1) : S26 n = D26 n := by
  funext l0 i1; refine (S26_eq n l0 i1).trans ?_
  unfold D26
  (try simp only [S73_D n hn]) <;> first | with_reducible rfl | rfl
/-D 28 -/
noncomputable def D28 (l0 : LP) (i1 : Int) : Option R28 :=
    (D73 n l0 i1 (-1)).bind fun r1' =>
    some (r1'.1,r1'.2)
theorem S28_D (hn : n.2 = 1) : S28 n = D28 n := by
  funext l0 i1; refine (S28_eq n l0 i1).trans ?_
  unfold D28
  (try simp only [S73_D n hn]) <;> first | with_reducible rfl | rfl
/-D 83 -/
abbrev YCD120 := LP → LP → Int → Int → Int → Int → LP → Option R83
noncomputable def DF83_1 (f1 : YCD120) (values1 : LP) (v11 : LP) (v12 : Int) (v13 : Int) (now5_0 : Int) (now5_1 : Int) (out6 : LP) : Option R83 :=
    (bif decide (v13 < v12) then (idx v11 v13).bind fun x1' =>
      (idx values1 v13).bind fun x2' =>
      (D80 n (now5_0,now5_1) (wr .i64 (x1'.2 * (wr .i64 ((wr .i64 (x1'.1 * x2'.2)) - x2'.1)))) x2'.2).bind fun r3' =>
      (bif decide (out6.length + [r3'].length ≤ lim) then f1 values1 v11 v12 (wr .i64 (v13 + 1)) r3'.1 r3'.2 (out6 ++ [r3'])
      else none)
    else some out6)
noncomputable def DL83_1 (m : Nat) : YCD120 := Nat.rec (motive := fun _ => YCD120) (fun _ _ _ _ _ _ _ => none) (fun _ ih => DF83_1 n ih) m
theorem DL83_1_succ (m : Nat) : DL83_1 n (m + 1) = DF83_1 n (DL83_1 n m) := rfl
theorem DL83_1_eq (n : Nat × Nat) (hn : n.2 = 1) : ∀ m,L83_1 n m = DL83_1 n m
  | 0 => by funext values1 v11 v12 v13 now5_0 now5_1 out6; kernel_rfl
  | m + 1 => by
    have ih := DL83_1_eq n hn m
    funext values1 v11 v12 v13 now5_0 now5_1 out6; refine (L83_1_eq n m values1 v11 v12 v13 now5_0 now5_1 out6).trans ?_
    rw [DL83_1_succ]
    unfold DF83_1
    (try simp only [ih,S80_D n hn]) <;> first | with_reducible rfl | rfl
noncomputable def D83 (l0 : LP) (values1 : LP) : Option R83 :=
    DL83_1 n n.1 values1 l0 (l0.length : Int) 0 0 1 []
theorem S83_D (hn : n.2 = 1) : S83 n = D83 n := by
  funext l0 values1; refine (S83_eq n l0 values1).trans ?_
  unfold D83
  (try simp only [DL83_1_eq n hn,S80_D n hn]) <;> first | with_reducible rfl | rfl
/-D 37 -/
noncomputable def D37 (l0 : LP) : Option R37 :=
    (D24 n l0).bind fun r1' =>
    (bif (r1' != 0) then some ([],r1')
    else (D77 n l0).bind fun r2' =>
      (D83 n l0 r2').bind fun r3' =>
      some (r3',0))
theorem S37_D (hn : n.2 = 1) : S37 n = D37 n := by
  funext l0; refine (S37_eq n l0).trans ?_
  unfold D37
  (try simp only [S24_D n hn,S77_D n hn,S83_D n hn]) <;> first | with_reducible rfl | rfl
/-D 42 -/
abbrev YCD121 := Int → Int → Int → Int → LP → Option R42
noncomputable def DL42_2 (n : Nat × Nat) (f1 : YCD121) (low1 : Int) (high2 : Int) (v36 : Int) (v37 : Int) (out9 : LP) : Option R42 :=
    f1 low1 high2 v36 (wr .i64 (v37 + 1)) out9
theorem DL42_2_eq (hn : n.2 = 1) (m1 : Nat) : L42_2 n m1 = DL42_2 n (L42_1 n m1) := by
  funext low1 high2 v36 v37 out9; refine ((held_eq hn _).trans (L42_2_raw n m1 low1 high2 v36 v37 out9)).trans ?_
  unfold DL42_2
  (try simp only [S24_D n hn,S77_D n hn]) <;> first | with_reducible rfl | rfl
noncomputable def DF42_1 (f1 : YCD121) (low1 : Int) (high2 : Int) (v36 : Int) (v37 : Int) (out9 : LP) : Option R42 :=
    (bif decide (v37 < v36) then (bif inB v37 out9.length then (idx out9 v37).bind fun x4' =>
        (bif decide (x4'.1 < wr .i64 (low1 * x4'.2)) then (bif inB v37 out9.length then (idx out9 v37).bind fun x5' =>
            DL42_2 n f1 low1 high2 v36 v37 (out9.set (Int.toNat v37) (low1,1))
          else none)
        else (bif decide (x4'.1 > wr .i64 (high2 * x4'.2)) then (bif inB v37 out9.length then (idx out9 v37).bind fun x6' =>
              DL42_2 n f1 low1 high2 v36 v37 (out9.set (Int.toNat v37) (high2,1))
            else none)
          else DL42_2 n f1 low1 high2 v36 v37 out9))
      else none)
    else some (out9,0))
noncomputable def DL42_1 (m : Nat) : YCD121 := Nat.rec (motive := fun _ => YCD121) (fun _ _ _ _ _ => none) (fun _ ih => DF42_1 n ih) m
theorem DL42_1_succ (m : Nat) : DL42_1 n (m + 1) = DF42_1 n (DL42_1 n m) := rfl
theorem DL42_1_eq (n : Nat × Nat) (hn : n.2 = 1) : ∀ m,L42_1 n m = DL42_1 n m
  | 0 => by funext low1 high2 v36 v37 out9; kernel_rfl
  | m + 1 => by
    have ih := DL42_1_eq n hn m
    funext low1 high2 v36 v37 out9; refine (L42_1_eq n m low1 high2 v36 v37 out9).trans ?_
    rw [DL42_1_succ]
    unfold DF42_1
    (try simp only [ih,DL42_2_eq n hn,S24_D n hn,S77_D n hn]) <;> first | with_reducible rfl | rfl
noncomputable def D42 (l0 : LP) (low1 : Int) (high2 : Int) : Option R42 :=
    (D24 n l0).bind fun r1' =>
    (bif (r1' != 0) then some ([],r1')
    else ((bif (decide ((if high2 < low1 then high2 else low1) < 0) == false) then some (decide ((if high2 > low1 then high2 else low1) > 100))
        else some true)).bind fun b2' =>
      (bif b2' then some ([],1)
      else (bif decide (low1 > high2) then some ([],7)
        else (D77 n l0).bind fun r3' =>
          DL42_1 n n.1 low1 high2 (r3'.length : Int) 0 r3')))
theorem S42_D (hn : n.2 = 1) : S42 n = D42 n := by
  funext l0 low1 high2; refine (S42_eq n l0 low1 high2).trans ?_
  unfold D42
  (try simp only [DL42_2_eq n hn,DL42_1_eq n hn,S24_D n hn,S77_D n hn]) <;> first | with_reducible rfl | rfl
/-D 107 -/
noncomputable def D107 (n : Nat × Nat) (x0 : Int) : Option R107 :=
    some (x0 != x0)
theorem S107_D (hn : n.2 = 1) : S107 n = D107 n := by
  funext x0; refine (S107_eq n x0).trans ?_
  unfold D107
  first | with_reducible rfl | rfl
/-D 93 -/
noncomputable def D93 (x0 : Int) (y1 : Int) : Option R93 :=
    (D107 n x0).bind fun r1' =>
    (D107 n y1).bind fun r2' =>
    (bif r1' then (bif r2' then some 0
      else some (-1))
    else (bif r2' then some 1
      else (bif decide (x0 < y1) then some (-1)
        else (bif decide (x0 > y1) then some 1
          else some 0))))
theorem S93_D (hn : n.2 = 1) : S93 n = D93 n := by
  funext x0 y1; refine (S93_eq n x0 y1).trans ?_
  unfold D93
  (try simp only [S107_D n hn]) <;> first | with_reducible rfl | rfl
/-D 64 -/
abbrev YCD122 := List Int → List Int → List Int → Int → Int → Option R64
noncomputable def DF64_1 (f1 : YCD122) (s10 : List Int) (s21 : List Int) (v9 : List Int) (v10 : Int) (v11 : Int) : Option R64 :=
    (bif decide (v11 < v10) then (idx v9 v11).bind fun x1' =>
      (bif decide (v11 ≥ (s21.length : Int)) then some 1
      else (idx s21 v11).bind fun x2' =>
        (D93 n x1' x2').bind fun r3' =>
        (bif (r3' != 0) then some r3'
        else f1 s10 s21 v9 v10 (wr .i64 (v11 + 1))))
    else (bif decide ((s10.length : Int) < (s21.length : Int)) then some (-1)
      else some 0))
noncomputable def DL64_1 (m : Nat) : YCD122 := Nat.rec (motive := fun _ => YCD122) (fun _ _ _ _ _ => none) (fun _ ih => DF64_1 n ih) m
theorem DL64_1_succ (m : Nat) : DL64_1 n (m + 1) = DF64_1 n (DL64_1 n m) := rfl
theorem DL64_1_eq (n : Nat × Nat) (hn : n.2 = 1) : ∀ m,L64_1 n m = DL64_1 n m
  | 0 => by funext s10 s21 v9 v10 v11; kernel_rfl
  | m + 1 => by
    have ih := DL64_1_eq n hn m
    funext s10 s21 v9 v10 v11; refine (L64_1_eq n m s10 s21 v9 v10 v11).trans ?_
    rw [DL64_1_succ]
    unfold DF64_1
    (try simp only [ih,S93_D n hn]) <;> first | with_reducible rfl | rfl
noncomputable def D64 (s10 : List Int) (s21 : List Int) : Option R64 :=
    DL64_1 n n.1 s10 s21 s10 (s10.length : Int) 0
theorem S64_D (hn : n.2 = 1) : S64 n = D64 n := by
  funext s10 s21; refine (S64_eq n s10 s21).trans ?_
  unfold D64
  (try simp only [DL64_1_eq n hn,S93_D n hn]) <;> first | with_reducible rfl | rfl
/-D 44 -/
abbrev YCD123 := LP → Int → Int → Bool → Int → Int → LP → Int → Int → List Int → List Int → Option R44
abbrev YCD124 := LP → Int → Int → List Int → Option R44
noncomputable def DL44_3 (n : Nat × Nat) (f1 : YCD124) (f2 : YCD123) (l0 : LP) (v6 : Int) (v8 : Int) (good9 : Bool) (v19 : Int) (v20 : Int) (v23 : LP) (v24 : Int) (v25 : Int) (best5 : List Int) (out7 : List Int) : Option R44 :=
    f2 l0 v6 v8 good9 v19 v20 v23 v24 (wr .i64 (v25 + 1)) best5 out7
theorem DL44_3_eq (hn : n.2 = 1) (m1 m2 : Nat) : L44_3 n m1 m2 = DL44_3 n (L44_1 n m1) (L44_2 n m1 m2) := by
  funext l0 v6 v8 good9 v19 v20 v23 v24 v25 best5 out7; refine ((held_eq hn _).trans (L44_3_raw n m1 m2 l0 v6 v8 good9 v19 v20 v23 v24 v25 best5 out7)).trans ?_
  unfold DL44_3
  (try simp only [S24_D n hn,S64_D n hn]) <;> first | with_reducible rfl | rfl
noncomputable def DL44_4 (n : Nat × Nat) (f1 : YCD124) (l0 : LP) (v19 : Int) (v20 : Int) (best5 : List Int) : Option R44 :=
    f1 l0 v19 (wr .i64 (v20 + 1)) best5
theorem DL44_4_eq (hn : n.2 = 1) (m1 : Nat) : L44_4 n m1 = DL44_4 n (L44_1 n m1) := by
  funext l0 v19 v20 best5; refine ((held_eq hn _).trans (L44_4_raw n m1 l0 v19 v20 best5)).trans ?_
  unfold DL44_4
  (try simp only [DL44_3_eq n hn,S24_D n hn,S64_D n hn]) <;> first | with_reducible rfl | rfl
noncomputable def DF44_2 (f1 : YCD124) (f2 : YCD123) (l0 : LP) (v6 : Int) (v8 : Int) (good9 : Bool) (v19 : Int) (v20 : Int) (v23 : LP) (v24 : Int) (v25 : Int) (best5 : List Int) (out7 : List Int) : Option R44 :=
    (bif decide (v25 < v24) then (idx v23 v25).bind fun x2' =>
      (bif decide (v25 < 0) then none
      else (bif ((wr .i64 (BitVec.ofInt (IntKind.bits .i64) (Int.fdiv v6 (2 ^ (min (Int.toNat v25) (IntKind.bits .i64)))) &&& BitVec.ofInt (IntKind.bits .i64) 1).toNat) == 1) then (bif decide (out7.length + [v25].length ≤ lim) then DL44_3 n f1 f2 l0 v6 v8 good9 v19 v20 v23 v24 v25 best5 (out7 ++ [v25])
          else none)
        else ((bif (good9 == true) then some (decide (x2'.1 ≥ v8))
            else some false)).bind fun b3' =>
          DL44_3 n f1 f2 l0 v6 x2'.1 b3' v19 v20 v23 v24 v25 best5 out7))
    else ((bif (good9 == true) then ((bif (best5.isEmpty == false) then some (decide ((out7.length : Int) < (best5.length : Int)))
            else some true)).bind fun b4' =>
          ((bif (b4' == false) then ((bif (((out7.length : Int) == (best5.length : Int)) == true) then (D64 n out7 best5).bind fun r5' =>
                  some (decide (r5' < 0))
                else some false)).bind fun b6' =>
              some b6'
            else some true)).bind fun b7' =>
          some b7'
        else some false)).bind fun b8' =>
      (bif b8' then (bif out7.isEmpty then some ([],0)
        else DL44_4 n f1 l0 v19 v20 out7)
      else DL44_4 n f1 l0 v19 v20 best5))
noncomputable def DL44_2 (f1 : YCD124) (m : Nat) : YCD123 := Nat.rec (motive := fun _ => YCD123) (fun _ _ _ _ _ _ _ _ _ _ _ => none) (fun _ ih => DF44_2 n f1 ih) m
theorem DL44_2_succ (f1 : YCD124) (m : Nat) : DL44_2 n f1 (m + 1) = DF44_2 n f1 (DL44_2 n f1 m) := rfl
theorem DL44_2_eq (n : Nat × Nat) (hn : n.2 = 1) (m1 : Nat) : ∀ m,L44_2 n m1 m = DL44_2 n (L44_1 n m1) m
  | 0 => by funext l0 v6 v8 good9 v19 v20 v23 v24 v25 best5 out7; kernel_rfl
  | m + 1 => by
    have ih := DL44_2_eq n hn m1 m
    funext l0 v6 v8 good9 v19 v20 v23 v24 v25 best5 out7; refine (L44_2_eq n m1 m l0 v6 v8 good9 v19 v20 v23 v24 v25 best5 out7).trans ?_
    rw [DL44_2_succ]
    unfold DF44_2
    (try simp only [ih,DL44_3_eq n hn,DL44_4_eq n hn,S24_D n hn,S64_D n hn]) <;> first | with_reducible rfl | rfl
noncomputable def DF44_1 (f1 : YCD124) (l0 : LP) (v19 : Int) (v20 : Int) (best5 : List Int) : Option R44 :=
    (bif decide (v20 < v19) then DL44_2 n f1 n.1 l0 v20 (-1) true v19 v20 l0 (l0.length : Int) 0 best5 []
    else some (best5,0))
noncomputable def DL44_1 (m : Nat) : YCD124 := Nat.rec (motive := fun _ => YCD124) (fun _ _ _ _ => none) (fun _ ih => DF44_1 n ih) m
theorem DL44_1_succ (m : Nat) : DL44_1 n (m + 1) = DF44_1 n (DL44_1 n m) := rfl
theorem DL44_1_eq (n : Nat × Nat) (hn : n.2 = 1) : ∀ m,L44_1 n m = DL44_1 n m
  | 0 => by funext l0 v19 v20 best5; kernel_rfl
  | m + 1 => by
    have ih := DL44_1_eq n hn m
    funext l0 v19 v20 best5; refine (L44_1_eq n m l0 v19 v20 best5).trans ?_
    rw [DL44_1_succ]
    unfold DF44_1
    (try simp only [ih,DL44_3_eq n hn,DL44_4_eq n hn,DL44_2_eq n hn,S24_D n hn,S64_D n hn]) <;> first | with_reducible rfl | rfl
noncomputable def D44 (l0 : LP) : Option R44 :=
    (D24 n l0).bind fun r1' =>
    (bif (r1' != 0) then some ([],r1')
    else (bif decide ((l0.length : Int) < 0) then none
      else DL44_1 n n.1 l0 (wr .i64 (1 * 2 ^ (min (Int.toNat (l0.length : Int)) (IntKind.bits .i64)))) 0 []))
theorem S44_D (hn : n.2 = 1) : S44 n = D44 n := by
  funext l0; refine (S44_eq n l0).trans ?_
  unfold D44
  (try simp only [DL44_3_eq n hn,DL44_4_eq n hn,DL44_2_eq n hn,DL44_1_eq n hn,S24_D n hn,S64_D n hn]) <;> first | with_reducible rfl | rfl
/-D 55 -/
noncomputable def D55 : Option R55 :=
    (D60 n [1,1,2,2,2,1]).bind fun r1' =>
    some r1'
theorem S55_D (hn : n.2 = 1) : S55 n = D55 n := by
  refine (S55_eq n).trans ?_
  unfold D55
  (try simp only [S60_D n hn]) <;> first | with_reducible rfl | rfl
/-D 52 -/
noncomputable def D52 (n : Nat × Nat) (num0 : Int) (den1 : Int) : Option R52 :=
    some (num0,den1)
theorem S52_D (hn : n.2 = 1) : S52 n = D52 n := by
  funext num0 den1; refine (S52_eq n num0 den1).trans ?_
  unfold D52
  first | with_reducible rfl | rfl
/-D 57 -/
abbrev YCD125 := List Int → Int → LP → Option R57
noncomputable def DF57_1 (f1 : YCD125) (l0 : List Int) (i4 : Int) (out3 : LP) : Option R57 :=
    (bif decide (i4 < (l0.length : Int)) then (idx l0 i4).bind fun x1' =>
      (D52 n x1' 1).bind fun r2' =>
      (bif decide (out3.length + [r2'].length ≤ lim) then f1 l0 (wr .i64 (i4 + 1)) (out3 ++ [r2'])
      else none)
    else some out3)
noncomputable def DL57_1 (m : Nat) : YCD125 := Nat.rec (motive := fun _ => YCD125) (fun _ _ _ => none) (fun _ ih => DF57_1 n ih) m
theorem DL57_1_succ (m : Nat) : DL57_1 n (m + 1) = DF57_1 n (DL57_1 n m) := rfl
theorem DL57_1_eq (n : Nat × Nat) (hn : n.2 = 1) : ∀ m,L57_1 n m = DL57_1 n m
  | 0 => by funext l0 i4 out3; kernel_rfl
  | m + 1 => by
    have ih := DL57_1_eq n hn m
    funext l0 i4 out3; refine (L57_1_eq n m l0 i4 out3).trans ?_
    rw [DL57_1_succ]
    unfold DF57_1
    (try simp only [ih,S52_D n hn]) <;> first | with_reducible rfl | rfl
noncomputable def D57 (l0 : List Int) : Option R57 :=
    DL57_1 n n.1 l0 0 []
theorem S57_D (hn : n.2 = 1) : S57 n = D57 n := by
  funext l0; refine (S57_eq n l0).trans ?_
  unfold D57
  (try simp only [DL57_1_eq n hn,S52_D n hn]) <;> first | with_reducible rfl | rfl
/-D 51 -/
abbrev YCD126 := LP → LP → Int → Option R51
noncomputable def DF51_1 (n : Nat × Nat) (f1 : YCD126) (a0 : LP) (b1 : LP) (i5 : Int) : Option R51 :=
    (bif decide (i5 < (a0.length : Int)) then (idx a0 i5).bind fun x1' =>
      (idx b1 i5).bind fun x2' =>
      (bif (!((x1'.1 == x2'.1) && ((x1'.2 == x2'.2) && true))) then some false
      else f1 a0 b1 (wr .i64 (i5 + 1)))
    else some true)
noncomputable def DL51_1 (m : Nat) : YCD126 := Nat.rec (motive := fun _ => YCD126) (fun _ _ _ => none) (fun _ ih => DF51_1 n ih) m
theorem DL51_1_succ (m : Nat) : DL51_1 n (m + 1) = DF51_1 n (DL51_1 n m) := rfl
theorem DL51_1_eq (n : Nat × Nat) (hn : n.2 = 1) : ∀ m,L51_1 n m = DL51_1 n m
  | 0 => by funext a0 b1 i5; kernel_rfl
  | m + 1 => by
    have ih := DL51_1_eq n hn m
    funext a0 b1 i5; refine (L51_1_eq n m a0 b1 i5).trans ?_
    rw [DL51_1_succ]
    unfold DF51_1
    (try simp only [ih]) <;> first | with_reducible rfl | rfl
noncomputable def D51 (a0 : LP) (b1 : LP) : Option R51 :=
    (bif ((a0.length : Int) != (b1.length : Int)) then some false
    else DL51_1 n n.1 a0 b1 0)
theorem S51_D (hn : n.2 = 1) : S51 n = D51 n := by
  funext a0 b1; refine (S51_eq n a0 b1).trans ?_
  unfold D51
  (try simp only [DL51_1_eq n hn]) <;> first | with_reducible rfl | rfl
/-D 58 -/
abbrev YCD127 := (List (Int × Int × Int × Int)) → (List (Int × Int × Int × Int)) → Int → Option R58
noncomputable def DF58_1 (n : Nat × Nat) (f1 : YCD127) (a0 : List (Int × Int × Int × Int)) (b1 : List (Int × Int × Int × Int)) (i5 : Int) : Option R58 :=
    (bif decide (i5 < (a0.length : Int)) then (idx a0 i5).bind fun x1' =>
      (idx b1 i5).bind fun x2' =>
      (bif (!((x1'.1 == x2'.1) && ((x1'.2.1 == x2'.2.1) && ((x1'.2.2.1 == x2'.2.2.1) && ((x1'.2.2.2 == x2'.2.2.2) && true))))) then some false
      else f1 a0 b1 (wr .i64 (i5 + 1)))
    else some true)
noncomputable def DL58_1 (m : Nat) : YCD127 := Nat.rec (motive := fun _ => YCD127) (fun _ _ _ => none) (fun _ ih => DF58_1 n ih) m
theorem DL58_1_succ (m : Nat) : DL58_1 n (m + 1) = DF58_1 n (DL58_1 n m) := rfl
theorem DL58_1_eq (n : Nat × Nat) (hn : n.2 = 1) : ∀ m,L58_1 n m = DL58_1 n m
  | 0 => by funext a0 b1 i5; kernel_rfl
  | m + 1 => by
    have ih := DL58_1_eq n hn m
    funext a0 b1 i5; refine (L58_1_eq n m a0 b1 i5).trans ?_
    rw [DL58_1_succ]
    unfold DF58_1
    (try simp only [ih]) <;> first | with_reducible rfl | rfl
noncomputable def D58 (a0 : List (Int × Int × Int × Int)) (b1 : List (Int × Int × Int × Int)) : Option R58 :=
    (bif ((a0.length : Int) != (b1.length : Int)) then some false
    else DL58_1 n n.1 a0 b1 0)
theorem S58_D (hn : n.2 = 1) : S58 n = D58 n := by
  funext a0 b1; refine (S58_eq n a0 b1).trans ?_
  unfold D58
  (try simp only [DL58_1_eq n hn]) <;> first | with_reducible rfl | rfl
/-D 46 -/
abbrev YCD128 := List Int → List Int → Int → Option R46
noncomputable def DF46_1 (n : Nat × Nat) (f1 : YCD128) (a0 : List Int) (b1 : List Int) (i5 : Int) : Option R46 :=
    (bif decide (i5 < (a0.length : Int)) then (idx a0 i5).bind fun x1' =>
      (idx b1 i5).bind fun x2' =>
      (bif (x1' != x2') then some false
      else f1 a0 b1 (wr .i64 (i5 + 1)))
    else some true)
noncomputable def DL46_1 (m : Nat) : YCD128 := Nat.rec (motive := fun _ => YCD128) (fun _ _ _ => none) (fun _ ih => DF46_1 n ih) m
theorem DL46_1_succ (m : Nat) : DL46_1 n (m + 1) = DF46_1 n (DL46_1 n m) := rfl
theorem DL46_1_eq (n : Nat × Nat) (hn : n.2 = 1) : ∀ m,L46_1 n m = DL46_1 n m
  | 0 => by funext a0 b1 i5; kernel_rfl
  | m + 1 => by
    have ih := DL46_1_eq n hn m
    funext a0 b1 i5; refine (L46_1_eq n m a0 b1 i5).trans ?_
    rw [DL46_1_succ]
    unfold DF46_1
    (try simp only [ih]) <;> first | with_reducible rfl | rfl
noncomputable def D46 (a0 : List Int) (b1 : List Int) : Option R46 :=
    (bif ((a0.length : Int) != (b1.length : Int)) then some false
    else DL46_1 n n.1 a0 b1 0)
theorem S46_D (hn : n.2 = 1) : S46 n = D46 n := by
  funext a0 b1; refine (S46_eq n a0 b1).trans ?_
  unfold D46
  (try simp only [DL46_1_eq n hn]) <;> first | with_reducible rfl | rfl
/-D 86 -/
noncomputable def D86 (n : Nat × Nat) (f0 : Int × Int) : Option R86 :=
    ((bif (decide (f0.2 < 1) == false) then some (decide (f0.2 > 72))
      else some true)).bind fun b1' =>
    ((bif (b1' == false) then some (decide (f0.1 < 0))
      else some true)).bind fun b2' =>
    ((bif (b2' == false) then some (decide (f0.1 > wr .i64 (100 * f0.2)))
      else some true)).bind fun b3' =>
    some b3'
theorem S86_D (hn : n.2 = 1) : S86 n = D86 n := by
  funext f0; refine (S86_eq n f0).trans ?_
  unfold D86
  first | with_reducible rfl | rfl
/-D 106c86 -/
abbrev YCD129 := LP → Int → Int → Option R106c86
noncomputable def DF106c86_1 (f1 : YCD129) (s0 : LP) (v7 : Int) (v8 : Int) : Option R106c86 :=
    (bif decide (v8 < v7) then (idx s0 v8).bind fun x1' =>
      (D86 n x1').bind fun r2' =>
      (bif r2' then some v8
      else f1 s0 v7 (wr .i64 (v8 + 1)))
    else some (-1))
noncomputable def DL106c86_1 (m : Nat) : YCD129 := Nat.rec (motive := fun _ => YCD129) (fun _ _ _ => none) (fun _ ih => DF106c86_1 n ih) m
theorem DL106c86_1_succ (m : Nat) : DL106c86_1 n (m + 1) = DF106c86_1 n (DL106c86_1 n m) := rfl
theorem DL106c86_1_eq (n : Nat × Nat) (hn : n.2 = 1) : ∀ m,L106c86_1 n m = DL106c86_1 n m
  | 0 => by funext s0 v7 v8; kernel_rfl
  | m + 1 => by
    have ih := DL106c86_1_eq n hn m
    funext s0 v7 v8; refine (L106c86_1_eq n m s0 v7 v8).trans ?_
    rw [DL106c86_1_succ]
    unfold DF106c86_1
    (try simp only [ih,S86_D n hn]) <;> first | with_reducible rfl | rfl
noncomputable def D106c86 (s0 : LP) : Option R106c86 :=
    DL106c86_1 n n.1 s0 (s0.length : Int) 0
theorem S106c86_D (hn : n.2 = 1) : S106c86 n = D106c86 n := by
  funext s0; refine (S106c86_eq n s0).trans ?_
  unfold D106c86
  (try simp only [DL106c86_1_eq n hn,S86_D n hn]) <;> first | with_reducible rfl | rfl
/-D 85c86 -/
noncomputable def D85c86 (s0 : LP) : Option R85c86 :=
    (D106c86 n s0).bind fun r1' =>
    some (decide (r1' ≥ 0))
theorem S85c86_D (hn : n.2 = 1) : S85c86 n = D85c86 n := by
  funext s0; refine (S85c86_eq n s0).trans ?_
  unfold D85c86
  (try simp only [S106c86_D n hn]) <;> first | with_reducible rfl | rfl
/-D 87c88 -/
abbrev YCD130 := LP → Int → Option R87c88
noncomputable def DF87c88_1 (f1 : YCD130) (x0 : LP) (i5 : Int) : Option R87c88 :=
    (bif decide (i5 > 0) then (idx x0 i5).bind fun x1' =>
      (idx x0 (wr .i64 (i5 - 1))).bind fun x2' =>
      (D88 n x1' x2').bind fun r3' =>
      (bif decide (r3' < 0) then some false
      else f1 x0 (wr .i64 (i5 - 1)))
    else some true)
noncomputable def DL87c88_1 (m : Nat) : YCD130 := Nat.rec (motive := fun _ => YCD130) (fun _ _ => none) (fun _ ih => DF87c88_1 n ih) m
theorem DL87c88_1_succ (m : Nat) : DL87c88_1 n (m + 1) = DF87c88_1 n (DL87c88_1 n m) := rfl
theorem DL87c88_1_eq (n : Nat × Nat) (hn : n.2 = 1) : ∀ m,L87c88_1 n m = DL87c88_1 n m
  | 0 => by funext x0 i5; kernel_rfl
  | m + 1 => by
    have ih := DL87c88_1_eq n hn m
    funext x0 i5; refine (L87c88_1_eq n m x0 i5).trans ?_
    rw [DL87c88_1_succ]
    unfold DF87c88_1
    (try simp only [ih,S88_D n hn]) <;> first | with_reducible rfl | rfl
noncomputable def D87c88 (x0 : LP) : Option R87c88 :=
    DL87c88_1 n n.1 x0 (wr .i64 ((x0.length : Int) - 1))
theorem S87c88_D (hn : n.2 = 1) : S87c88 n = D87c88 n := by
  funext x0; refine (S87c88_eq n x0).trans ?_
  unfold D87c88
  (try simp only [DL87c88_1_eq n hn,S88_D n hn]) <;> first | with_reducible rfl | rfl
/-D 39 -/
abbrev YCD131 := LP → LP → Int → Int → LP → Option R39
noncomputable def DF39_1 (f1 : YCD131) (l0 : LP) (values1 : LP) (v31 : Int) (v32 : Int) (v30 : LP) : Option R39 :=
    (bif decide (v32 < v31) then (bif inB v32 v30.length then (idx v30 v32).bind fun x5' =>
        ((bif (((wr .i64 (v32 + 1)) == (l0.length : Int)) == false) then (idx values1 v32).bind fun x6' =>
            (idx values1 (wr .i64 (v32 + 1))).bind fun x7' =>
            (D88 n x6' x7').bind fun r8' =>
            some (decide (r8' < 0))
          else some true)).bind fun b9' =>
        ((bif (decide (x5'.1 < 0) == false) then ((bif (b9' == true) then some (decide (x5'.1 > 0))
              else some false)).bind fun b10' =>
            some b10'
          else some true)).bind fun b11' =>
        (bif b11' then some 14
        else f1 l0 values1 v31 (wr .i64 (v32 + 1)) v30)
      else none)
    else some 0)
noncomputable def DL39_1 (m : Nat) : YCD131 := Nat.rec (motive := fun _ => YCD131) (fun _ _ _ _ _ => none) (fun _ ih => DF39_1 n ih) m
theorem DL39_1_succ (m : Nat) : DL39_1 n (m + 1) = DF39_1 n (DL39_1 n m) := rfl
theorem DL39_1_eq (n : Nat × Nat) (hn : n.2 = 1) : ∀ m,L39_1 n m = DL39_1 n m
  | 0 => by funext l0 values1 v31 v32 v30; kernel_rfl
  | m + 1 => by
    have ih := DL39_1_eq n hn m
    funext l0 values1 v31 v32 v30; refine (L39_1_eq n m l0 values1 v31 v32 v30).trans ?_
    rw [DL39_1_succ]
    unfold DF39_1
    (try simp only [ih,S24_D n hn,S83_D n hn,S85c86_D n hn,S87c88_D n hn,S88_D n hn]) <;> first | with_reducible rfl | rfl
noncomputable def D39 (l0 : LP) (values1 : LP) : Option R39 :=
    (D24 n l0).bind fun r1' =>
    (bif (r1' != 0) then some r1'
    else (bif ((values1.length : Int) != (l0.length : Int)) then some 5
      else (D85c86 n values1).bind fun r2' =>
        (bif r2' then some 1
        else (D87c88 n values1).bind fun r3' =>
          (bif (!r3') then some 7
          else (D83 n l0 values1).bind fun r4' =>
            DL39_1 n n.1 l0 values1 (r4'.length : Int) 0 r4'))))
theorem S39_D (hn : n.2 = 1) : S39 n = D39 n := by
  funext l0 values1; refine (S39_eq n l0 values1).trans ?_
  unfold D39
  (try simp only [DL39_1_eq n hn,S24_D n hn,S83_D n hn,S85c86_D n hn,S87c88_D n hn,S88_D n hn]) <;> first | with_reducible rfl | rfl
/-D 18 -/
noncomputable def D18 : Option R18 :=
    (D56 n).bind fun r1' =>
    (D30 n r1').bind fun r2' =>
    (D56 n).bind fun r3' =>
    (D32 n r3').bind fun r4' =>
    (D54 n).bind fun r5' =>
    (D35 n r5').bind fun r6' =>
    (D54 n).bind fun r7' =>
    (D20 n r7').bind fun r8' =>
    (D56 n).bind fun r9' =>
    (D22 n r9' 0 4).bind fun r10' =>
    (D56 n).bind fun r11' =>
    (D26 n r11' 3).bind fun r12' =>
    (D56 n).bind fun r13' =>
    (D28 n r13' 0).bind fun r14' =>
    ((bif ((r2'.2 != 0) == false) then some (r4'.2 != 0)
      else some true)).bind fun b15' =>
    ((bif (b15' == false) then some (r6'.2 != 0)
      else some true)).bind fun b16' =>
    ((bif (b16' == false) then some (r8'.2 != 0)
      else some true)).bind fun b17' =>
    ((bif (b17' == false) then some (r10'.2 != 0)
      else some true)).bind fun b18' =>
    ((bif (b18' == false) then some (r12'.2 != 0)
      else some true)).bind fun b19' =>
    ((bif (b19' == false) then some (r14'.2 != 0)
      else some true)).bind fun b20' =>
    (bif b20' then some false
    else (D56 n).bind fun r21' =>
      (D37 n r21').bind fun r22' =>
      (D56 n).bind fun r23' =>
      (D42 n r23' 0 2).bind fun r24' =>
      (D56 n).bind fun r25' =>
      (D44 n r25').bind fun r26' =>
      (D55 n).bind fun r27' =>
      (D20 n r27').bind fun r28' =>
      (D52 n 2 1).bind fun r29' =>
      (D52 n 3 1).bind fun r30' =>
      ((bif ((r22'.2 == 0) == true) then some (r24'.2 == 0)
        else some false)).bind fun b31' =>
      ((bif (b31' == true) then some (r26'.2 == 0)
        else some false)).bind fun b32' =>
      ((bif (b32' == true) then some (r28'.2 == 13)
        else some false)).bind fun b33' =>
      ((bif (b33' == true) then (D57 n [2,2,3,3]).bind fun r34' =>
          (D51 n r2'.1 r34').bind fun r35' =>
          some r35'
        else some false)).bind fun b36' =>
      ((bif (b36' == true) then (D58 n r4'.1 [(0,2,r29'),(2,4,r30')]).bind fun r37' =>
          some r37'
        else some false)).bind fun b38' =>
      ((bif (b38' == true) then (D52 n 2 1).bind fun r39' =>
          some ((r6'.1.1 == r39'.1) && ((r6'.1.2 == r39'.2) && true))
        else some false)).bind fun b40' =>
      ((bif (b40' == true) then some (r8'.1 == 0)
        else some false)).bind fun b41' =>
      ((bif (b41' == true) then (D52 n 5 2).bind fun r42' =>
          some ((r10'.1.1 == r42'.1) && ((r10'.1.2 == r42'.2) && true))
        else some false)).bind fun b43' =>
      ((bif (b43' == true) then (D52 n 3 1).bind fun r44' =>
          some ((r12'.1.1 == r44'.1) && ((r12'.1.2 == r44'.2) && true))
        else some false)).bind fun b45' =>
      ((bif (b45' == true) then (D52 n 2 1).bind fun r46' =>
          some ((r14'.1.1 == r46'.1) && ((r14'.1.2 == r46'.2) && true))
        else some false)).bind fun b47' =>
      ((bif (b47' == true) then (D57 n [3,0,2,0]).bind fun r48' =>
          (D51 n r22'.1 r48').bind fun r49' =>
          some r49'
        else some false)).bind fun b50' =>
      ((bif (b50' == true) then (D57 n [2,2,2,2]).bind fun r51' =>
          (D51 n r24'.1 r51').bind fun r52' =>
          some r52'
        else some false)).bind fun b53' =>
      ((bif (b53' == true) then (D46 n r26'.1 [0,2]).bind fun r54' =>
          some r54'
        else some false)).bind fun b55' =>
      ((bif (b55' == true) then (D54 n).bind fun r56' =>
          (D57 n [2,2,2]).bind fun r57' =>
          (D39 n r56' r57').bind fun r58' =>
          some (r58' == 0)
        else some false)).bind fun b59' =>
      ((bif (b59' == true) then (D54 n).bind fun r60' =>
          (D57 n [1,1,2]).bind fun r61' =>
          (D39 n r60' r61').bind fun r62' =>
          some (r62' == 14)
        else some false)).bind fun b63' =>
      ((bif (b63' == true) then (D54 n).bind fun r64' =>
          (D57 n [2,1,3]).bind fun r65' =>
          (D39 n r64' r65').bind fun r66' =>
          some (r66' == 7)
        else some false)).bind fun b67' =>
      some b67')
theorem S18_D (hn : n.2 = 1) : S18 n = D18 n := by
  refine (S18_eq n).trans ?_
  unfold D18
  (try simp only [S20_D n hn,S22_D n hn,S26_D n hn,S28_D n hn,S30_D n hn,S32_D n hn,S35_D n hn,S37_D n hn,S39_D n hn,S42_D n hn,S44_D n hn,S46_D n hn,S51_D n hn,S52_D n hn,S54_D n hn,S55_D n hn,S56_D n hn,S57_D n hn,S58_D n hn]) <;> first | with_reducible rfl | rfl
/-D 19 -/
/-D 71 -/
/-D 25 -/
/-D 21 -/
/-D 99 -/
/-D 100 -/
/-D 82 -/
/-D 72 -/
/-D 23 -/
/-D 74 -/
/-D 89 -/
/-D 75 -/
/-D 27 -/
/-D 76 -/
/-D 29 -/
/-D 78 -/
/-D 31 -/
/-D 33 -/
/-D 34 -/
/-D 81 -/
/-D 36 -/
/-D 84 -/
/-D 38 -/
/-D 41 -/
/-D 40 -/
/-D 43 -/
/-D 90 -/
/-D 91 -/
/-D 45 -/
/-D 47 -/
abbrev YCD156 := Int → Int → Int → Int → Int → Int → Int → Int → Int → Int → Int → Int → Int → Int → Int → Int → Int → Int → Int → Int → LP → Option R47
noncomputable def DF47_1 (n : Nat × Nat) (f1 : YCD156) (year2 : Int) (v14 : Int) (v15 : Int) (a3_0 : Int) (a3_1 : Int) (a3_2 : Int) (a3_3 : Int) (a3_4 : Int) (a3_5 : Int) (a3_6 : Int) (a3_7 : Int) (a3_8 : Int) (a3_9 : Int) (a3_10 : Int) (a3_11 : Int) (a3_12 : Int) (a3_13 : Int) (a3_14 : Int) (a3_15 : Int) (a3_16 : Int) (out7 : LP) : Option R47 :=
    (bif decide (v15 < v14) then (bif inB v15 8 then (idx [a3_1,a3_2,a3_3,a3_4,a3_5,a3_6,a3_7,a3_8] v15).bind fun x1' =>
        (bif (wr .i64 (year2 + 1)) == 0 then none
        else (bif inB v15 8 then (idx [a3_9,a3_10,a3_11,a3_12,a3_13,a3_14,a3_15,a3_16] v15).bind fun x2' =>
            (bif 9 == 0 then none
            else (bif decide (out7.length + [(Int.tmod (wr .i64 x1') (wr .i64 (year2 + 1)),wr .i64 (1 + (Int.tmod (wr .i64 x2') 9)))].length ≤ lim) then f1 year2 v14 (wr .i64 (v15 + 1)) a3_0 a3_1 a3_2 a3_3 a3_4 a3_5 a3_6 a3_7 a3_8 a3_9 a3_10 a3_11 a3_12 a3_13 a3_14 a3_15 a3_16 (out7 ++ [(Int.tmod (wr .i64 x1') (wr .i64 (year2 + 1)),wr .i64 (1 + (Int.tmod (wr .i64 x2') 9)))])
              else none))
          else none))
      else none)
    else some out7)
noncomputable def DL47_1 (m : Nat) : YCD156 := Nat.rec (motive := fun _ => YCD156) (fun _ _ _ _ _ _ _ _ _ _ _ _ _ _ _ _ _ _ _ _ _ => none) (fun _ ih => DF47_1 n ih) m
theorem DL47_1_succ (m : Nat) : DL47_1 n (m + 1) = DF47_1 n (DL47_1 n m) := rfl
theorem DL47_1_eq (n : Nat × Nat) (hn : n.2 = 1) : ∀ m,L47_1 n m = DL47_1 n m
  | 0 => by funext year2 v14 v15 a3_0 a3_1 a3_2 a3_3 a3_4 a3_5 a3_6 a3_7 a3_8 a3_9 a3_10 a3_11 a3_12 a3_13 a3_14 a3_15 a3_16 out7; kernel_rfl
  | m + 1 => by
    have ih := DL47_1_eq n hn m
    funext year2 v14 v15 a3_0 a3_1 a3_2 a3_3 a3_4 a3_5 a3_6 a3_7 a3_8 a3_9 a3_10 a3_11 a3_12 a3_13 a3_14 a3_15 a3_16 out7; refine (L47_1_eq n m year2 v14 v15 a3_0 a3_1 a3_2 a3_3 a3_4 a3_5 a3_6 a3_7 a3_8 a3_9 a3_10 a3_11 a3_12 a3_13 a3_14 a3_15 a3_16 out7).trans ?_
    rw [DL47_1_succ]
    unfold DF47_1
    (try simp only [ih]) <;> first | with_reducible rfl | rfl
noncomputable def D47 (a0 : Int × (Int × Int × Int × Int × Int × Int × Int × Int) × Int × Int × Int × Int × Int × Int × Int × Int) (many1 : Int) (year2 : Int) : Option R47 :=
    (bif many1 == 0 then none
    else DL47_1 n n.1 year2 (wr .i64 (1 + (Int.tmod (wr .i64 a0.1) many1))) 0 a0.1 a0.2.1.1 a0.2.1.2.1 a0.2.1.2.2.1 a0.2.1.2.2.2.1 a0.2.1.2.2.2.2.1 a0.2.1.2.2.2.2.2.1 a0.2.1.2.2.2.2.2.2.1 a0.2.1.2.2.2.2.2.2.2 a0.2.2.1 a0.2.2.2.1 a0.2.2.2.2.1 a0.2.2.2.2.2.1 a0.2.2.2.2.2.2.1 a0.2.2.2.2.2.2.2.1 a0.2.2.2.2.2.2.2.2.1 a0.2.2.2.2.2.2.2.2.2 [])
theorem S47_D (hn : n.2 = 1) : S47 n = D47 n := by
  funext a0 many1 year2; refine (S47_eq n a0 many1 year2).trans ?_
  unfold D47
  (try simp only [DL47_1_eq n hn]) <;> first | with_reducible rfl | rfl
/-D 49 -/
noncomputable def DF49_1 (n : Nat × Nat) (f1 : Int → Int → Option R49) (a0 : Int) (b1 : Int) : Option R49 :=
    (bif (b1 != 0) then (bif b1 == 0 then none
      else f1 b1 (Int.tmod a0 b1))
    else some a0)
noncomputable def DL49_1 (m : Nat) : Int → Int → Option R49 := Nat.rec (motive := fun _ => Int → Int → Option R49) (fun _ _ => none) (fun _ ih => DF49_1 n ih) m
theorem DL49_1_succ (m : Nat) : DL49_1 n (m + 1) = DF49_1 n (DL49_1 n m) := rfl
theorem DL49_1_eq (n : Nat × Nat) (hn : n.2 = 1) : ∀ m,L49_1 n m = DL49_1 n m
  | 0 => by funext a0 b1; kernel_rfl
  | m + 1 => by
    have ih := DL49_1_eq n hn m
    funext a0 b1; refine (L49_1_eq n m a0 b1).trans ?_
    rw [DL49_1_succ]
    unfold DF49_1
    (try simp only [ih]) <;> first | with_reducible rfl | rfl
noncomputable def D49 (a0 : Int) (b1 : Int) : Option R49 :=
    DL49_1 n n.1 (if (wr .i64 (0 - a0)) > a0 then (wr .i64 (0 - a0)) else a0) (if (wr .i64 (0 - b1)) > b1 then (wr .i64 (0 - b1)) else b1)
theorem S49_D (hn : n.2 = 1) : S49 n = D49 n := by
  funext a0 b1; refine (S49_eq n a0 b1).trans ?_
  unfold D49
  (try simp only [DL49_1_eq n hn]) <;> first | with_reducible rfl | rfl
/-D 53 -/
noncomputable def D53 (f0 : Int × Int) (low1 : Int) (high2 : Int) : Option R53 :=
    ((bif (decide (f0.2 > 0) == true) then some (decide (f0.2 ≤ 72))
      else some false)).bind fun b1' =>
    ((bif (b1' == true) then some (decide (f0.1 ≥ wr .i64 (low1 * f0.2)))
      else some false)).bind fun b2' =>
    ((bif (b2' == true) then some (decide (f0.1 ≤ wr .i64 (high2 * f0.2)))
      else some false)).bind fun b3' =>
    ((bif (b3' == true) then (D49 n f0.1 f0.2).bind fun r4' =>
        some (r4' == 1)
      else some false)).bind fun b5' =>
    some b5'
theorem S53_D (hn : n.2 = 1) : S53 n = D53 n := by
  funext f0 low1 high2; refine (S53_eq n f0 low1 high2).trans ?_
  unfold D53
  (try simp only [S49_D n hn]) <;> first | with_reducible rfl | rfl
/-D 92 -/
noncomputable def D92 (f0 : Int × Int) : Option R92 :=
    (D53 n f0 0 100).bind fun r1' =>
    some (!r1')
theorem S92_D (hn : n.2 = 1) : S92 n = D92 n := by
  funext f0; refine (S92_eq n f0).trans ?_
  unfold D92
  (try simp only [S53_D n hn]) <;> first | with_reducible rfl | rfl
/-D 106c92 -/
abbrev YCD157 := LP → Int → Int → Option R106c92
noncomputable def DF106c92_1 (f1 : YCD157) (s0 : LP) (v7 : Int) (v8 : Int) : Option R106c92 :=
    (bif decide (v8 < v7) then (idx s0 v8).bind fun x1' =>
      (D92 n x1').bind fun r2' =>
      (bif r2' then some v8
      else f1 s0 v7 (wr .i64 (v8 + 1)))
    else some (-1))
noncomputable def DL106c92_1 (m : Nat) : YCD157 := Nat.rec (motive := fun _ => YCD157) (fun _ _ _ => none) (fun _ ih => DF106c92_1 n ih) m
theorem DL106c92_1_succ (m : Nat) : DL106c92_1 n (m + 1) = DF106c92_1 n (DL106c92_1 n m) := rfl
theorem DL106c92_1_eq (n : Nat × Nat) (hn : n.2 = 1) : ∀ m,L106c92_1 n m = DL106c92_1 n m
  | 0 => by funext s0 v7 v8; kernel_rfl
  | m + 1 => by
    have ih := DL106c92_1_eq n hn m
    funext s0 v7 v8; refine (L106c92_1_eq n m s0 v7 v8).trans ?_
    rw [DL106c92_1_succ]
    unfold DF106c92_1
    (try simp only [ih,S92_D n hn]) <;> first | with_reducible rfl | rfl
noncomputable def D106c92 (s0 : LP) : Option R106c92 :=
    DL106c92_1 n n.1 s0 (s0.length : Int) 0
theorem S106c92_D (hn : n.2 = 1) : S106c92 n = D106c92 n := by
  funext s0; refine (S106c92_eq n s0).trans ?_
  unfold D106c92
  (try simp only [DL106c92_1_eq n hn,S92_D n hn]) <;> first | with_reducible rfl | rfl
/-D 85c92 -/
noncomputable def D85c92 (s0 : LP) : Option R85c92 :=
    (D106c92 n s0).bind fun r1' =>
    some (decide (r1' ≥ 0))
theorem S85c92_D (hn : n.2 = 1) : S85c92 n = D85c92 n := by
  funext s0; refine (S85c92_eq n s0).trans ?_
  unfold D85c92
  (try simp only [S106c92_D n hn]) <;> first | with_reducible rfl | rfl
/-D 48 -/
noncomputable def D48 (l0 : LP) (v1 : Int) : Option R48 :=
    ((bif (((l0.length : Int) == v1) == true) then (D85c92 n l0).bind fun r1' =>
        some (!r1')
      else some false)).bind fun b2' =>
    some b2'
theorem S48_D (hn : n.2 = 1) : S48 n = D48 n := by
  funext l0 v1; refine (S48_eq n l0 v1).trans ?_
  unfold D48
  (try simp only [S85c92_D n hn]) <;> first | with_reducible rfl | rfl
/-D 66 -/
abbrev YCD158 := Int → Int → LP → Int → Int → Option R66
noncomputable def DF66_1 (n : Nat × Nat) (f1 : YCD158) (v4 : Int) (t5 : Int) (v8 : LP) (v9 : Int) (v10 : Int) : Option R66 :=
    (bif decide (v10 < v9) then (idx v8 v10).bind fun x1' =>
      f1 (wr .i64 (v4 + (wr .i64 (x1'.1 * x1'.2)))) (wr .i64 (t5 + x1'.2)) v8 v9 (wr .i64 (v10 + 1))
    else some (v4,t5))
noncomputable def DL66_1 (m : Nat) : YCD158 := Nat.rec (motive := fun _ => YCD158) (fun _ _ _ _ _ => none) (fun _ ih => DF66_1 n ih) m
theorem DL66_1_succ (m : Nat) : DL66_1 n (m + 1) = DF66_1 n (DL66_1 n m) := rfl
theorem DL66_1_eq (n : Nat × Nat) (hn : n.2 = 1) : ∀ m,L66_1 n m = DL66_1 n m
  | 0 => by funext v4 t5 v8 v9 v10; kernel_rfl
  | m + 1 => by
    have ih := DL66_1_eq n hn m
    funext v4 t5 v8 v9 v10; refine (L66_1_eq n m v4 t5 v8 v9 v10).trans ?_
    rw [DL66_1_succ]
    unfold DF66_1
    (try simp only [ih]) <;> first | with_reducible rfl | rfl
noncomputable def D66 (l0 : LP) : Option R66 :=
    DL66_1 n n.1 0 0 l0 (l0.length : Int) 0
theorem S66_D (hn : n.2 = 1) : S66 n = D66 n := by
  funext l0; refine (S66_eq n l0).trans ?_
  unfold D66
  (try simp only [DL66_1_eq n hn]) <;> first | with_reducible rfl | rfl
/-D 50 -/
noncomputable def D50 (l0 : LP) : Option R50 :=
    (D66 n l0).bind fun r1' =>
    (D49 n r1'.1 r1'.2).bind fun r2' =>
    (bif r2' == 0 then none
    else (bif r2' == 0 then none
      else (D52 n (wr .i64 (Int.tdiv r1'.1 r2')) (wr .i64 (Int.tdiv r1'.2 r2'))).bind fun r3' =>
        some r3'))
theorem S50_D (hn : n.2 = 1) : S50 n = D50 n := by
  funext l0; refine (S50_eq n l0).trans ?_
  unfold D50
  (try simp only [S49_D n hn,S52_D n hn,S66_D n hn]) <;> first | with_reducible rfl | rfl
/-D 61 -/
/-D 62 -/
noncomputable def D62 (n : Nat × Nat) (a0 : Int × Int) (b1 : Int × Int) : Option R62 :=
    some (wr .i64 ((wr .i64 (a0.1 * b1.2)) - (wr .i64 (b1.1 * a0.2))))
theorem S62_D (hn : n.2 = 1) : S62 n = D62 n := by
  funext a0 b1; refine (S62_eq n a0 b1).trans ?_
  unfold D62
  first | with_reducible rfl | rfl
/-D 65 -/
/-D 108 -/
noncomputable def D108 (n : Nat × Nat) (x0 : Int) (y1 : Int) : Option R108 :=
    (bif decide (32 < 0) then none
    else some (wr .u32 (Int.fdiv (wr .u64 ((wr .u64 x0) * (wr .u64 y1))) (2 ^ (min (Int.toNat 32) (IntKind.bits .u64)))),wr .u32 (wr .u64 ((wr .u64 x0) * (wr .u64 y1)))))
theorem S108_D (hn : n.2 = 1) : S108 n = D108 n := by
  funext x0 y1; refine (S108_eq n x0 y1).trans ?_
  unfold D108
  first | with_reducible rfl | rfl
/-D 109 -/
noncomputable def D109 (n : Nat × Nat) (x0 : Int) (y1 : Int) : Option R109 :=
    (bif decide (32 < 0) then none
    else (bif decide (32 < 0) then none
      else (bif decide (32 < 0) then none
        else (bif decide (32 < 0) then none
          else (bif decide (32 < 0) then none
            else some (wr .u64 ((wr .u64 ((wr .u64 ((Int.fdiv x0 (2 ^ (min (Int.toNat 32) (IntKind.bits .u64)))) * (Int.fdiv y1 (2 ^ (min (Int.toNat 32) (IntKind.bits .u64)))))) + (Int.fdiv (wr .u64 ((wr .u64 ((Int.fdiv x0 (2 ^ (min (Int.toNat 32) (IntKind.bits .u64)))) * (wr .u64 (BitVec.ofInt (IntKind.bits .u64) y1 &&& BitVec.ofInt (IntKind.bits .u64) 4294967295).toNat))) + (Int.fdiv (wr .u64 ((wr .u64 (BitVec.ofInt (IntKind.bits .u64) x0 &&& BitVec.ofInt (IntKind.bits .u64) 4294967295).toNat) * (wr .u64 (BitVec.ofInt (IntKind.bits .u64) y1 &&& BitVec.ofInt (IntKind.bits .u64) 4294967295).toNat))) (2 ^ (min (Int.toNat 32) (IntKind.bits .u64)))))) (2 ^ (min (Int.toNat 32) (IntKind.bits .u64)))))) + (Int.fdiv (wr .u64 ((wr .u64 (BitVec.ofInt (IntKind.bits .u64) (wr .u64 ((wr .u64 ((Int.fdiv x0 (2 ^ (min (Int.toNat 32) (IntKind.bits .u64)))) * (wr .u64 (BitVec.ofInt (IntKind.bits .u64) y1 &&& BitVec.ofInt (IntKind.bits .u64) 4294967295).toNat))) + (Int.fdiv (wr .u64 ((wr .u64 (BitVec.ofInt (IntKind.bits .u64) x0 &&& BitVec.ofInt (IntKind.bits .u64) 4294967295).toNat) * (wr .u64 (BitVec.ofInt (IntKind.bits .u64) y1 &&& BitVec.ofInt (IntKind.bits .u64) 4294967295).toNat))) (2 ^ (min (Int.toNat 32) (IntKind.bits .u64)))))) &&& BitVec.ofInt (IntKind.bits .u64) 4294967295).toNat) + (wr .u64 ((wr .u64 (BitVec.ofInt (IntKind.bits .u64) x0 &&& BitVec.ofInt (IntKind.bits .u64) 4294967295).toNat) * (Int.fdiv y1 (2 ^ (min (Int.toNat 32) (IntKind.bits .u64)))))))) (2 ^ (min (Int.toNat 32) (IntKind.bits .u64))))),wr .u64 (x0 * y1)))))))
theorem S109_D (hn : n.2 = 1) : S109 n = D109 n := by
  funext x0 y1; refine (S109_eq n x0 y1).trans ?_
  unfold D109
  first | with_reducible rfl | rfl
/-D 95 -/
noncomputable def D95 (x0 : Int) (y1 : Int) : Option R95 :=
    (bif false then (D108 n (wr .u32 x0) (wr .u32 y1)).bind fun r1' =>
      some (wr .u64 r1'.1,wr .u64 r1'.2)
    else (D109 n x0 y1).bind fun r2' =>
      some (r2'.1,r2'.2))
theorem S95_D (hn : n.2 = 1) : S95 n = D95 n := by
  funext x0 y1; refine (S95_eq n x0 y1).trans ?_
  unfold D95
  (try simp only [S108_D n hn,S109_D n hn]) <;> first | with_reducible rfl | rfl
/-D 67 -/
abbrev YCD164 := Int → LP → Option R67
noncomputable def DF67_1 (n : Nat × Nat) (f1 : YCD164) (v8 : Int) (newslice7 : LP) : Option R67 :=
    (bif decide (v8 < (newslice7.length : Int)) then (bif bounds (some v8) none none newslice7.length then (bif bounds none (some v8) none newslice7.length then f1 (wr .i64 (v8 + ((min ((newslice7.drop (0 + 0)).take ((Int.toNat v8) - 0)).length ((newslice7.drop (0 + (Int.toNat v8))).take (newslice7.length - (Int.toNat v8))).length : Nat) : Int))) (newslice7.take (0 + (Int.toNat v8)) ++ ((newslice7.drop (0 + 0)).take ((Int.toNat v8) - 0)).take (min ((newslice7.drop (0 + 0)).take ((Int.toNat v8) - 0)).length ((newslice7.drop (0 + (Int.toNat v8))).take (newslice7.length - (Int.toNat v8))).length) ++ newslice7.drop ((0 + (Int.toNat v8)) + min ((newslice7.drop (0 + 0)).take ((Int.toNat v8) - 0)).length ((newslice7.drop (0 + (Int.toNat v8))).take (newslice7.length - (Int.toNat v8))).length))
        else none)
      else none)
    else some newslice7)
noncomputable def DL67_1 (m : Nat) : YCD164 := Nat.rec (motive := fun _ => YCD164) (fun _ _ => none) (fun _ ih => DF67_1 n ih) m
theorem DL67_1_succ (m : Nat) : DL67_1 n (m + 1) = DF67_1 n (DL67_1 n m) := rfl
theorem DL67_1_eq (n : Nat × Nat) (hn : n.2 = 1) : ∀ m,L67_1 n m = DL67_1 n m
  | 0 => by funext v8 newslice7; kernel_rfl
  | m + 1 => by
    have ih := DL67_1_eq n hn m
    funext v8 newslice7; refine (L67_1_eq n m v8 newslice7).trans ?_
    rw [DL67_1_succ]
    unfold DF67_1
    (try simp only [ih,S95_D n hn]) <;> first | with_reducible rfl | rfl
noncomputable def D67 (x0 : LP) (count1 : Int) : Option R67 :=
    (bif decide (count1 < 0) then none
    else (D95 n (wr .u64 (x0.length : Int)) (wr .u64 count1)).bind fun r1' =>
      ((bif (decide (r1'.1 > 0) == false) then some (decide (r1'.2 > 9223372036854775807))
        else some true)).bind fun b2' =>
      (bif b2' then none
      else (bif decide (0 ≤ wr .i64 r1'.2) && decide (wr .i64 r1'.2 ≤ wr .i64 r1'.2) && decide (wr .i64 r1'.2 ≤ lim) then DL67_1 n n.1 ((min x0.length (List.replicate (Int.toNat (wr .i64 r1'.2)) (zero (.pair (.int .i64) (.int .i64)) : Int × Int)).length : Nat) : Int) ((List.replicate (Int.toNat (wr .i64 r1'.2)) (zero (.pair (.int .i64) (.int .i64)) : Int × Int)).take 0 ++ x0.take (min x0.length (List.replicate (Int.toNat (wr .i64 r1'.2)) (zero (.pair (.int .i64) (.int .i64)) : Int × Int)).length) ++ (List.replicate (Int.toNat (wr .i64 r1'.2)) (zero (.pair (.int .i64) (.int .i64)) : Int × Int)).drop (0 + min x0.length (List.replicate (Int.toNat (wr .i64 r1'.2)) (zero (.pair (.int .i64) (.int .i64)) : Int × Int)).length))
        else none)))
theorem S67_D (hn : n.2 = 1) : S67 n = D67 n := by
  funext x0 count1; refine (S67_eq n x0 count1).trans ?_
  unfold D67
  (try simp only [DL67_1_eq n hn,S95_D n hn]) <;> first | with_reducible rfl | rfl
/-D 68 -/
abbrev YCD165 := (List LP) → Int → (List LP) → Int → Int → Option R68
noncomputable def DL68_2 (n : Nat × Nat) (f1 : YCD165) (slices0 : List LP) (size3 : Int) (v9 : List LP) (v10 : Int) (v11 : Int) : Option R68 :=
    f1 slices0 size3 v9 v10 (wr .i64 (v11 + 1))
theorem DL68_2_eq (hn : n.2 = 1) (m1 : Nat) : L68_2 n m1 = DL68_2 n (L68_1 n m1) := by
  funext slices0 size3 v9 v10 v11; refine ((held_eq hn _).trans (L68_2_raw n m1 slices0 size3 v9 v10 v11)).trans ?_
  unfold DL68_2
  first | with_reducible rfl | rfl
abbrev YCD166 := (List LP) → Int → Int → LP → Option R68
noncomputable def DF68_3 (n : Nat × Nat) (f1 : YCD166) (v25 : List LP) (v26 : Int) (v27 : Int) (newslice6 : LP) : Option R68 :=
    (bif decide (v27 < v26) then (idx v25 v27).bind fun x2' =>
      (bif decide (newslice6.length + x2'.length ≤ lim) then f1 v25 v26 (wr .i64 (v27 + 1)) (newslice6 ++ x2')
      else none)
    else some newslice6)
noncomputable def DL68_3 (m : Nat) : YCD166 := Nat.rec (motive := fun _ => YCD166) (fun _ _ _ _ => none) (fun _ ih => DF68_3 n ih) m
theorem DL68_3_succ (m : Nat) : DL68_3 n (m + 1) = DF68_3 n (DL68_3 n m) := rfl
theorem DL68_3_eq (n : Nat × Nat) (hn : n.2 = 1) : ∀ m,L68_3 n m = DL68_3 n m
  | 0 => by funext v25 v26 v27 newslice6; kernel_rfl
  | m + 1 => by
    have ih := DL68_3_eq n hn m
    funext v25 v26 v27 newslice6; refine (L68_3_eq n m v25 v26 v27 newslice6).trans ?_
    rw [DL68_3_succ]
    unfold DF68_3
    (try simp only [ih,DL68_2_eq n hn]) <;> first | with_reducible rfl | rfl
noncomputable def DF68_1 (f1 : YCD165) (slices0 : List LP) (size3 : Int) (v9 : List LP) (v10 : Int) (v11 : Int) : Option R68 :=
    (bif decide (v11 < v10) then (idx v9 v11).bind fun x1' =>
      (bif decide (wr .i64 (size3 + (x1'.length : Int)) < 0) then none
      else DL68_2 n f1 slices0 (wr .i64 (size3 + (x1'.length : Int))) v9 v10 v11)
    else (bif decide (0 ≤ size3) && decide (size3 ≤ 1073741824) then DL68_3 n n.1 slices0 (slices0.length : Int) 0 []
      else none))
noncomputable def DL68_1 (m : Nat) : YCD165 := Nat.rec (motive := fun _ => YCD165) (fun _ _ _ _ _ => none) (fun _ ih => DF68_1 n ih) m
theorem DL68_1_succ (m : Nat) : DL68_1 n (m + 1) = DF68_1 n (DL68_1 n m) := rfl
theorem DL68_1_eq (n : Nat × Nat) (hn : n.2 = 1) : ∀ m,L68_1 n m = DL68_1 n m
  | 0 => by funext slices0 size3 v9 v10 v11; kernel_rfl
  | m + 1 => by
    have ih := DL68_1_eq n hn m
    funext slices0 size3 v9 v10 v11; refine (L68_1_eq n m slices0 size3 v9 v10 v11).trans ?_
    rw [DL68_1_succ]
    unfold DF68_1
    (try simp only [ih,DL68_2_eq n hn,DL68_3_eq n hn]) <;> first | with_reducible rfl | rfl
noncomputable def D68 (slices0 : List LP) : Option R68 :=
    DL68_1 n n.1 slices0 0 slices0 (slices0.length : Int) 0
theorem S68_D (hn : n.2 = 1) : S68 n = D68 n := by
  funext slices0; refine (S68_eq n slices0).trans ?_
  unfold D68
  (try simp only [DL68_2_eq n hn,DL68_3_eq n hn,DL68_1_eq n hn]) <;> first | with_reducible rfl | rfl
end Go.Proofs.Ytombednapelokaa
