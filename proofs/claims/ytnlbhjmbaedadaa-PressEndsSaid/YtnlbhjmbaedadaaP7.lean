/- Texts of this claim, joined: D96c86io10001 to Pa. -/
import Derived.KernelRfl
import Derived.Test.YtnlbhjmbaedadaaProg
import Derived.WalkKit
import Derived.Test.YtnlbhjmbaedadaaP6
set_option linter.unusedVariables false
set_option linter.unusedSimpArgs false
set_option maxRecDepth 100000
namespace Go.Proofs.Ytnlbhjmbaedadaa
open Go.Vi
/-D 96c86io10001 -/
noncomputable def DF96c86io10001_4 (n : Nat × Nat) (SS : List Int → Int → Int → Int → (List (Int × Int)) → Option R96c86io10001) (f1 : Int → Int → List Int → (List (Int × Int)) → Option R96c86io10001) (i10 : Int) (k13 : Int) (v1000000000 : List Int) (v1000000001 : List (Int × Int)) : Option R96c86io10001 :=
    (bif decide (k13 < wr .i64 (i10 - 1)) then (bif inB (wr .i64 (k13 + 1)) v1000000000.length then (idx v1000000000 (wr .i64 (k13 + 1))).bind fun x24' =>
        (bif inB k13 v1000000000.length then (idx v1000000000 k13).bind fun x25' =>
          (bif inB k13 v1000000000.length then (idx v1000000000 k13).bind fun x26' =>
            (bif inB (wr .i64 (k13 + 1)) (v1000000000.set (Int.toNat k13) x24').length then (idx (v1000000000.set (Int.toNat k13) x24') (wr .i64 (k13 + 1))).bind fun x27' =>
              f1 i10 (wr .i64 (k13 + 1)) ((v1000000000.set (Int.toNat k13) x24').set (Int.toNat (wr .i64 (k13 + 1))) x25') v1000000001
            else none)
          else none)
        else none)
      else none)
    else some ((), v1000000000, v1000000001, ()))
noncomputable def DL96c86io10001_4 (n : Nat × Nat) (SS : List Int → Int → Int → Int → (List (Int × Int)) → Option R96c86io10001) (m : Nat) : Int → Int → List Int → (List (Int × Int)) → Option R96c86io10001 := Nat.rec (motive := fun _ => Int → Int → List Int → (List (Int × Int)) → Option R96c86io10001) (fun _ _ _ _ => none) (fun _ ih => DF96c86io10001_4 n SS ih) m
theorem DL96c86io10001_4_succ (n : Nat × Nat) (SS : List Int → Int → Int → Int → (List (Int × Int)) → Option R96c86io10001) (m : Nat) : DL96c86io10001_4 n SS (m + 1) = DF96c86io10001_4 n SS (DL96c86io10001_4 n SS m) := rfl
theorem DL96c86io10001_4_eq (n : Nat × Nat) (hn : n.2 = 1) (SS : List Int → Int → Int → Int → (List (Int × Int)) → Option R96c86io10001) : ∀ m, L96c86io10001_4 n SS m = DL96c86io10001_4 n SS m
  | 0 => by funext i10 k13 v1000000000 v1000000001; kernel_rfl
  | m + 1 => by
    have ih := DL96c86io10001_4_eq n hn SS m
    funext i10 k13 v1000000000 v1000000001; refine (L96c86io10001_4_eq n SS m i10 k13 v1000000000 v1000000001).trans ?_
    rw [DL96c86io10001_4_succ]
    unfold DF96c86io10001_4
    (try simp only [ih, S86_D n hn, S97c86io10001_D n hn]) <;> first | with_reducible rfl | rfl
noncomputable def DF96c86io10001_1 (n : Nat × Nat) (SS : List Int → Int → Int → Int → (List (Int × Int)) → Option R96c86io10001) (f1 : Int → Int → Int → List Int → (List (Int × Int)) → Option R96c86io10001) (a1 : Int) (i10 : Int) (j11 : Int) (v1000000000 : List Int) (v1000000001 : List (Int × Int)) : Option R96c86io10001 :=
    (bif decide (i10 < j11) then (bif decide (1 < 0) then none
      else (bif inB (wr .i64 (Int.fdiv (wr .u64 (wr .i64 (i10 + j11))) (2 ^ (min (Int.toNat 1) (IntKind.bits .u64))))) v1000000000.length then (idx v1000000000 (wr .i64 (Int.fdiv (wr .u64 (wr .i64 (i10 + j11))) (2 ^ (min (Int.toNat 1) (IntKind.bits .u64)))))).bind fun x1' =>
          (bif inB a1 v1000000000.length then (idx v1000000000 a1).bind fun x2' =>
            (D86 n x1' x2' v1000000001).bind fun r3' =>
            (bif decide (r3' < 0) then f1 a1 (wr .i64 ((wr .i64 (Int.fdiv (wr .u64 (wr .i64 (i10 + j11))) (2 ^ (min (Int.toNat 1) (IntKind.bits .u64))))) + 1)) j11 v1000000000 v1000000001
            else f1 a1 i10 (wr .i64 (Int.fdiv (wr .u64 (wr .i64 (i10 + j11))) (2 ^ (min (Int.toNat 1) (IntKind.bits .u64))))) v1000000000 v1000000001)
          else none)
        else none))
    else DL96c86io10001_4 n SS n.1 i10 a1 v1000000000 v1000000001)
noncomputable def DL96c86io10001_1 (n : Nat × Nat) (SS : List Int → Int → Int → Int → (List (Int × Int)) → Option R96c86io10001) (m : Nat) : Int → Int → Int → List Int → (List (Int × Int)) → Option R96c86io10001 := Nat.rec (motive := fun _ => Int → Int → Int → List Int → (List (Int × Int)) → Option R96c86io10001) (fun _ _ _ _ _ => none) (fun _ ih => DF96c86io10001_1 n SS ih) m
theorem DL96c86io10001_1_succ (n : Nat × Nat) (SS : List Int → Int → Int → Int → (List (Int × Int)) → Option R96c86io10001) (m : Nat) : DL96c86io10001_1 n SS (m + 1) = DF96c86io10001_1 n SS (DL96c86io10001_1 n SS m) := rfl
theorem DL96c86io10001_1_eq (n : Nat × Nat) (hn : n.2 = 1) (SS : List Int → Int → Int → Int → (List (Int × Int)) → Option R96c86io10001) : ∀ m, L96c86io10001_1 n SS m = DL96c86io10001_1 n SS m
  | 0 => by funext a1 i10 j11 v1000000000 v1000000001; kernel_rfl
  | m + 1 => by
    have ih := DL96c86io10001_1_eq n hn SS m
    funext a1 i10 j11 v1000000000 v1000000001; refine (L96c86io10001_1_eq n SS m a1 i10 j11 v1000000000 v1000000001).trans ?_
    rw [DL96c86io10001_1_succ]
    unfold DF96c86io10001_1
    (try simp only [ih, DL96c86io10001_4_eq n hn SS, S86_D n hn, S97c86io10001_D n hn]) <;> first | with_reducible rfl | rfl
noncomputable def DF96c86io10001_5 (n : Nat × Nat) (SS : List Int → Int → Int → Int → (List (Int × Int)) → Option R96c86io10001) (f1 : Int → Int → List Int → (List (Int × Int)) → Option R96c86io10001) (i14 : Int) (k17 : Int) (v1000000000 : List Int) (v1000000001 : List (Int × Int)) : Option R96c86io10001 :=
    (bif decide (k17 > i14) then (bif inB (wr .i64 (k17 - 1)) v1000000000.length then (idx v1000000000 (wr .i64 (k17 - 1))).bind fun x28' =>
        (bif inB k17 v1000000000.length then (idx v1000000000 k17).bind fun x29' =>
          (bif inB k17 v1000000000.length then (idx v1000000000 k17).bind fun x30' =>
            (bif inB (wr .i64 (k17 - 1)) (v1000000000.set (Int.toNat k17) x28').length then (idx (v1000000000.set (Int.toNat k17) x28') (wr .i64 (k17 - 1))).bind fun x31' =>
              f1 i14 (wr .i64 (k17 - 1)) ((v1000000000.set (Int.toNat k17) x28').set (Int.toNat (wr .i64 (k17 - 1))) x29') v1000000001
            else none)
          else none)
        else none)
      else none)
    else some ((), v1000000000, v1000000001, ()))
noncomputable def DL96c86io10001_5 (n : Nat × Nat) (SS : List Int → Int → Int → Int → (List (Int × Int)) → Option R96c86io10001) (m : Nat) : Int → Int → List Int → (List (Int × Int)) → Option R96c86io10001 := Nat.rec (motive := fun _ => Int → Int → List Int → (List (Int × Int)) → Option R96c86io10001) (fun _ _ _ _ => none) (fun _ ih => DF96c86io10001_5 n SS ih) m
theorem DL96c86io10001_5_succ (n : Nat × Nat) (SS : List Int → Int → Int → Int → (List (Int × Int)) → Option R96c86io10001) (m : Nat) : DL96c86io10001_5 n SS (m + 1) = DF96c86io10001_5 n SS (DL96c86io10001_5 n SS m) := rfl
theorem DL96c86io10001_5_eq (n : Nat × Nat) (hn : n.2 = 1) (SS : List Int → Int → Int → Int → (List (Int × Int)) → Option R96c86io10001) : ∀ m, L96c86io10001_5 n SS m = DL96c86io10001_5 n SS m
  | 0 => by funext i14 k17 v1000000000 v1000000001; kernel_rfl
  | m + 1 => by
    have ih := DL96c86io10001_5_eq n hn SS m
    funext i14 k17 v1000000000 v1000000001; refine (L96c86io10001_5_eq n SS m i14 k17 v1000000000 v1000000001).trans ?_
    rw [DL96c86io10001_5_succ]
    unfold DF96c86io10001_5
    (try simp only [ih, DL96c86io10001_4_eq n hn SS, DL96c86io10001_1_eq n hn SS, S86_D n hn, S97c86io10001_D n hn]) <;> first | with_reducible rfl | rfl
noncomputable def DF96c86io10001_2 (n : Nat × Nat) (SS : List Int → Int → Int → Int → (List (Int × Int)) → Option R96c86io10001) (f1 : Int → Int → Int → List Int → (List (Int × Int)) → Option R96c86io10001) (m2 : Int) (i14 : Int) (j15 : Int) (v1000000000 : List Int) (v1000000001 : List (Int × Int)) : Option R96c86io10001 :=
    (bif decide (i14 < j15) then (bif decide (1 < 0) then none
      else (bif inB m2 v1000000000.length then (idx v1000000000 m2).bind fun x4' =>
          (bif inB (wr .i64 (Int.fdiv (wr .u64 (wr .i64 (i14 + j15))) (2 ^ (min (Int.toNat 1) (IntKind.bits .u64))))) v1000000000.length then (idx v1000000000 (wr .i64 (Int.fdiv (wr .u64 (wr .i64 (i14 + j15))) (2 ^ (min (Int.toNat 1) (IntKind.bits .u64)))))).bind fun x5' =>
            (D86 n x4' x5' v1000000001).bind fun r6' =>
            (bif (!(decide (r6' < 0))) then f1 m2 (wr .i64 ((wr .i64 (Int.fdiv (wr .u64 (wr .i64 (i14 + j15))) (2 ^ (min (Int.toNat 1) (IntKind.bits .u64))))) + 1)) j15 v1000000000 v1000000001
            else f1 m2 i14 (wr .i64 (Int.fdiv (wr .u64 (wr .i64 (i14 + j15))) (2 ^ (min (Int.toNat 1) (IntKind.bits .u64))))) v1000000000 v1000000001)
          else none)
        else none))
    else DL96c86io10001_5 n SS n.1 i14 m2 v1000000000 v1000000001)
noncomputable def DL96c86io10001_2 (n : Nat × Nat) (SS : List Int → Int → Int → Int → (List (Int × Int)) → Option R96c86io10001) (m : Nat) : Int → Int → Int → List Int → (List (Int × Int)) → Option R96c86io10001 := Nat.rec (motive := fun _ => Int → Int → Int → List Int → (List (Int × Int)) → Option R96c86io10001) (fun _ _ _ _ _ => none) (fun _ ih => DF96c86io10001_2 n SS ih) m
theorem DL96c86io10001_2_succ (n : Nat × Nat) (SS : List Int → Int → Int → Int → (List (Int × Int)) → Option R96c86io10001) (m : Nat) : DL96c86io10001_2 n SS (m + 1) = DF96c86io10001_2 n SS (DL96c86io10001_2 n SS m) := rfl
theorem DL96c86io10001_2_eq (n : Nat × Nat) (hn : n.2 = 1) (SS : List Int → Int → Int → Int → (List (Int × Int)) → Option R96c86io10001) : ∀ m, L96c86io10001_2 n SS m = DL96c86io10001_2 n SS m
  | 0 => by funext m2 i14 j15 v1000000000 v1000000001; kernel_rfl
  | m + 1 => by
    have ih := DL96c86io10001_2_eq n hn SS m
    funext m2 i14 j15 v1000000000 v1000000001; refine (L96c86io10001_2_eq n SS m m2 i14 j15 v1000000000 v1000000001).trans ?_
    rw [DL96c86io10001_2_succ]
    unfold DF96c86io10001_2
    (try simp only [ih, DL96c86io10001_4_eq n hn SS, DL96c86io10001_1_eq n hn SS, DL96c86io10001_5_eq n hn SS, S86_D n hn, S97c86io10001_D n hn]) <;> first | with_reducible rfl | rfl
noncomputable def DF96c86io10001_3 (n : Nat × Nat) (SS : List Int → Int → Int → Int → (List (Int × Int)) → Option R96c86io10001) (f1 : Int → Int → Int → Int → Int → Int → Int → Int → List Int → (List (Int × Int)) → Option R96c86io10001) (a1 : Int) (m2 : Int) (b3 : Int) (mid18 : Int) (v19 : Int) (start20 : Int) (r21 : Int) (p22 : Int) (v1000000000 : List Int) (v1000000001 : List (Int × Int)) : Option R96c86io10001 :=
    (bif decide (start20 < r21) then (bif decide (1 < 0) then none
      else (bif inB (wr .i64 (p22 - (wr .i64 (Int.fdiv (wr .u64 (wr .i64 (start20 + r21))) (2 ^ (min (Int.toNat 1) (IntKind.bits .u64))))))) v1000000000.length then (idx v1000000000 (wr .i64 (p22 - (wr .i64 (Int.fdiv (wr .u64 (wr .i64 (start20 + r21))) (2 ^ (min (Int.toNat 1) (IntKind.bits .u64)))))))).bind fun x7' =>
          (bif inB (wr .i64 (Int.fdiv (wr .u64 (wr .i64 (start20 + r21))) (2 ^ (min (Int.toNat 1) (IntKind.bits .u64))))) v1000000000.length then (idx v1000000000 (wr .i64 (Int.fdiv (wr .u64 (wr .i64 (start20 + r21))) (2 ^ (min (Int.toNat 1) (IntKind.bits .u64)))))).bind fun x8' =>
            (D86 n x7' x8' v1000000001).bind fun r9' =>
            (bif (!(decide (r9' < 0))) then f1 a1 m2 b3 mid18 v19 (wr .i64 ((wr .i64 (Int.fdiv (wr .u64 (wr .i64 (start20 + r21))) (2 ^ (min (Int.toNat 1) (IntKind.bits .u64))))) + 1)) r21 p22 v1000000000 v1000000001
            else f1 a1 m2 b3 mid18 v19 start20 (wr .i64 (Int.fdiv (wr .u64 (wr .i64 (start20 + r21))) (2 ^ (min (Int.toNat 1) (IntKind.bits .u64))))) p22 v1000000000 v1000000001)
          else none)
        else none))
    else ((bif (decide (start20 < m2) == true) then some (decide (m2 < wr .i64 (v19 - start20)))
        else some false)).bind fun b10' =>
      (bif b10' then (D97c86io10001 n v1000000000 start20 m2 (wr .i64 (v19 - start20)) v1000000001).bind fun r11' =>
        (bif Nat.beq r11'.2.1.length v1000000000.length then ((bif (decide (a1 < start20) == true) then some (decide (start20 < mid18))
            else some false)).bind fun b12' =>
          (bif b12' then (SS r11'.2.1 a1 start20 mid18 r11'.2.2.1).bind fun r13' =>
            (bif Nat.beq r13'.2.1.length r11'.2.1.length then ((bif (decide (mid18 < wr .i64 (v19 - start20)) == true) then some (decide (wr .i64 (v19 - start20) < b3))
                else some false)).bind fun b14' =>
              (bif b14' then (SS r13'.2.1 mid18 (wr .i64 (v19 - start20)) b3 r13'.2.2.1).bind fun r15' =>
                (bif Nat.beq r15'.2.1.length r13'.2.1.length then some ((), r15'.2.1, r15'.2.2.1, ())
                else none)
              else some ((), r13'.2.1, r13'.2.2.1, ()))
            else none)
          else ((bif (decide (mid18 < wr .i64 (v19 - start20)) == true) then some (decide (wr .i64 (v19 - start20) < b3))
              else some false)).bind fun b16' =>
            (bif b16' then (SS r11'.2.1 mid18 (wr .i64 (v19 - start20)) b3 r11'.2.2.1).bind fun r17' =>
              (bif Nat.beq r17'.2.1.length r11'.2.1.length then some ((), r17'.2.1, r17'.2.2.1, ())
              else none)
            else some ((), r11'.2.1, r11'.2.2.1, ())))
        else none)
      else ((bif (decide (a1 < start20) == true) then some (decide (start20 < mid18))
          else some false)).bind fun b18' =>
        (bif b18' then (SS v1000000000 a1 start20 mid18 v1000000001).bind fun r19' =>
          (bif Nat.beq r19'.2.1.length v1000000000.length then ((bif (decide (mid18 < wr .i64 (v19 - start20)) == true) then some (decide (wr .i64 (v19 - start20) < b3))
              else some false)).bind fun b20' =>
            (bif b20' then (SS r19'.2.1 mid18 (wr .i64 (v19 - start20)) b3 r19'.2.2.1).bind fun r21' =>
              (bif Nat.beq r21'.2.1.length r19'.2.1.length then some ((), r21'.2.1, r21'.2.2.1, ())
              else none)
            else some ((), r19'.2.1, r19'.2.2.1, ()))
          else none)
        else ((bif (decide (mid18 < wr .i64 (v19 - start20)) == true) then some (decide (wr .i64 (v19 - start20) < b3))
            else some false)).bind fun b22' =>
          (bif b22' then (SS v1000000000 mid18 (wr .i64 (v19 - start20)) b3 v1000000001).bind fun r23' =>
            (bif Nat.beq r23'.2.1.length v1000000000.length then some ((), r23'.2.1, r23'.2.2.1, ())
            else none)
          else some ((), v1000000000, v1000000001, ())))))
noncomputable def DL96c86io10001_3 (n : Nat × Nat) (SS : List Int → Int → Int → Int → (List (Int × Int)) → Option R96c86io10001) (m : Nat) : Int → Int → Int → Int → Int → Int → Int → Int → List Int → (List (Int × Int)) → Option R96c86io10001 := Nat.rec (motive := fun _ => Int → Int → Int → Int → Int → Int → Int → Int → List Int → (List (Int × Int)) → Option R96c86io10001) (fun _ _ _ _ _ _ _ _ _ _ => none) (fun _ ih => DF96c86io10001_3 n SS ih) m
theorem DL96c86io10001_3_succ (n : Nat × Nat) (SS : List Int → Int → Int → Int → (List (Int × Int)) → Option R96c86io10001) (m : Nat) : DL96c86io10001_3 n SS (m + 1) = DF96c86io10001_3 n SS (DL96c86io10001_3 n SS m) := rfl
theorem DL96c86io10001_3_eq (n : Nat × Nat) (hn : n.2 = 1) (SS : List Int → Int → Int → Int → (List (Int × Int)) → Option R96c86io10001) : ∀ m, L96c86io10001_3 n SS m = DL96c86io10001_3 n SS m
  | 0 => by funext a1 m2 b3 mid18 v19 start20 r21 p22 v1000000000 v1000000001; kernel_rfl
  | m + 1 => by
    have ih := DL96c86io10001_3_eq n hn SS m
    funext a1 m2 b3 mid18 v19 start20 r21 p22 v1000000000 v1000000001; refine (L96c86io10001_3_eq n SS m a1 m2 b3 mid18 v19 start20 r21 p22 v1000000000 v1000000001).trans ?_
    rw [DL96c86io10001_3_succ]
    unfold DF96c86io10001_3
    (try simp only [ih, DL96c86io10001_4_eq n hn SS, DL96c86io10001_1_eq n hn SS, DL96c86io10001_5_eq n hn SS, DL96c86io10001_2_eq n hn SS, S86_D n hn, S97c86io10001_D n hn]) <;> first | with_reducible rfl | rfl
noncomputable def DB96c86io10001 (n : Nat × Nat) (SS : List Int → Int → Int → Int → (List (Int × Int)) → Option R96c86io10001) (data0 : List Int) (a1 : Int) (m2 : Int) (b3 : Int) (cp_4_0 : List (Int × Int)) : Option R96c86io10001 :=
    (bif ((wr .i64 (m2 - a1)) == 1) then DL96c86io10001_1 n SS n.1 a1 m2 b3 data0 cp_4_0
    else (bif ((wr .i64 (b3 - m2)) == 1) then DL96c86io10001_2 n SS n.1 m2 a1 m2 data0 cp_4_0
      else (bif decide (1 < 0) then none
        else (bif decide (m2 > wr .i64 (Int.fdiv (wr .u64 (wr .i64 (a1 + b3))) (2 ^ (min (Int.toNat 1) (IntKind.bits .u64))))) then DL96c86io10001_3 n SS n.1 a1 m2 b3 (wr .i64 (Int.fdiv (wr .u64 (wr .i64 (a1 + b3))) (2 ^ (min (Int.toNat 1) (IntKind.bits .u64))))) (wr .i64 ((wr .i64 (Int.fdiv (wr .u64 (wr .i64 (a1 + b3))) (2 ^ (min (Int.toNat 1) (IntKind.bits .u64))))) + m2)) (wr .i64 ((wr .i64 ((wr .i64 (Int.fdiv (wr .u64 (wr .i64 (a1 + b3))) (2 ^ (min (Int.toNat 1) (IntKind.bits .u64))))) + m2)) - b3)) (wr .i64 (Int.fdiv (wr .u64 (wr .i64 (a1 + b3))) (2 ^ (min (Int.toNat 1) (IntKind.bits .u64))))) (wr .i64 ((wr .i64 ((wr .i64 (Int.fdiv (wr .u64 (wr .i64 (a1 + b3))) (2 ^ (min (Int.toNat 1) (IntKind.bits .u64))))) + m2)) - 1)) data0 cp_4_0
          else DL96c86io10001_3 n SS n.1 a1 m2 b3 (wr .i64 (Int.fdiv (wr .u64 (wr .i64 (a1 + b3))) (2 ^ (min (Int.toNat 1) (IntKind.bits .u64))))) (wr .i64 ((wr .i64 (Int.fdiv (wr .u64 (wr .i64 (a1 + b3))) (2 ^ (min (Int.toNat 1) (IntKind.bits .u64))))) + m2)) a1 m2 (wr .i64 ((wr .i64 ((wr .i64 (Int.fdiv (wr .u64 (wr .i64 (a1 + b3))) (2 ^ (min (Int.toNat 1) (IntKind.bits .u64))))) + m2)) - 1)) data0 cp_4_0))))
theorem DB96c86io10001_eq (n : Nat × Nat) (hn : n.2 = 1) (SS : List Int → Int → Int → Int → (List (Int × Int)) → Option R96c86io10001) : B96c86io10001 n SS = DB96c86io10001 n SS := by
  funext data0 a1 m2 b3 cp_4_0; refine (B96c86io10001_eq n SS data0 a1 m2 b3 cp_4_0).trans ?_
  unfold DB96c86io10001
  (try simp only [DL96c86io10001_4_eq n hn SS, DL96c86io10001_1_eq n hn SS, DL96c86io10001_5_eq n hn SS, DL96c86io10001_2_eq n hn SS, DL96c86io10001_3_eq n hn SS, S86_D n hn, S97c86io10001_D n hn]) <;> first | with_reducible rfl | rfl
noncomputable def DT96c86io10001 (n : Nat × Nat) (d : Nat) : List Int → Int → Int → Int → (List (Int × Int)) → Option R96c86io10001 := Nat.rec (motive := fun _ => List Int → Int → Int → Int → (List (Int × Int)) → Option R96c86io10001) (fun _ _ _ _ _ => none) (fun _ ih => DB96c86io10001 n ih) d
theorem DT96c86io10001_succ (n : Nat × Nat) (d : Nat) : DT96c86io10001 n (d + 1) = DB96c86io10001 n (DT96c86io10001 n d) := rfl
theorem DT96c86io10001_eq (n : Nat × Nat) (hn : n.2 = 1) : ∀ d, T96c86io10001 n d = DT96c86io10001 n d
  | 0 => rfl
  | d + 1 => by
    funext data0 a1 m2 b3 cp_4_0
    rw [T96c86io10001_eq, DT96c86io10001_eq n hn d, DB96c86io10001_eq n hn, DT96c86io10001_succ]
noncomputable def D96c86io10001 (n : Nat × Nat) (data0 : List Int) (a1 : Int) (m2 : Int) (b3 : Int) (cp_4_0 : List (Int × Int)) : Option R96c86io10001 := DT96c86io10001 n n.1 data0 a1 m2 b3 cp_4_0
theorem S96c86io10001_D (n : Nat × Nat) (hn : n.2 = 1) : S96c86io10001 n = D96c86io10001 n := by
  funext data0 a1 m2 b3 cp_4_0; unfold S96c86io10001 D96c86io10001; rw [DT96c86io10001_eq n hn]
end Go.Proofs.Ytnlbhjmbaedadaa
set_option linter.unusedVariables false
set_option linter.unusedSimpArgs false
set_option maxRecDepth 100000
namespace Go.Proofs.Ytnlbhjmbaedadaa
open Go.Vi
/-D 94c86io101 -/
noncomputable def DF94c86io101_3 (n : Nat × Nat) (f1 : Int → Int → List Int → (List (Int × Int)) → Option R94c86io101) (f2 : Int → Int → Int → Int → List Int → (List (Int × Int)) → Option R94c86io101) (v1 : Int) (blockSize6 : Int) (a7 : Int) (b8 : Int) (v1000000000 : List Int) (v1000000001 : List (Int × Int)) : Option R94c86io101 :=
    (bif decide (b8 ≤ v1) then (D96c86io10001 n v1000000000 a7 (wr .i64 (a7 + blockSize6)) b8 v1000000001).bind fun r3' =>
      (bif Nat.beq r3'.2.1.length v1000000000.length then f2 v1 blockSize6 b8 (wr .i64 (b8 + (wr .i64 (2 * blockSize6)))) r3'.2.1 r3'.2.2.1
      else none)
    else (bif decide (wr .i64 (a7 + blockSize6) < v1) then (D96c86io10001 n v1000000000 a7 (wr .i64 (a7 + blockSize6)) v1 v1000000001).bind fun r4' =>
        (bif Nat.beq r4'.2.1.length v1000000000.length then f1 v1 (wr .i64 (blockSize6 * 2)) r4'.2.1 r4'.2.2.1
        else none)
      else f1 v1 (wr .i64 (blockSize6 * 2)) v1000000000 v1000000001))
noncomputable def DL94c86io101_3 (n : Nat × Nat) (f1 : Int → Int → List Int → (List (Int × Int)) → Option R94c86io101) (m : Nat) : Int → Int → Int → Int → List Int → (List (Int × Int)) → Option R94c86io101 := Nat.rec (motive := fun _ => Int → Int → Int → Int → List Int → (List (Int × Int)) → Option R94c86io101) (fun _ _ _ _ _ _ => none) (fun _ ih => DF94c86io101_3 n f1 ih) m
theorem DL94c86io101_3_succ (n : Nat × Nat) (f1 : Int → Int → List Int → (List (Int × Int)) → Option R94c86io101) (m : Nat) : DL94c86io101_3 n f1 (m + 1) = DF94c86io101_3 n f1 (DL94c86io101_3 n f1 m) := rfl
theorem DL94c86io101_3_eq (n : Nat × Nat) (hn : n.2 = 1) (m1 : Nat) : ∀ m, L94c86io101_3 n m1 m = DL94c86io101_3 n (L94c86io101_2 n m1) m
  | 0 => by funext v1 blockSize6 a7 b8 v1000000000 v1000000001; kernel_rfl
  | m + 1 => by
    have ih := DL94c86io101_3_eq n hn m1 m
    funext v1 blockSize6 a7 b8 v1000000000 v1000000001; refine (L94c86io101_3_eq n m1 m v1 blockSize6 a7 b8 v1000000000 v1000000001).trans ?_
    rw [DL94c86io101_3_succ]
    unfold DF94c86io101_3
    (try simp only [ih, S95c86io1001_D n hn, S96c86io10001_D n hn]) <;> first | with_reducible rfl | rfl
noncomputable def DF94c86io101_2 (n : Nat × Nat) (f1 : Int → Int → List Int → (List (Int × Int)) → Option R94c86io101) (v1 : Int) (blockSize6 : Int) (v1000000000 : List Int) (v1000000001 : List (Int × Int)) : Option R94c86io101 :=
    (bif decide (blockSize6 < v1) then DL94c86io101_3 n f1 n.1 v1 blockSize6 0 (wr .i64 (2 * blockSize6)) v1000000000 v1000000001
    else some ((), v1000000000, v1000000001, ()))
noncomputable def DL94c86io101_2 (n : Nat × Nat) (m : Nat) : Int → Int → List Int → (List (Int × Int)) → Option R94c86io101 := Nat.rec (motive := fun _ => Int → Int → List Int → (List (Int × Int)) → Option R94c86io101) (fun _ _ _ _ => none) (fun _ ih => DF94c86io101_2 n ih) m
theorem DL94c86io101_2_succ (n : Nat × Nat) (m : Nat) : DL94c86io101_2 n (m + 1) = DF94c86io101_2 n (DL94c86io101_2 n m) := rfl
theorem DL94c86io101_2_eq (n : Nat × Nat) (hn : n.2 = 1) : ∀ m, L94c86io101_2 n m = DL94c86io101_2 n m
  | 0 => by funext v1 blockSize6 v1000000000 v1000000001; kernel_rfl
  | m + 1 => by
    have ih := DL94c86io101_2_eq n hn m
    funext v1 blockSize6 v1000000000 v1000000001; refine (L94c86io101_2_eq n m v1 blockSize6 v1000000000 v1000000001).trans ?_
    rw [DL94c86io101_2_succ]
    unfold DF94c86io101_2
    (try simp only [ih, DL94c86io101_3_eq n hn, S95c86io1001_D n hn, S96c86io10001_D n hn]) <;> first | with_reducible rfl | rfl
noncomputable def DF94c86io101_1 (n : Nat × Nat) (f1 : Int → Int → Int → Int → List Int → (List (Int × Int)) → Option R94c86io101) (v1 : Int) (blockSize6 : Int) (a7 : Int) (b8 : Int) (v1000000000 : List Int) (v1000000001 : List (Int × Int)) : Option R94c86io101 :=
    (bif decide (b8 ≤ v1) then (D95c86io1001 n v1000000000 a7 b8 v1000000001).bind fun r1' =>
      (bif Nat.beq r1'.2.1.length v1000000000.length then f1 v1 blockSize6 b8 (wr .i64 (b8 + blockSize6)) r1'.2.1 r1'.2.2.1
      else none)
    else (D95c86io1001 n v1000000000 a7 v1 v1000000001).bind fun r2' =>
      (bif Nat.beq r2'.2.1.length v1000000000.length then DL94c86io101_2 n n.1 v1 blockSize6 r2'.2.1 r2'.2.2.1
      else none))
noncomputable def DL94c86io101_1 (n : Nat × Nat) (m : Nat) : Int → Int → Int → Int → List Int → (List (Int × Int)) → Option R94c86io101 := Nat.rec (motive := fun _ => Int → Int → Int → Int → List Int → (List (Int × Int)) → Option R94c86io101) (fun _ _ _ _ _ _ => none) (fun _ ih => DF94c86io101_1 n ih) m
theorem DL94c86io101_1_succ (n : Nat × Nat) (m : Nat) : DL94c86io101_1 n (m + 1) = DF94c86io101_1 n (DL94c86io101_1 n m) := rfl
theorem DL94c86io101_1_eq (n : Nat × Nat) (hn : n.2 = 1) : ∀ m, L94c86io101_1 n m = DL94c86io101_1 n m
  | 0 => by funext v1 blockSize6 a7 b8 v1000000000 v1000000001; kernel_rfl
  | m + 1 => by
    have ih := DL94c86io101_1_eq n hn m
    funext v1 blockSize6 a7 b8 v1000000000 v1000000001; refine (L94c86io101_1_eq n m v1 blockSize6 a7 b8 v1000000000 v1000000001).trans ?_
    rw [DL94c86io101_1_succ]
    unfold DF94c86io101_1
    (try simp only [ih, DL94c86io101_3_eq n hn, DL94c86io101_2_eq n hn, S95c86io1001_D n hn, S96c86io10001_D n hn]) <;> first | with_reducible rfl | rfl
noncomputable def D94c86io101 (n : Nat × Nat) (data0 : List Int) (v1 : Int) (cp_2_0 : List (Int × Int)) : Option R94c86io101 :=
    DL94c86io101_1 n n.1 v1 20 0 20 data0 cp_2_0
theorem S94c86io101_D (n : Nat × Nat) (hn : n.2 = 1) : S94c86io101 n = D94c86io101 n := by
  funext data0 v1 cp_2_0; refine (S94c86io101_eq n data0 v1 cp_2_0).trans ?_
  unfold D94c86io101
  (try simp only [DL94c86io101_3_eq n hn, DL94c86io101_2_eq n hn, DL94c86io101_1_eq n hn, S95c86io1001_D n hn, S96c86io10001_D n hn]) <;> first | with_reducible rfl | rfl
end Go.Proofs.Ytnlbhjmbaedadaa
set_option linter.unusedVariables false
set_option linter.unusedSimpArgs false
set_option maxRecDepth 100000
namespace Go.Proofs.Ytnlbhjmbaedadaa
open Go.Vi
/-D 85c86io11 -/
noncomputable def D85c86io11 (n : Nat × Nat) (x0 : List Int) (cp_1_0 : List (Int × Int)) : Option R85c86io11 :=
    (D94c86io101 n x0 (x0.length : Int) cp_1_0).bind fun r1' =>
    (bif Nat.beq r1'.2.1.length x0.length then some ((), r1'.2.1, r1'.2.2.1, ())
    else none)
theorem S85c86io11_D (n : Nat × Nat) (hn : n.2 = 1) : S85c86io11 n = D85c86io11 n := by
  funext x0 cp_1_0; refine (S85c86io11_eq n x0 cp_1_0).trans ?_
  unfold D85c86io11
  (try simp only [S94c86io101_D n hn]) <;> first | with_reducible rfl | rfl
end Go.Proofs.Ytnlbhjmbaedadaa
set_option linter.unusedVariables false
set_option linter.unusedSimpArgs false
set_option maxRecDepth 100000
namespace Go.Proofs.Ytnlbhjmbaedadaa
open Go.Vi
/-D 87 -/
noncomputable def D87 (n : Nat × Nat) (i0 : Int) (j1 : Int) (v2 : List (Int × Int)) : Option R87 :=
    (idx v2 j1).bind fun x1' =>
    (idx v2 i0).bind fun x2' =>
    some (wr .i64 (x1'.2 - x2'.2))
theorem S87_D (n : Nat × Nat) (hn : n.2 = 1) : S87 n = D87 n := by
  funext i0 j1 v2; refine (S87_eq n i0 j1 v2).trans ?_
  unfold D87
  first | with_reducible rfl | rfl
end Go.Proofs.Ytnlbhjmbaedadaa
set_option linter.unusedVariables false
set_option linter.unusedSimpArgs false
set_option maxRecDepth 100000
namespace Go.Proofs.Ytnlbhjmbaedadaa
open Go.Vi
/-D 95c87io1001 -/
noncomputable def DF95c87io1001_2 (n : Nat × Nat) (f1 : Int → Int → Int → List Int → (List (Int × Int)) → Option R95c87io1001) (f2 : Int → Int → Int → Int → List Int → (List (Int × Int)) → Option R95c87io1001) (a1 : Int) (b2 : Int) (i8 : Int) (j9 : Int) (v1000000000 : List Int) (v1000000001 : List (Int × Int)) : Option R95c87io1001 :=
    ((bif (decide (j9 > a1) == true) then (bif inB j9 v1000000000.length then (idx v1000000000 j9).bind fun x1' =>
          (bif inB (wr .i64 (j9 - 1)) v1000000000.length then (idx v1000000000 (wr .i64 (j9 - 1))).bind fun x2' =>
            (D87 n x1' x2' v1000000001).bind fun r3' =>
            some (decide (r3' < 0))
          else none)
        else none)
      else some false)).bind fun b4' =>
    (bif b4' then (bif inB (wr .i64 (j9 - 1)) v1000000000.length then (idx v1000000000 (wr .i64 (j9 - 1))).bind fun x5' =>
        (bif inB j9 v1000000000.length then (idx v1000000000 j9).bind fun x6' =>
          (bif inB j9 v1000000000.length then (idx v1000000000 j9).bind fun x7' =>
            (bif inB (wr .i64 (j9 - 1)) (v1000000000.set (Int.toNat j9) x5').length then (idx (v1000000000.set (Int.toNat j9) x5') (wr .i64 (j9 - 1))).bind fun x8' =>
              f2 a1 b2 i8 (wr .i64 (j9 - 1)) ((v1000000000.set (Int.toNat j9) x5').set (Int.toNat (wr .i64 (j9 - 1))) x6') v1000000001
            else none)
          else none)
        else none)
      else none)
    else f1 a1 b2 (wr .i64 (i8 + 1)) v1000000000 v1000000001)
noncomputable def DL95c87io1001_2 (n : Nat × Nat) (f1 : Int → Int → Int → List Int → (List (Int × Int)) → Option R95c87io1001) (m : Nat) : Int → Int → Int → Int → List Int → (List (Int × Int)) → Option R95c87io1001 := Nat.rec (motive := fun _ => Int → Int → Int → Int → List Int → (List (Int × Int)) → Option R95c87io1001) (fun _ _ _ _ _ _ => none) (fun _ ih => DF95c87io1001_2 n f1 ih) m
theorem DL95c87io1001_2_succ (n : Nat × Nat) (f1 : Int → Int → Int → List Int → (List (Int × Int)) → Option R95c87io1001) (m : Nat) : DL95c87io1001_2 n f1 (m + 1) = DF95c87io1001_2 n f1 (DL95c87io1001_2 n f1 m) := rfl
theorem DL95c87io1001_2_eq (n : Nat × Nat) (hn : n.2 = 1) (m1 : Nat) : ∀ m, L95c87io1001_2 n m1 m = DL95c87io1001_2 n (L95c87io1001_1 n m1) m
  | 0 => by funext a1 b2 i8 j9 v1000000000 v1000000001; kernel_rfl
  | m + 1 => by
    have ih := DL95c87io1001_2_eq n hn m1 m
    funext a1 b2 i8 j9 v1000000000 v1000000001; refine (L95c87io1001_2_eq n m1 m a1 b2 i8 j9 v1000000000 v1000000001).trans ?_
    rw [DL95c87io1001_2_succ]
    unfold DF95c87io1001_2
    (try simp only [ih, S87_D n hn]) <;> first | with_reducible rfl | rfl
noncomputable def DF95c87io1001_1 (n : Nat × Nat) (f1 : Int → Int → Int → List Int → (List (Int × Int)) → Option R95c87io1001) (a1 : Int) (b2 : Int) (i8 : Int) (v1000000000 : List Int) (v1000000001 : List (Int × Int)) : Option R95c87io1001 :=
    (bif decide (i8 < b2) then DL95c87io1001_2 n f1 n.1 a1 b2 i8 i8 v1000000000 v1000000001
    else some ((), v1000000000, v1000000001, ()))
noncomputable def DL95c87io1001_1 (n : Nat × Nat) (m : Nat) : Int → Int → Int → List Int → (List (Int × Int)) → Option R95c87io1001 := Nat.rec (motive := fun _ => Int → Int → Int → List Int → (List (Int × Int)) → Option R95c87io1001) (fun _ _ _ _ _ => none) (fun _ ih => DF95c87io1001_1 n ih) m
theorem DL95c87io1001_1_succ (n : Nat × Nat) (m : Nat) : DL95c87io1001_1 n (m + 1) = DF95c87io1001_1 n (DL95c87io1001_1 n m) := rfl
theorem DL95c87io1001_1_eq (n : Nat × Nat) (hn : n.2 = 1) : ∀ m, L95c87io1001_1 n m = DL95c87io1001_1 n m
  | 0 => by funext a1 b2 i8 v1000000000 v1000000001; kernel_rfl
  | m + 1 => by
    have ih := DL95c87io1001_1_eq n hn m
    funext a1 b2 i8 v1000000000 v1000000001; refine (L95c87io1001_1_eq n m a1 b2 i8 v1000000000 v1000000001).trans ?_
    rw [DL95c87io1001_1_succ]
    unfold DF95c87io1001_1
    (try simp only [ih, DL95c87io1001_2_eq n hn, S87_D n hn]) <;> first | with_reducible rfl | rfl
noncomputable def D95c87io1001 (n : Nat × Nat) (data0 : List Int) (a1 : Int) (b2 : Int) (cp_3_0 : List (Int × Int)) : Option R95c87io1001 :=
    DL95c87io1001_1 n n.1 a1 b2 (wr .i64 (a1 + 1)) data0 cp_3_0
theorem S95c87io1001_D (n : Nat × Nat) (hn : n.2 = 1) : S95c87io1001 n = D95c87io1001 n := by
  funext data0 a1 b2 cp_3_0; refine (S95c87io1001_eq n data0 a1 b2 cp_3_0).trans ?_
  unfold D95c87io1001
  (try simp only [DL95c87io1001_2_eq n hn, DL95c87io1001_1_eq n hn, S87_D n hn]) <;> first | with_reducible rfl | rfl
end Go.Proofs.Ytnlbhjmbaedadaa
set_option linter.unusedVariables false
set_option linter.unusedSimpArgs false
set_option maxRecDepth 100000
namespace Go.Proofs.Ytnlbhjmbaedadaa
open Go.Vi
/-D 98c87io10001 -/
noncomputable def DF98c87io10001_1 (n : Nat × Nat) (f1 : Int → Int → Int → Int → List Int → (List (Int × Int)) → Option R98c87io10001) (a1 : Int) (b2 : Int) (v3 : Int) (i10 : Int) (v1000000000 : List Int) (v1000000001 : List (Int × Int)) : Option R98c87io10001 :=
    (bif decide (i10 < v3) then (bif inB (wr .i64 (b2 + i10)) v1000000000.length then (idx v1000000000 (wr .i64 (b2 + i10))).bind fun x1' =>
        (bif inB (wr .i64 (a1 + i10)) v1000000000.length then (idx v1000000000 (wr .i64 (a1 + i10))).bind fun x2' =>
          (bif inB (wr .i64 (a1 + i10)) v1000000000.length then (idx v1000000000 (wr .i64 (a1 + i10))).bind fun x3' =>
            (bif inB (wr .i64 (b2 + i10)) (v1000000000.set (Int.toNat (wr .i64 (a1 + i10))) x1').length then (idx (v1000000000.set (Int.toNat (wr .i64 (a1 + i10))) x1') (wr .i64 (b2 + i10))).bind fun x4' =>
              f1 a1 b2 v3 (wr .i64 (i10 + 1)) ((v1000000000.set (Int.toNat (wr .i64 (a1 + i10))) x1').set (Int.toNat (wr .i64 (b2 + i10))) x2') v1000000001
            else none)
          else none)
        else none)
      else none)
    else some ((), v1000000000, v1000000001, ()))
noncomputable def DL98c87io10001_1 (n : Nat × Nat) (m : Nat) : Int → Int → Int → Int → List Int → (List (Int × Int)) → Option R98c87io10001 := Nat.rec (motive := fun _ => Int → Int → Int → Int → List Int → (List (Int × Int)) → Option R98c87io10001) (fun _ _ _ _ _ _ => none) (fun _ ih => DF98c87io10001_1 n ih) m
theorem DL98c87io10001_1_succ (n : Nat × Nat) (m : Nat) : DL98c87io10001_1 n (m + 1) = DF98c87io10001_1 n (DL98c87io10001_1 n m) := rfl
theorem DL98c87io10001_1_eq (n : Nat × Nat) (hn : n.2 = 1) : ∀ m, L98c87io10001_1 n m = DL98c87io10001_1 n m
  | 0 => by funext a1 b2 v3 i10 v1000000000 v1000000001; kernel_rfl
  | m + 1 => by
    have ih := DL98c87io10001_1_eq n hn m
    funext a1 b2 v3 i10 v1000000000 v1000000001; refine (L98c87io10001_1_eq n m a1 b2 v3 i10 v1000000000 v1000000001).trans ?_
    rw [DL98c87io10001_1_succ]
    unfold DF98c87io10001_1
    (try simp only [ih]) <;> first | with_reducible rfl | rfl
noncomputable def D98c87io10001 (n : Nat × Nat) (data0 : List Int) (a1 : Int) (b2 : Int) (v3 : Int) (cp_4_0 : List (Int × Int)) : Option R98c87io10001 :=
    DL98c87io10001_1 n n.1 a1 b2 v3 0 data0 cp_4_0
theorem S98c87io10001_D (n : Nat × Nat) (hn : n.2 = 1) : S98c87io10001 n = D98c87io10001 n := by
  funext data0 a1 b2 v3 cp_4_0; refine (S98c87io10001_eq n data0 a1 b2 v3 cp_4_0).trans ?_
  unfold D98c87io10001
  (try simp only [DL98c87io10001_1_eq n hn]) <;> first | with_reducible rfl | rfl
end Go.Proofs.Ytnlbhjmbaedadaa
set_option linter.unusedVariables false
set_option linter.unusedSimpArgs false
set_option maxRecDepth 100000
namespace Go.Proofs.Ytnlbhjmbaedadaa
open Go.Vi
/-D 97c87io10001 -/
noncomputable def DF97c87io10001_1 (n : Nat × Nat) (f1 : Int → Int → Int → List Int → (List (Int × Int)) → Option R97c87io10001) (m2 : Int) (i10 : Int) (j11 : Int) (v1000000000 : List Int) (v1000000001 : List (Int × Int)) : Option R97c87io10001 :=
    (bif (i10 != j11) then (bif decide (i10 > j11) then (D98c87io10001 n v1000000000 (wr .i64 (m2 - i10)) m2 j11 v1000000001).bind fun r1' =>
        (bif Nat.beq r1'.2.1.length v1000000000.length then f1 m2 (wr .i64 (i10 - j11)) j11 r1'.2.1 r1'.2.2.1
        else none)
      else (D98c87io10001 n v1000000000 (wr .i64 (m2 - i10)) (wr .i64 ((wr .i64 (m2 + j11)) - i10)) i10 v1000000001).bind fun r2' =>
        (bif Nat.beq r2'.2.1.length v1000000000.length then f1 m2 i10 (wr .i64 (j11 - i10)) r2'.2.1 r2'.2.2.1
        else none))
    else (D98c87io10001 n v1000000000 (wr .i64 (m2 - i10)) m2 i10 v1000000001).bind fun r3' =>
      (bif Nat.beq r3'.2.1.length v1000000000.length then some ((), r3'.2.1, r3'.2.2.1, ())
      else none))
noncomputable def DL97c87io10001_1 (n : Nat × Nat) (m : Nat) : Int → Int → Int → List Int → (List (Int × Int)) → Option R97c87io10001 := Nat.rec (motive := fun _ => Int → Int → Int → List Int → (List (Int × Int)) → Option R97c87io10001) (fun _ _ _ _ _ => none) (fun _ ih => DF97c87io10001_1 n ih) m
theorem DL97c87io10001_1_succ (n : Nat × Nat) (m : Nat) : DL97c87io10001_1 n (m + 1) = DF97c87io10001_1 n (DL97c87io10001_1 n m) := rfl
theorem DL97c87io10001_1_eq (n : Nat × Nat) (hn : n.2 = 1) : ∀ m, L97c87io10001_1 n m = DL97c87io10001_1 n m
  | 0 => by funext m2 i10 j11 v1000000000 v1000000001; kernel_rfl
  | m + 1 => by
    have ih := DL97c87io10001_1_eq n hn m
    funext m2 i10 j11 v1000000000 v1000000001; refine (L97c87io10001_1_eq n m m2 i10 j11 v1000000000 v1000000001).trans ?_
    rw [DL97c87io10001_1_succ]
    unfold DF97c87io10001_1
    (try simp only [ih, S98c87io10001_D n hn]) <;> first | with_reducible rfl | rfl
noncomputable def D97c87io10001 (n : Nat × Nat) (data0 : List Int) (a1 : Int) (m2 : Int) (b3 : Int) (cp_4_0 : List (Int × Int)) : Option R97c87io10001 :=
    DL97c87io10001_1 n n.1 m2 (wr .i64 (m2 - a1)) (wr .i64 (b3 - m2)) data0 cp_4_0
theorem S97c87io10001_D (n : Nat × Nat) (hn : n.2 = 1) : S97c87io10001 n = D97c87io10001 n := by
  funext data0 a1 m2 b3 cp_4_0; refine (S97c87io10001_eq n data0 a1 m2 b3 cp_4_0).trans ?_
  unfold D97c87io10001
  (try simp only [DL97c87io10001_1_eq n hn, S98c87io10001_D n hn]) <;> first | with_reducible rfl | rfl
end Go.Proofs.Ytnlbhjmbaedadaa
set_option linter.unusedVariables false
set_option linter.unusedSimpArgs false
set_option maxRecDepth 100000
namespace Go.Proofs.Ytnlbhjmbaedadaa
open Go.Vi
/-D 96c87io10001 -/
noncomputable def DF96c87io10001_4 (n : Nat × Nat) (SS : List Int → Int → Int → Int → (List (Int × Int)) → Option R96c87io10001) (f1 : Int → Int → List Int → (List (Int × Int)) → Option R96c87io10001) (i10 : Int) (k13 : Int) (v1000000000 : List Int) (v1000000001 : List (Int × Int)) : Option R96c87io10001 :=
    (bif decide (k13 < wr .i64 (i10 - 1)) then (bif inB (wr .i64 (k13 + 1)) v1000000000.length then (idx v1000000000 (wr .i64 (k13 + 1))).bind fun x24' =>
        (bif inB k13 v1000000000.length then (idx v1000000000 k13).bind fun x25' =>
          (bif inB k13 v1000000000.length then (idx v1000000000 k13).bind fun x26' =>
            (bif inB (wr .i64 (k13 + 1)) (v1000000000.set (Int.toNat k13) x24').length then (idx (v1000000000.set (Int.toNat k13) x24') (wr .i64 (k13 + 1))).bind fun x27' =>
              f1 i10 (wr .i64 (k13 + 1)) ((v1000000000.set (Int.toNat k13) x24').set (Int.toNat (wr .i64 (k13 + 1))) x25') v1000000001
            else none)
          else none)
        else none)
      else none)
    else some ((), v1000000000, v1000000001, ()))
noncomputable def DL96c87io10001_4 (n : Nat × Nat) (SS : List Int → Int → Int → Int → (List (Int × Int)) → Option R96c87io10001) (m : Nat) : Int → Int → List Int → (List (Int × Int)) → Option R96c87io10001 := Nat.rec (motive := fun _ => Int → Int → List Int → (List (Int × Int)) → Option R96c87io10001) (fun _ _ _ _ => none) (fun _ ih => DF96c87io10001_4 n SS ih) m
theorem DL96c87io10001_4_succ (n : Nat × Nat) (SS : List Int → Int → Int → Int → (List (Int × Int)) → Option R96c87io10001) (m : Nat) : DL96c87io10001_4 n SS (m + 1) = DF96c87io10001_4 n SS (DL96c87io10001_4 n SS m) := rfl
theorem DL96c87io10001_4_eq (n : Nat × Nat) (hn : n.2 = 1) (SS : List Int → Int → Int → Int → (List (Int × Int)) → Option R96c87io10001) : ∀ m, L96c87io10001_4 n SS m = DL96c87io10001_4 n SS m
  | 0 => by funext i10 k13 v1000000000 v1000000001; kernel_rfl
  | m + 1 => by
    have ih := DL96c87io10001_4_eq n hn SS m
    funext i10 k13 v1000000000 v1000000001; refine (L96c87io10001_4_eq n SS m i10 k13 v1000000000 v1000000001).trans ?_
    rw [DL96c87io10001_4_succ]
    unfold DF96c87io10001_4
    (try simp only [ih, S87_D n hn, S97c87io10001_D n hn]) <;> first | with_reducible rfl | rfl
noncomputable def DF96c87io10001_1 (n : Nat × Nat) (SS : List Int → Int → Int → Int → (List (Int × Int)) → Option R96c87io10001) (f1 : Int → Int → Int → List Int → (List (Int × Int)) → Option R96c87io10001) (a1 : Int) (i10 : Int) (j11 : Int) (v1000000000 : List Int) (v1000000001 : List (Int × Int)) : Option R96c87io10001 :=
    (bif decide (i10 < j11) then (bif decide (1 < 0) then none
      else (bif inB (wr .i64 (Int.fdiv (wr .u64 (wr .i64 (i10 + j11))) (2 ^ (min (Int.toNat 1) (IntKind.bits .u64))))) v1000000000.length then (idx v1000000000 (wr .i64 (Int.fdiv (wr .u64 (wr .i64 (i10 + j11))) (2 ^ (min (Int.toNat 1) (IntKind.bits .u64)))))).bind fun x1' =>
          (bif inB a1 v1000000000.length then (idx v1000000000 a1).bind fun x2' =>
            (D87 n x1' x2' v1000000001).bind fun r3' =>
            (bif decide (r3' < 0) then f1 a1 (wr .i64 ((wr .i64 (Int.fdiv (wr .u64 (wr .i64 (i10 + j11))) (2 ^ (min (Int.toNat 1) (IntKind.bits .u64))))) + 1)) j11 v1000000000 v1000000001
            else f1 a1 i10 (wr .i64 (Int.fdiv (wr .u64 (wr .i64 (i10 + j11))) (2 ^ (min (Int.toNat 1) (IntKind.bits .u64))))) v1000000000 v1000000001)
          else none)
        else none))
    else DL96c87io10001_4 n SS n.1 i10 a1 v1000000000 v1000000001)
noncomputable def DL96c87io10001_1 (n : Nat × Nat) (SS : List Int → Int → Int → Int → (List (Int × Int)) → Option R96c87io10001) (m : Nat) : Int → Int → Int → List Int → (List (Int × Int)) → Option R96c87io10001 := Nat.rec (motive := fun _ => Int → Int → Int → List Int → (List (Int × Int)) → Option R96c87io10001) (fun _ _ _ _ _ => none) (fun _ ih => DF96c87io10001_1 n SS ih) m
theorem DL96c87io10001_1_succ (n : Nat × Nat) (SS : List Int → Int → Int → Int → (List (Int × Int)) → Option R96c87io10001) (m : Nat) : DL96c87io10001_1 n SS (m + 1) = DF96c87io10001_1 n SS (DL96c87io10001_1 n SS m) := rfl
theorem DL96c87io10001_1_eq (n : Nat × Nat) (hn : n.2 = 1) (SS : List Int → Int → Int → Int → (List (Int × Int)) → Option R96c87io10001) : ∀ m, L96c87io10001_1 n SS m = DL96c87io10001_1 n SS m
  | 0 => by funext a1 i10 j11 v1000000000 v1000000001; kernel_rfl
  | m + 1 => by
    have ih := DL96c87io10001_1_eq n hn SS m
    funext a1 i10 j11 v1000000000 v1000000001; refine (L96c87io10001_1_eq n SS m a1 i10 j11 v1000000000 v1000000001).trans ?_
    rw [DL96c87io10001_1_succ]
    unfold DF96c87io10001_1
    (try simp only [ih, DL96c87io10001_4_eq n hn SS, S87_D n hn, S97c87io10001_D n hn]) <;> first | with_reducible rfl | rfl
noncomputable def DF96c87io10001_5 (n : Nat × Nat) (SS : List Int → Int → Int → Int → (List (Int × Int)) → Option R96c87io10001) (f1 : Int → Int → List Int → (List (Int × Int)) → Option R96c87io10001) (i14 : Int) (k17 : Int) (v1000000000 : List Int) (v1000000001 : List (Int × Int)) : Option R96c87io10001 :=
    (bif decide (k17 > i14) then (bif inB (wr .i64 (k17 - 1)) v1000000000.length then (idx v1000000000 (wr .i64 (k17 - 1))).bind fun x28' =>
        (bif inB k17 v1000000000.length then (idx v1000000000 k17).bind fun x29' =>
          (bif inB k17 v1000000000.length then (idx v1000000000 k17).bind fun x30' =>
            (bif inB (wr .i64 (k17 - 1)) (v1000000000.set (Int.toNat k17) x28').length then (idx (v1000000000.set (Int.toNat k17) x28') (wr .i64 (k17 - 1))).bind fun x31' =>
              f1 i14 (wr .i64 (k17 - 1)) ((v1000000000.set (Int.toNat k17) x28').set (Int.toNat (wr .i64 (k17 - 1))) x29') v1000000001
            else none)
          else none)
        else none)
      else none)
    else some ((), v1000000000, v1000000001, ()))
noncomputable def DL96c87io10001_5 (n : Nat × Nat) (SS : List Int → Int → Int → Int → (List (Int × Int)) → Option R96c87io10001) (m : Nat) : Int → Int → List Int → (List (Int × Int)) → Option R96c87io10001 := Nat.rec (motive := fun _ => Int → Int → List Int → (List (Int × Int)) → Option R96c87io10001) (fun _ _ _ _ => none) (fun _ ih => DF96c87io10001_5 n SS ih) m
theorem DL96c87io10001_5_succ (n : Nat × Nat) (SS : List Int → Int → Int → Int → (List (Int × Int)) → Option R96c87io10001) (m : Nat) : DL96c87io10001_5 n SS (m + 1) = DF96c87io10001_5 n SS (DL96c87io10001_5 n SS m) := rfl
theorem DL96c87io10001_5_eq (n : Nat × Nat) (hn : n.2 = 1) (SS : List Int → Int → Int → Int → (List (Int × Int)) → Option R96c87io10001) : ∀ m, L96c87io10001_5 n SS m = DL96c87io10001_5 n SS m
  | 0 => by funext i14 k17 v1000000000 v1000000001; kernel_rfl
  | m + 1 => by
    have ih := DL96c87io10001_5_eq n hn SS m
    funext i14 k17 v1000000000 v1000000001; refine (L96c87io10001_5_eq n SS m i14 k17 v1000000000 v1000000001).trans ?_
    rw [DL96c87io10001_5_succ]
    unfold DF96c87io10001_5
    (try simp only [ih, DL96c87io10001_4_eq n hn SS, DL96c87io10001_1_eq n hn SS, S87_D n hn, S97c87io10001_D n hn]) <;> first | with_reducible rfl | rfl
noncomputable def DF96c87io10001_2 (n : Nat × Nat) (SS : List Int → Int → Int → Int → (List (Int × Int)) → Option R96c87io10001) (f1 : Int → Int → Int → List Int → (List (Int × Int)) → Option R96c87io10001) (m2 : Int) (i14 : Int) (j15 : Int) (v1000000000 : List Int) (v1000000001 : List (Int × Int)) : Option R96c87io10001 :=
    (bif decide (i14 < j15) then (bif decide (1 < 0) then none
      else (bif inB m2 v1000000000.length then (idx v1000000000 m2).bind fun x4' =>
          (bif inB (wr .i64 (Int.fdiv (wr .u64 (wr .i64 (i14 + j15))) (2 ^ (min (Int.toNat 1) (IntKind.bits .u64))))) v1000000000.length then (idx v1000000000 (wr .i64 (Int.fdiv (wr .u64 (wr .i64 (i14 + j15))) (2 ^ (min (Int.toNat 1) (IntKind.bits .u64)))))).bind fun x5' =>
            (D87 n x4' x5' v1000000001).bind fun r6' =>
            (bif (!(decide (r6' < 0))) then f1 m2 (wr .i64 ((wr .i64 (Int.fdiv (wr .u64 (wr .i64 (i14 + j15))) (2 ^ (min (Int.toNat 1) (IntKind.bits .u64))))) + 1)) j15 v1000000000 v1000000001
            else f1 m2 i14 (wr .i64 (Int.fdiv (wr .u64 (wr .i64 (i14 + j15))) (2 ^ (min (Int.toNat 1) (IntKind.bits .u64))))) v1000000000 v1000000001)
          else none)
        else none))
    else DL96c87io10001_5 n SS n.1 i14 m2 v1000000000 v1000000001)
noncomputable def DL96c87io10001_2 (n : Nat × Nat) (SS : List Int → Int → Int → Int → (List (Int × Int)) → Option R96c87io10001) (m : Nat) : Int → Int → Int → List Int → (List (Int × Int)) → Option R96c87io10001 := Nat.rec (motive := fun _ => Int → Int → Int → List Int → (List (Int × Int)) → Option R96c87io10001) (fun _ _ _ _ _ => none) (fun _ ih => DF96c87io10001_2 n SS ih) m
theorem DL96c87io10001_2_succ (n : Nat × Nat) (SS : List Int → Int → Int → Int → (List (Int × Int)) → Option R96c87io10001) (m : Nat) : DL96c87io10001_2 n SS (m + 1) = DF96c87io10001_2 n SS (DL96c87io10001_2 n SS m) := rfl
theorem DL96c87io10001_2_eq (n : Nat × Nat) (hn : n.2 = 1) (SS : List Int → Int → Int → Int → (List (Int × Int)) → Option R96c87io10001) : ∀ m, L96c87io10001_2 n SS m = DL96c87io10001_2 n SS m
  | 0 => by funext m2 i14 j15 v1000000000 v1000000001; kernel_rfl
  | m + 1 => by
    have ih := DL96c87io10001_2_eq n hn SS m
    funext m2 i14 j15 v1000000000 v1000000001; refine (L96c87io10001_2_eq n SS m m2 i14 j15 v1000000000 v1000000001).trans ?_
    rw [DL96c87io10001_2_succ]
    unfold DF96c87io10001_2
    (try simp only [ih, DL96c87io10001_4_eq n hn SS, DL96c87io10001_1_eq n hn SS, DL96c87io10001_5_eq n hn SS, S87_D n hn, S97c87io10001_D n hn]) <;> first | with_reducible rfl | rfl
noncomputable def DF96c87io10001_3 (n : Nat × Nat) (SS : List Int → Int → Int → Int → (List (Int × Int)) → Option R96c87io10001) (f1 : Int → Int → Int → Int → Int → Int → Int → Int → List Int → (List (Int × Int)) → Option R96c87io10001) (a1 : Int) (m2 : Int) (b3 : Int) (mid18 : Int) (v19 : Int) (start20 : Int) (r21 : Int) (p22 : Int) (v1000000000 : List Int) (v1000000001 : List (Int × Int)) : Option R96c87io10001 :=
    (bif decide (start20 < r21) then (bif decide (1 < 0) then none
      else (bif inB (wr .i64 (p22 - (wr .i64 (Int.fdiv (wr .u64 (wr .i64 (start20 + r21))) (2 ^ (min (Int.toNat 1) (IntKind.bits .u64))))))) v1000000000.length then (idx v1000000000 (wr .i64 (p22 - (wr .i64 (Int.fdiv (wr .u64 (wr .i64 (start20 + r21))) (2 ^ (min (Int.toNat 1) (IntKind.bits .u64)))))))).bind fun x7' =>
          (bif inB (wr .i64 (Int.fdiv (wr .u64 (wr .i64 (start20 + r21))) (2 ^ (min (Int.toNat 1) (IntKind.bits .u64))))) v1000000000.length then (idx v1000000000 (wr .i64 (Int.fdiv (wr .u64 (wr .i64 (start20 + r21))) (2 ^ (min (Int.toNat 1) (IntKind.bits .u64)))))).bind fun x8' =>
            (D87 n x7' x8' v1000000001).bind fun r9' =>
            (bif (!(decide (r9' < 0))) then f1 a1 m2 b3 mid18 v19 (wr .i64 ((wr .i64 (Int.fdiv (wr .u64 (wr .i64 (start20 + r21))) (2 ^ (min (Int.toNat 1) (IntKind.bits .u64))))) + 1)) r21 p22 v1000000000 v1000000001
            else f1 a1 m2 b3 mid18 v19 start20 (wr .i64 (Int.fdiv (wr .u64 (wr .i64 (start20 + r21))) (2 ^ (min (Int.toNat 1) (IntKind.bits .u64))))) p22 v1000000000 v1000000001)
          else none)
        else none))
    else ((bif (decide (start20 < m2) == true) then some (decide (m2 < wr .i64 (v19 - start20)))
        else some false)).bind fun b10' =>
      (bif b10' then (D97c87io10001 n v1000000000 start20 m2 (wr .i64 (v19 - start20)) v1000000001).bind fun r11' =>
        (bif Nat.beq r11'.2.1.length v1000000000.length then ((bif (decide (a1 < start20) == true) then some (decide (start20 < mid18))
            else some false)).bind fun b12' =>
          (bif b12' then (SS r11'.2.1 a1 start20 mid18 r11'.2.2.1).bind fun r13' =>
            (bif Nat.beq r13'.2.1.length r11'.2.1.length then ((bif (decide (mid18 < wr .i64 (v19 - start20)) == true) then some (decide (wr .i64 (v19 - start20) < b3))
                else some false)).bind fun b14' =>
              (bif b14' then (SS r13'.2.1 mid18 (wr .i64 (v19 - start20)) b3 r13'.2.2.1).bind fun r15' =>
                (bif Nat.beq r15'.2.1.length r13'.2.1.length then some ((), r15'.2.1, r15'.2.2.1, ())
                else none)
              else some ((), r13'.2.1, r13'.2.2.1, ()))
            else none)
          else ((bif (decide (mid18 < wr .i64 (v19 - start20)) == true) then some (decide (wr .i64 (v19 - start20) < b3))
              else some false)).bind fun b16' =>
            (bif b16' then (SS r11'.2.1 mid18 (wr .i64 (v19 - start20)) b3 r11'.2.2.1).bind fun r17' =>
              (bif Nat.beq r17'.2.1.length r11'.2.1.length then some ((), r17'.2.1, r17'.2.2.1, ())
              else none)
            else some ((), r11'.2.1, r11'.2.2.1, ())))
        else none)
      else ((bif (decide (a1 < start20) == true) then some (decide (start20 < mid18))
          else some false)).bind fun b18' =>
        (bif b18' then (SS v1000000000 a1 start20 mid18 v1000000001).bind fun r19' =>
          (bif Nat.beq r19'.2.1.length v1000000000.length then ((bif (decide (mid18 < wr .i64 (v19 - start20)) == true) then some (decide (wr .i64 (v19 - start20) < b3))
              else some false)).bind fun b20' =>
            (bif b20' then (SS r19'.2.1 mid18 (wr .i64 (v19 - start20)) b3 r19'.2.2.1).bind fun r21' =>
              (bif Nat.beq r21'.2.1.length r19'.2.1.length then some ((), r21'.2.1, r21'.2.2.1, ())
              else none)
            else some ((), r19'.2.1, r19'.2.2.1, ()))
          else none)
        else ((bif (decide (mid18 < wr .i64 (v19 - start20)) == true) then some (decide (wr .i64 (v19 - start20) < b3))
            else some false)).bind fun b22' =>
          (bif b22' then (SS v1000000000 mid18 (wr .i64 (v19 - start20)) b3 v1000000001).bind fun r23' =>
            (bif Nat.beq r23'.2.1.length v1000000000.length then some ((), r23'.2.1, r23'.2.2.1, ())
            else none)
          else some ((), v1000000000, v1000000001, ())))))
noncomputable def DL96c87io10001_3 (n : Nat × Nat) (SS : List Int → Int → Int → Int → (List (Int × Int)) → Option R96c87io10001) (m : Nat) : Int → Int → Int → Int → Int → Int → Int → Int → List Int → (List (Int × Int)) → Option R96c87io10001 := Nat.rec (motive := fun _ => Int → Int → Int → Int → Int → Int → Int → Int → List Int → (List (Int × Int)) → Option R96c87io10001) (fun _ _ _ _ _ _ _ _ _ _ => none) (fun _ ih => DF96c87io10001_3 n SS ih) m
theorem DL96c87io10001_3_succ (n : Nat × Nat) (SS : List Int → Int → Int → Int → (List (Int × Int)) → Option R96c87io10001) (m : Nat) : DL96c87io10001_3 n SS (m + 1) = DF96c87io10001_3 n SS (DL96c87io10001_3 n SS m) := rfl
theorem DL96c87io10001_3_eq (n : Nat × Nat) (hn : n.2 = 1) (SS : List Int → Int → Int → Int → (List (Int × Int)) → Option R96c87io10001) : ∀ m, L96c87io10001_3 n SS m = DL96c87io10001_3 n SS m
  | 0 => by funext a1 m2 b3 mid18 v19 start20 r21 p22 v1000000000 v1000000001; kernel_rfl
  | m + 1 => by
    have ih := DL96c87io10001_3_eq n hn SS m
    funext a1 m2 b3 mid18 v19 start20 r21 p22 v1000000000 v1000000001; refine (L96c87io10001_3_eq n SS m a1 m2 b3 mid18 v19 start20 r21 p22 v1000000000 v1000000001).trans ?_
    rw [DL96c87io10001_3_succ]
    unfold DF96c87io10001_3
    (try simp only [ih, DL96c87io10001_4_eq n hn SS, DL96c87io10001_1_eq n hn SS, DL96c87io10001_5_eq n hn SS, DL96c87io10001_2_eq n hn SS, S87_D n hn, S97c87io10001_D n hn]) <;> first | with_reducible rfl | rfl
noncomputable def DB96c87io10001 (n : Nat × Nat) (SS : List Int → Int → Int → Int → (List (Int × Int)) → Option R96c87io10001) (data0 : List Int) (a1 : Int) (m2 : Int) (b3 : Int) (cp_4_0 : List (Int × Int)) : Option R96c87io10001 :=
    (bif ((wr .i64 (m2 - a1)) == 1) then DL96c87io10001_1 n SS n.1 a1 m2 b3 data0 cp_4_0
    else (bif ((wr .i64 (b3 - m2)) == 1) then DL96c87io10001_2 n SS n.1 m2 a1 m2 data0 cp_4_0
      else (bif decide (1 < 0) then none
        else (bif decide (m2 > wr .i64 (Int.fdiv (wr .u64 (wr .i64 (a1 + b3))) (2 ^ (min (Int.toNat 1) (IntKind.bits .u64))))) then DL96c87io10001_3 n SS n.1 a1 m2 b3 (wr .i64 (Int.fdiv (wr .u64 (wr .i64 (a1 + b3))) (2 ^ (min (Int.toNat 1) (IntKind.bits .u64))))) (wr .i64 ((wr .i64 (Int.fdiv (wr .u64 (wr .i64 (a1 + b3))) (2 ^ (min (Int.toNat 1) (IntKind.bits .u64))))) + m2)) (wr .i64 ((wr .i64 ((wr .i64 (Int.fdiv (wr .u64 (wr .i64 (a1 + b3))) (2 ^ (min (Int.toNat 1) (IntKind.bits .u64))))) + m2)) - b3)) (wr .i64 (Int.fdiv (wr .u64 (wr .i64 (a1 + b3))) (2 ^ (min (Int.toNat 1) (IntKind.bits .u64))))) (wr .i64 ((wr .i64 ((wr .i64 (Int.fdiv (wr .u64 (wr .i64 (a1 + b3))) (2 ^ (min (Int.toNat 1) (IntKind.bits .u64))))) + m2)) - 1)) data0 cp_4_0
          else DL96c87io10001_3 n SS n.1 a1 m2 b3 (wr .i64 (Int.fdiv (wr .u64 (wr .i64 (a1 + b3))) (2 ^ (min (Int.toNat 1) (IntKind.bits .u64))))) (wr .i64 ((wr .i64 (Int.fdiv (wr .u64 (wr .i64 (a1 + b3))) (2 ^ (min (Int.toNat 1) (IntKind.bits .u64))))) + m2)) a1 m2 (wr .i64 ((wr .i64 ((wr .i64 (Int.fdiv (wr .u64 (wr .i64 (a1 + b3))) (2 ^ (min (Int.toNat 1) (IntKind.bits .u64))))) + m2)) - 1)) data0 cp_4_0))))
theorem DB96c87io10001_eq (n : Nat × Nat) (hn : n.2 = 1) (SS : List Int → Int → Int → Int → (List (Int × Int)) → Option R96c87io10001) : B96c87io10001 n SS = DB96c87io10001 n SS := by
  funext data0 a1 m2 b3 cp_4_0; refine (B96c87io10001_eq n SS data0 a1 m2 b3 cp_4_0).trans ?_
  unfold DB96c87io10001
  (try simp only [DL96c87io10001_4_eq n hn SS, DL96c87io10001_1_eq n hn SS, DL96c87io10001_5_eq n hn SS, DL96c87io10001_2_eq n hn SS, DL96c87io10001_3_eq n hn SS, S87_D n hn, S97c87io10001_D n hn]) <;> first | with_reducible rfl | rfl
noncomputable def DT96c87io10001 (n : Nat × Nat) (d : Nat) : List Int → Int → Int → Int → (List (Int × Int)) → Option R96c87io10001 := Nat.rec (motive := fun _ => List Int → Int → Int → Int → (List (Int × Int)) → Option R96c87io10001) (fun _ _ _ _ _ => none) (fun _ ih => DB96c87io10001 n ih) d
theorem DT96c87io10001_succ (n : Nat × Nat) (d : Nat) : DT96c87io10001 n (d + 1) = DB96c87io10001 n (DT96c87io10001 n d) := rfl
theorem DT96c87io10001_eq (n : Nat × Nat) (hn : n.2 = 1) : ∀ d, T96c87io10001 n d = DT96c87io10001 n d
  | 0 => rfl
  | d + 1 => by
    funext data0 a1 m2 b3 cp_4_0
    rw [T96c87io10001_eq, DT96c87io10001_eq n hn d, DB96c87io10001_eq n hn, DT96c87io10001_succ]
noncomputable def D96c87io10001 (n : Nat × Nat) (data0 : List Int) (a1 : Int) (m2 : Int) (b3 : Int) (cp_4_0 : List (Int × Int)) : Option R96c87io10001 := DT96c87io10001 n n.1 data0 a1 m2 b3 cp_4_0
theorem S96c87io10001_D (n : Nat × Nat) (hn : n.2 = 1) : S96c87io10001 n = D96c87io10001 n := by
  funext data0 a1 m2 b3 cp_4_0; unfold S96c87io10001 D96c87io10001; rw [DT96c87io10001_eq n hn]
end Go.Proofs.Ytnlbhjmbaedadaa
set_option linter.unusedVariables false
set_option linter.unusedSimpArgs false
set_option maxRecDepth 100000
namespace Go.Proofs.Ytnlbhjmbaedadaa
open Go.Vi
/-D 94c87io101 -/
noncomputable def DF94c87io101_3 (n : Nat × Nat) (f1 : Int → Int → List Int → (List (Int × Int)) → Option R94c87io101) (f2 : Int → Int → Int → Int → List Int → (List (Int × Int)) → Option R94c87io101) (v1 : Int) (blockSize6 : Int) (a7 : Int) (b8 : Int) (v1000000000 : List Int) (v1000000001 : List (Int × Int)) : Option R94c87io101 :=
    (bif decide (b8 ≤ v1) then (D96c87io10001 n v1000000000 a7 (wr .i64 (a7 + blockSize6)) b8 v1000000001).bind fun r3' =>
      (bif Nat.beq r3'.2.1.length v1000000000.length then f2 v1 blockSize6 b8 (wr .i64 (b8 + (wr .i64 (2 * blockSize6)))) r3'.2.1 r3'.2.2.1
      else none)
    else (bif decide (wr .i64 (a7 + blockSize6) < v1) then (D96c87io10001 n v1000000000 a7 (wr .i64 (a7 + blockSize6)) v1 v1000000001).bind fun r4' =>
        (bif Nat.beq r4'.2.1.length v1000000000.length then f1 v1 (wr .i64 (blockSize6 * 2)) r4'.2.1 r4'.2.2.1
        else none)
      else f1 v1 (wr .i64 (blockSize6 * 2)) v1000000000 v1000000001))
noncomputable def DL94c87io101_3 (n : Nat × Nat) (f1 : Int → Int → List Int → (List (Int × Int)) → Option R94c87io101) (m : Nat) : Int → Int → Int → Int → List Int → (List (Int × Int)) → Option R94c87io101 := Nat.rec (motive := fun _ => Int → Int → Int → Int → List Int → (List (Int × Int)) → Option R94c87io101) (fun _ _ _ _ _ _ => none) (fun _ ih => DF94c87io101_3 n f1 ih) m
theorem DL94c87io101_3_succ (n : Nat × Nat) (f1 : Int → Int → List Int → (List (Int × Int)) → Option R94c87io101) (m : Nat) : DL94c87io101_3 n f1 (m + 1) = DF94c87io101_3 n f1 (DL94c87io101_3 n f1 m) := rfl
theorem DL94c87io101_3_eq (n : Nat × Nat) (hn : n.2 = 1) (m1 : Nat) : ∀ m, L94c87io101_3 n m1 m = DL94c87io101_3 n (L94c87io101_2 n m1) m
  | 0 => by funext v1 blockSize6 a7 b8 v1000000000 v1000000001; kernel_rfl
  | m + 1 => by
    have ih := DL94c87io101_3_eq n hn m1 m
    funext v1 blockSize6 a7 b8 v1000000000 v1000000001; refine (L94c87io101_3_eq n m1 m v1 blockSize6 a7 b8 v1000000000 v1000000001).trans ?_
    rw [DL94c87io101_3_succ]
    unfold DF94c87io101_3
    (try simp only [ih, S95c87io1001_D n hn, S96c87io10001_D n hn]) <;> first | with_reducible rfl | rfl
noncomputable def DF94c87io101_2 (n : Nat × Nat) (f1 : Int → Int → List Int → (List (Int × Int)) → Option R94c87io101) (v1 : Int) (blockSize6 : Int) (v1000000000 : List Int) (v1000000001 : List (Int × Int)) : Option R94c87io101 :=
    (bif decide (blockSize6 < v1) then DL94c87io101_3 n f1 n.1 v1 blockSize6 0 (wr .i64 (2 * blockSize6)) v1000000000 v1000000001
    else some ((), v1000000000, v1000000001, ()))
noncomputable def DL94c87io101_2 (n : Nat × Nat) (m : Nat) : Int → Int → List Int → (List (Int × Int)) → Option R94c87io101 := Nat.rec (motive := fun _ => Int → Int → List Int → (List (Int × Int)) → Option R94c87io101) (fun _ _ _ _ => none) (fun _ ih => DF94c87io101_2 n ih) m
theorem DL94c87io101_2_succ (n : Nat × Nat) (m : Nat) : DL94c87io101_2 n (m + 1) = DF94c87io101_2 n (DL94c87io101_2 n m) := rfl
theorem DL94c87io101_2_eq (n : Nat × Nat) (hn : n.2 = 1) : ∀ m, L94c87io101_2 n m = DL94c87io101_2 n m
  | 0 => by funext v1 blockSize6 v1000000000 v1000000001; kernel_rfl
  | m + 1 => by
    have ih := DL94c87io101_2_eq n hn m
    funext v1 blockSize6 v1000000000 v1000000001; refine (L94c87io101_2_eq n m v1 blockSize6 v1000000000 v1000000001).trans ?_
    rw [DL94c87io101_2_succ]
    unfold DF94c87io101_2
    (try simp only [ih, DL94c87io101_3_eq n hn, S95c87io1001_D n hn, S96c87io10001_D n hn]) <;> first | with_reducible rfl | rfl
noncomputable def DF94c87io101_1 (n : Nat × Nat) (f1 : Int → Int → Int → Int → List Int → (List (Int × Int)) → Option R94c87io101) (v1 : Int) (blockSize6 : Int) (a7 : Int) (b8 : Int) (v1000000000 : List Int) (v1000000001 : List (Int × Int)) : Option R94c87io101 :=
    (bif decide (b8 ≤ v1) then (D95c87io1001 n v1000000000 a7 b8 v1000000001).bind fun r1' =>
      (bif Nat.beq r1'.2.1.length v1000000000.length then f1 v1 blockSize6 b8 (wr .i64 (b8 + blockSize6)) r1'.2.1 r1'.2.2.1
      else none)
    else (D95c87io1001 n v1000000000 a7 v1 v1000000001).bind fun r2' =>
      (bif Nat.beq r2'.2.1.length v1000000000.length then DL94c87io101_2 n n.1 v1 blockSize6 r2'.2.1 r2'.2.2.1
      else none))
noncomputable def DL94c87io101_1 (n : Nat × Nat) (m : Nat) : Int → Int → Int → Int → List Int → (List (Int × Int)) → Option R94c87io101 := Nat.rec (motive := fun _ => Int → Int → Int → Int → List Int → (List (Int × Int)) → Option R94c87io101) (fun _ _ _ _ _ _ => none) (fun _ ih => DF94c87io101_1 n ih) m
theorem DL94c87io101_1_succ (n : Nat × Nat) (m : Nat) : DL94c87io101_1 n (m + 1) = DF94c87io101_1 n (DL94c87io101_1 n m) := rfl
theorem DL94c87io101_1_eq (n : Nat × Nat) (hn : n.2 = 1) : ∀ m, L94c87io101_1 n m = DL94c87io101_1 n m
  | 0 => by funext v1 blockSize6 a7 b8 v1000000000 v1000000001; kernel_rfl
  | m + 1 => by
    have ih := DL94c87io101_1_eq n hn m
    funext v1 blockSize6 a7 b8 v1000000000 v1000000001; refine (L94c87io101_1_eq n m v1 blockSize6 a7 b8 v1000000000 v1000000001).trans ?_
    rw [DL94c87io101_1_succ]
    unfold DF94c87io101_1
    (try simp only [ih, DL94c87io101_3_eq n hn, DL94c87io101_2_eq n hn, S95c87io1001_D n hn, S96c87io10001_D n hn]) <;> first | with_reducible rfl | rfl
noncomputable def D94c87io101 (n : Nat × Nat) (data0 : List Int) (v1 : Int) (cp_2_0 : List (Int × Int)) : Option R94c87io101 :=
    DL94c87io101_1 n n.1 v1 20 0 20 data0 cp_2_0
theorem S94c87io101_D (n : Nat × Nat) (hn : n.2 = 1) : S94c87io101 n = D94c87io101 n := by
  funext data0 v1 cp_2_0; refine (S94c87io101_eq n data0 v1 cp_2_0).trans ?_
  unfold D94c87io101
  (try simp only [DL94c87io101_3_eq n hn, DL94c87io101_2_eq n hn, DL94c87io101_1_eq n hn, S95c87io1001_D n hn, S96c87io10001_D n hn]) <;> first | with_reducible rfl | rfl
end Go.Proofs.Ytnlbhjmbaedadaa
set_option linter.unusedVariables false
set_option linter.unusedSimpArgs false
set_option maxRecDepth 100000
namespace Go.Proofs.Ytnlbhjmbaedadaa
open Go.Vi
/-D 85c87io11 -/
noncomputable def D85c87io11 (n : Nat × Nat) (x0 : List Int) (cp_1_0 : List (Int × Int)) : Option R85c87io11 :=
    (D94c87io101 n x0 (x0.length : Int) cp_1_0).bind fun r1' =>
    (bif Nat.beq r1'.2.1.length x0.length then some ((), r1'.2.1, r1'.2.2.1, ())
    else none)
theorem S85c87io11_D (n : Nat × Nat) (hn : n.2 = 1) : S85c87io11 n = D85c87io11 n := by
  funext x0 cp_1_0; refine (S85c87io11_eq n x0 cp_1_0).trans ?_
  unfold D85c87io11
  (try simp only [S94c87io101_D n hn]) <;> first | with_reducible rfl | rfl
end Go.Proofs.Ytnlbhjmbaedadaa
set_option linter.unusedVariables false
set_option linter.unusedSimpArgs false
set_option maxRecDepth 100000
namespace Go.Proofs.Ytnlbhjmbaedadaa
open Go.Vi
/-D 69 -/
noncomputable def DL69_2 (n : Nat × Nat) (f1 : (List (Int × Int)) → Int → Int → (List (Int × Int)) → List Int → List Int → Option R69) (v7 : List (Int × Int)) (v8 : Int) (v9 : Int) (sheets1 : List (Int × Int)) (front3 : List Int) (back4 : List Int) : Option R69 :=
    f1 v7 v8 (wr .i64 (v9 + 1)) sheets1 front3 back4
theorem DL69_2_eq (n : Nat × Nat) (hn : n.2 = 1) (m1 : Nat) : L69_2 n m1 = DL69_2 n (L69_1 n m1) := by
  funext v7 v8 v9 sheets1 front3 back4; refine ((held_eq hn _).trans (L69_2_raw n m1 v7 v8 v9 sheets1 front3 back4)).trans ?_
  unfold DL69_2
  (try simp only [S85c86io11_D n hn, S85c87io11_D n hn]) <;> first | with_reducible rfl | rfl
noncomputable def DF69_1 (n : Nat × Nat) (f1 : (List (Int × Int)) → Int → Int → (List (Int × Int)) → List Int → List Int → Option R69) (v7 : List (Int × Int)) (v8 : Int) (v9 : Int) (sheets1 : List (Int × Int)) (front3 : List Int) (back4 : List Int) : Option R69 :=
    (bif decide (v9 < v8) then (idx v7 v9).bind fun x1' =>
      (bif decide (x1'.1 < x1'.2) then (bif decide (front3.length + [v9].length ≤ lim) then DL69_2 n f1 v7 v8 v9 sheets1 (front3 ++ [v9]) back4
        else none)
      else (bif decide (back4.length + [v9].length ≤ lim) then DL69_2 n f1 v7 v8 v9 sheets1 front3 (back4 ++ [v9])
        else none))
    else (D85c86io11 n front3 sheets1).bind fun r2' =>
      (bif Nat.beq r2'.2.1.length front3.length then (D85c87io11 n back4 r2'.2.2.1).bind fun r3' =>
        (bif Nat.beq r3'.2.1.length back4.length then (bif decide (r2'.2.1.length + r3'.2.1.length ≤ lim) then some (r2'.2.1 ++ r3'.2.1)
          else none)
        else none)
      else none))
noncomputable def DL69_1 (n : Nat × Nat) (m : Nat) : (List (Int × Int)) → Int → Int → (List (Int × Int)) → List Int → List Int → Option R69 := Nat.rec (motive := fun _ => (List (Int × Int)) → Int → Int → (List (Int × Int)) → List Int → List Int → Option R69) (fun _ _ _ _ _ _ => none) (fun _ ih => DF69_1 n ih) m
theorem DL69_1_succ (n : Nat × Nat) (m : Nat) : DL69_1 n (m + 1) = DF69_1 n (DL69_1 n m) := rfl
theorem DL69_1_eq (n : Nat × Nat) (hn : n.2 = 1) : ∀ m, L69_1 n m = DL69_1 n m
  | 0 => by funext v7 v8 v9 sheets1 front3 back4; kernel_rfl
  | m + 1 => by
    have ih := DL69_1_eq n hn m
    funext v7 v8 v9 sheets1 front3 back4; refine (L69_1_eq n m v7 v8 v9 sheets1 front3 back4).trans ?_
    rw [DL69_1_succ]
    unfold DF69_1
    (try simp only [ih, DL69_2_eq n hn, S85c86io11_D n hn, S85c87io11_D n hn]) <;> first | with_reducible rfl | rfl
noncomputable def D69 (n : Nat × Nat) (sheets0 : List (Int × Int)) : Option R69 :=
    DL69_1 n n.1 sheets0 (sheets0.length : Int) 0 sheets0 [] []
theorem S69_D (n : Nat × Nat) (hn : n.2 = 1) : S69 n = D69 n := by
  funext sheets0; refine (S69_eq n sheets0).trans ?_
  unfold D69
  (try simp only [DL69_2_eq n hn, DL69_1_eq n hn, S85c86io11_D n hn, S85c87io11_D n hn]) <;> first | with_reducible rfl | rfl
end Go.Proofs.Ytnlbhjmbaedadaa
set_option linter.unusedVariables false
set_option linter.unusedSimpArgs false
set_option maxRecDepth 100000
namespace Go.Proofs.Ytnlbhjmbaedadaa
open Go.Vi
/-D 27 -/
noncomputable def D27 (n : Nat × Nat) (sheets0 : List (Int × Int)) : Option R27 :=
    (D25 n sheets0).bind fun r1' =>
    (bif (r1' != 0) then some ([], r1')
    else (D69 n sheets0).bind fun r2' =>
      some (r2', 0))
theorem S27_D (n : Nat × Nat) (hn : n.2 = 1) : S27 n = D27 n := by
  funext sheets0; refine (S27_eq n sheets0).trans ?_
  unfold D27
  (try simp only [S25_D n hn, S69_D n hn]) <;> first | with_reducible rfl | rfl
end Go.Proofs.Ytnlbhjmbaedadaa
set_option linter.unusedVariables false
set_option linter.unusedSimpArgs false
set_option maxRecDepth 100000
namespace Go.Proofs.Ytnlbhjmbaedadaa
open Go.Vi
/-D 88 -/
noncomputable def D88 (n : Nat × Nat) (sheets0 : List (Int × Int)) : Option R88 :=
    (D69 n sheets0).bind fun r1' =>
    (D58 n sheets0 r1').bind fun r2' =>
    (D61 n r2'.1).bind fun r3' =>
    some r3'
theorem S88_D (n : Nat × Nat) (hn : n.2 = 1) : S88 n = D88 n := by
  funext sheets0; refine (S88_eq n sheets0).trans ?_
  unfold D88
  (try simp only [S58_D n hn, S61_D n hn, S69_D n hn]) <;> first | with_reducible rfl | rfl
end Go.Proofs.Ytnlbhjmbaedadaa
set_option linter.unusedVariables false
set_option linter.unusedSimpArgs false
set_option maxRecDepth 100000
namespace Go.Proofs.Ytnlbhjmbaedadaa
open Go.Vi
/-D 72io01 -/
noncomputable def D72io01 (n : Nat × Nat) (order0 : List Int) (v1 : List Int) : Option R72io01 :=
    some (false, order0, ())
theorem S72io01_D (n : Nat × Nat) (hn : n.2 = 1) : S72io01 n = D72io01 n := by
  funext order0 v1; refine (S72io01_eq n order0 v1).trans ?_
  unfold D72io01
  first | with_reducible rfl | rfl
end Go.Proofs.Ytnlbhjmbaedadaa
set_option linter.unusedVariables false
set_option linter.unusedSimpArgs false
set_option maxRecDepth 100000
namespace Go.Proofs.Ytnlbhjmbaedadaa
open Go.Vi
/-D 89f72io0001110 -/
noncomputable def DL89f72io0001110_2 (n : Nat × Nat) (SS : List Int → Int → Int → (List (Int × Int)) → List Int → Int → Option R89f72io0001110) (f1 : List Int → Int → Int → (List (Int × Int)) → Int → Int → Int → (List (Int × Int)) → List Int → Option R89f72io0001110) (order0 : List Int) (a1 : Int) (b2 : Int) (v23 : List (Int × Int)) (v24 : Int) (v25 : Int) (v1000000002 : Int) (v1000000000 : List (Int × Int)) (v1000000001 : List Int) : Option R89f72io0001110 :=
    f1 order0 a1 b2 v23 v24 (wr .i64 (v25 + 1)) v1000000002 v1000000000 v1000000001
theorem DL89f72io0001110_2_eq (n : Nat × Nat) (hn : n.2 = 1) (SS : List Int → Int → Int → (List (Int × Int)) → List Int → Int → Option R89f72io0001110) (m1 : Nat) : L89f72io0001110_2 n SS m1 = DL89f72io0001110_2 n SS (L89f72io0001110_1 n SS m1) := by
  funext order0 a1 b2 v23 v24 v25 v1000000002 v1000000000 v1000000001; refine ((held_eq hn _).trans (L89f72io0001110_2_raw n SS m1 order0 a1 b2 v23 v24 v25 v1000000002 v1000000000 v1000000001)).trans ?_
  unfold DL89f72io0001110_2
  (try simp only [S80_D n hn, S72io01_D n hn]) <;> first | with_reducible rfl | rfl
noncomputable def DF89f72io0001110_1 (n : Nat × Nat) (SS : List Int → Int → Int → (List (Int × Int)) → List Int → Int → Option R89f72io0001110) (f1 : List Int → Int → Int → (List (Int × Int)) → Int → Int → Int → (List (Int × Int)) → List Int → Option R89f72io0001110) (order0 : List Int) (a1 : Int) (b2 : Int) (v23 : List (Int × Int)) (v24 : Int) (v25 : Int) (v1000000002 : Int) (v1000000000 : List (Int × Int)) (v1000000001 : List Int) : Option R89f72io0001110 :=
    (bif decide (v25 < v24) then (idx v23 v25).bind fun x2' =>
      (D80 n order0 v25).bind fun r3' =>
      (bif r3' then DL89f72io0001110_2 n SS f1 order0 a1 b2 v23 v24 v25 v1000000002 v1000000000 v1000000001
      else (bif (decide (wr .i64 ((if b2 > (wr .i64 (a1 + x2'.1)) then b2 else (wr .i64 (a1 + x2'.1))) + x2'.2) ≤ v1000000002) == true) then (bif ((order0.length : Int) == (order0.length : Int)) && bounds none (some (order0.length : Int)) (some (order0.length : Int)) order0.length then (bif decide ((order0.take (Int.toNat (order0.length : Int))).length + [v25].length ≤ lim) && ((order0.take (Int.toNat (order0.length : Int))).isEmpty || ![v25].isEmpty) then (SS ((order0.take (Int.toNat (order0.length : Int))) ++ [v25]) (wr .i64 (a1 + x2'.1)) (wr .i64 ((if b2 > (wr .i64 (a1 + x2'.1)) then b2 else (wr .i64 (a1 + x2'.1))) + x2'.2)) v1000000000 v1000000001 v1000000002).bind fun r5' =>
              (bif (!r5'.1) then some (false, r5'.2.1, r5'.2.2.1, r5'.2.2.2.1, ())
              else DL89f72io0001110_2 n SS f1 order0 a1 b2 v23 v24 v25 r5'.2.2.2.1 r5'.2.1 r5'.2.2.1)
            else none)
          else none)
        else (bif false then some (false, v1000000000, v1000000001, v1000000002, ())
          else DL89f72io0001110_2 n SS f1 order0 a1 b2 v23 v24 v25 v1000000002 v1000000000 v1000000001)))
    else some (true, v1000000000, v1000000001, v1000000002, ()))
noncomputable def DL89f72io0001110_1 (n : Nat × Nat) (SS : List Int → Int → Int → (List (Int × Int)) → List Int → Int → Option R89f72io0001110) (m : Nat) : List Int → Int → Int → (List (Int × Int)) → Int → Int → Int → (List (Int × Int)) → List Int → Option R89f72io0001110 := Nat.rec (motive := fun _ => List Int → Int → Int → (List (Int × Int)) → Int → Int → Int → (List (Int × Int)) → List Int → Option R89f72io0001110) (fun _ _ _ _ _ _ _ _ _ => none) (fun _ ih => DF89f72io0001110_1 n SS ih) m
theorem DL89f72io0001110_1_succ (n : Nat × Nat) (SS : List Int → Int → Int → (List (Int × Int)) → List Int → Int → Option R89f72io0001110) (m : Nat) : DL89f72io0001110_1 n SS (m + 1) = DF89f72io0001110_1 n SS (DL89f72io0001110_1 n SS m) := rfl
theorem DL89f72io0001110_1_eq (n : Nat × Nat) (hn : n.2 = 1) (SS : List Int → Int → Int → (List (Int × Int)) → List Int → Int → Option R89f72io0001110) : ∀ m, L89f72io0001110_1 n SS m = DL89f72io0001110_1 n SS m
  | 0 => by funext order0 a1 b2 v23 v24 v25 v1000000002 v1000000000 v1000000001; kernel_rfl
  | m + 1 => by
    have ih := DL89f72io0001110_1_eq n hn SS m
    funext order0 a1 b2 v23 v24 v25 v1000000002 v1000000000 v1000000001; refine (L89f72io0001110_1_eq n SS m order0 a1 b2 v23 v24 v25 v1000000002 v1000000000 v1000000001).trans ?_
    rw [DL89f72io0001110_1_succ]
    unfold DF89f72io0001110_1
    (try simp only [ih, DL89f72io0001110_2_eq n hn SS, S80_D n hn, S72io01_D n hn]) <;> first | with_reducible rfl | rfl
noncomputable def DB89f72io0001110 (n : Nat × Nat) (SS : List Int → Int → Int → (List (Int × Int)) → List Int → Int → Option R89f72io0001110) (order0 : List Int) (a1 : Int) (b2 : Int) (v3 : List (Int × Int)) (cp_4_0 : List Int) (v5 : Int) : Option R89f72io0001110 :=
    (bif ((order0.length : Int) == (v3.length : Int)) then (D72io01 n order0 cp_4_0).bind fun r1' =>
      some (r1'.1, v3, r1'.2.1, v5, ())
    else DL89f72io0001110_1 n SS n.1 order0 a1 b2 v3 (v3.length : Int) 0 v5 v3 cp_4_0)
theorem DB89f72io0001110_eq (n : Nat × Nat) (hn : n.2 = 1) (SS : List Int → Int → Int → (List (Int × Int)) → List Int → Int → Option R89f72io0001110) : B89f72io0001110 n SS = DB89f72io0001110 n SS := by
  funext order0 a1 b2 v3 cp_4_0 v5; refine (B89f72io0001110_eq n SS order0 a1 b2 v3 cp_4_0 v5).trans ?_
  unfold DB89f72io0001110
  (try simp only [DL89f72io0001110_2_eq n hn SS, DL89f72io0001110_1_eq n hn SS, S80_D n hn, S72io01_D n hn]) <;> first | with_reducible rfl | rfl
noncomputable def DT89f72io0001110 (n : Nat × Nat) (d : Nat) : List Int → Int → Int → (List (Int × Int)) → List Int → Int → Option R89f72io0001110 := Nat.rec (motive := fun _ => List Int → Int → Int → (List (Int × Int)) → List Int → Int → Option R89f72io0001110) (fun _ _ _ _ _ _ => none) (fun _ ih => DB89f72io0001110 n ih) d
theorem DT89f72io0001110_succ (n : Nat × Nat) (d : Nat) : DT89f72io0001110 n (d + 1) = DB89f72io0001110 n (DT89f72io0001110 n d) := rfl
theorem DT89f72io0001110_eq (n : Nat × Nat) (hn : n.2 = 1) : ∀ d, T89f72io0001110 n d = DT89f72io0001110 n d
  | 0 => rfl
  | d + 1 => by
    funext order0 a1 b2 v3 cp_4_0 v5
    rw [T89f72io0001110_eq, DT89f72io0001110_eq n hn d, DB89f72io0001110_eq n hn, DT89f72io0001110_succ]
noncomputable def D89f72io0001110 (n : Nat × Nat) (order0 : List Int) (a1 : Int) (b2 : Int) (v3 : List (Int × Int)) (cp_4_0 : List Int) (v5 : Int) : Option R89f72io0001110 := DT89f72io0001110 n n.1 order0 a1 b2 v3 cp_4_0 v5
theorem S89f72io0001110_D (n : Nat × Nat) (hn : n.2 = 1) : S89f72io0001110 n = D89f72io0001110 n := by
  funext order0 a1 b2 v3 cp_4_0 v5; unfold S89f72io0001110 D89f72io0001110; rw [DT89f72io0001110_eq n hn]
end Go.Proofs.Ytnlbhjmbaedadaa
set_option linter.unusedVariables false
set_option linter.unusedSimpArgs false
set_option maxRecDepth 100000
namespace Go.Proofs.Ytnlbhjmbaedadaa
open Go.Vi
/-D 71c72io01 -/
noncomputable def D71c72io01 (n : Nat × Nat) (sheets0 : List (Int × Int)) (cp_1_0 : List Int) : Option R71c72io01 :=
    (D88 n sheets0).bind fun r1' =>
    (D89f72io0001110 n [] 0 0 sheets0 cp_1_0 r1').bind fun r2' =>
    some ((), r2'.2.2.1, ())
theorem S71c72io01_D (n : Nat × Nat) (hn : n.2 = 1) : S71c72io01 n = D71c72io01 n := by
  funext sheets0 cp_1_0; refine (S71c72io01_eq n sheets0 cp_1_0).trans ?_
  unfold D71c72io01
  (try simp only [S88_D n hn, S89f72io0001110_D n hn]) <;> first | with_reducible rfl | rfl
end Go.Proofs.Ytnlbhjmbaedadaa
set_option linter.unusedVariables false
set_option linter.unusedSimpArgs false
set_option maxRecDepth 100000
namespace Go.Proofs.Ytnlbhjmbaedadaa
open Go.Vi
/-D 29 -/
noncomputable def D29 (n : Nat × Nat) (sheets0 : List (Int × Int)) : Option R29 :=
    (D25 n sheets0).bind fun r1' =>
    (bif (r1' != 0) then some ([], r1')
    else (D71c72io01 n sheets0 []).bind fun r2' =>
      some (r2'.2.1, 0))
theorem S29_D (n : Nat × Nat) (hn : n.2 = 1) : S29 n = D29 n := by
  funext sheets0; refine (S29_eq n sheets0).trans ?_
  unfold D29
  (try simp only [S25_D n hn, S71c72io01_D n hn]) <;> first | with_reducible rfl | rfl
end Go.Proofs.Ytnlbhjmbaedadaa
set_option linter.unusedVariables false
set_option linter.unusedSimpArgs false
set_option maxRecDepth 100000
namespace Go.Proofs.Ytnlbhjmbaedadaa
open Go.Vi
/-D 74io01 -/
noncomputable def D74io01 (n : Nat × Nat) (v0 : List Int) (v1 : Int) : Option R74io01 :=
    some (true, wr .i64 (v1 + 1), ())
theorem S74io01_D (n : Nat × Nat) (hn : n.2 = 1) : S74io01 n = D74io01 n := by
  funext v0 v1; refine (S74io01_eq n v0 v1).trans ?_
  unfold D74io01
  first | with_reducible rfl | rfl
end Go.Proofs.Ytnlbhjmbaedadaa
set_option linter.unusedVariables false
set_option linter.unusedSimpArgs false
set_option maxRecDepth 100000
namespace Go.Proofs.Ytnlbhjmbaedadaa
open Go.Vi
/-D 89f74io0001110 -/
noncomputable def DL89f74io0001110_2 (n : Nat × Nat) (SS : List Int → Int → Int → (List (Int × Int)) → Int → Int → Option R89f74io0001110) (f1 : List Int → Int → Int → (List (Int × Int)) → Int → Int → Int → (List (Int × Int)) → Int → Option R89f74io0001110) (order0 : List Int) (a1 : Int) (b2 : Int) (v23 : List (Int × Int)) (v24 : Int) (v25 : Int) (v1000000002 : Int) (v1000000000 : List (Int × Int)) (v1000000001 : Int) : Option R89f74io0001110 :=
    f1 order0 a1 b2 v23 v24 (wr .i64 (v25 + 1)) v1000000002 v1000000000 v1000000001
theorem DL89f74io0001110_2_eq (n : Nat × Nat) (hn : n.2 = 1) (SS : List Int → Int → Int → (List (Int × Int)) → Int → Int → Option R89f74io0001110) (m1 : Nat) : L89f74io0001110_2 n SS m1 = DL89f74io0001110_2 n SS (L89f74io0001110_1 n SS m1) := by
  funext order0 a1 b2 v23 v24 v25 v1000000002 v1000000000 v1000000001; refine ((held_eq hn _).trans (L89f74io0001110_2_raw n SS m1 order0 a1 b2 v23 v24 v25 v1000000002 v1000000000 v1000000001)).trans ?_
  unfold DL89f74io0001110_2
  (try simp only [S80_D n hn, S74io01_D n hn]) <;> first | with_reducible rfl | rfl
noncomputable def DF89f74io0001110_1 (n : Nat × Nat) (SS : List Int → Int → Int → (List (Int × Int)) → Int → Int → Option R89f74io0001110) (f1 : List Int → Int → Int → (List (Int × Int)) → Int → Int → Int → (List (Int × Int)) → Int → Option R89f74io0001110) (order0 : List Int) (a1 : Int) (b2 : Int) (v23 : List (Int × Int)) (v24 : Int) (v25 : Int) (v1000000002 : Int) (v1000000000 : List (Int × Int)) (v1000000001 : Int) : Option R89f74io0001110 :=
    (bif decide (v25 < v24) then (idx v23 v25).bind fun x2' =>
      (D80 n order0 v25).bind fun r3' =>
      (bif r3' then DL89f74io0001110_2 n SS f1 order0 a1 b2 v23 v24 v25 v1000000002 v1000000000 v1000000001
      else (bif (decide (wr .i64 ((if b2 > (wr .i64 (a1 + x2'.1)) then b2 else (wr .i64 (a1 + x2'.1))) + x2'.2) ≤ v1000000002) == true) then (bif ((order0.length : Int) == (order0.length : Int)) && bounds none (some (order0.length : Int)) (some (order0.length : Int)) order0.length then (bif decide ((order0.take (Int.toNat (order0.length : Int))).length + [v25].length ≤ lim) && ((order0.take (Int.toNat (order0.length : Int))).isEmpty || ![v25].isEmpty) then (SS ((order0.take (Int.toNat (order0.length : Int))) ++ [v25]) (wr .i64 (a1 + x2'.1)) (wr .i64 ((if b2 > (wr .i64 (a1 + x2'.1)) then b2 else (wr .i64 (a1 + x2'.1))) + x2'.2)) v1000000000 v1000000001 v1000000002).bind fun r5' =>
              (bif (!r5'.1) then some (false, r5'.2.1, r5'.2.2.1, r5'.2.2.2.1, ())
              else DL89f74io0001110_2 n SS f1 order0 a1 b2 v23 v24 v25 r5'.2.2.2.1 r5'.2.1 r5'.2.2.1)
            else none)
          else none)
        else (bif false then some (false, v1000000000, v1000000001, v1000000002, ())
          else DL89f74io0001110_2 n SS f1 order0 a1 b2 v23 v24 v25 v1000000002 v1000000000 v1000000001)))
    else some (true, v1000000000, v1000000001, v1000000002, ()))
noncomputable def DL89f74io0001110_1 (n : Nat × Nat) (SS : List Int → Int → Int → (List (Int × Int)) → Int → Int → Option R89f74io0001110) (m : Nat) : List Int → Int → Int → (List (Int × Int)) → Int → Int → Int → (List (Int × Int)) → Int → Option R89f74io0001110 := Nat.rec (motive := fun _ => List Int → Int → Int → (List (Int × Int)) → Int → Int → Int → (List (Int × Int)) → Int → Option R89f74io0001110) (fun _ _ _ _ _ _ _ _ _ => none) (fun _ ih => DF89f74io0001110_1 n SS ih) m
theorem DL89f74io0001110_1_succ (n : Nat × Nat) (SS : List Int → Int → Int → (List (Int × Int)) → Int → Int → Option R89f74io0001110) (m : Nat) : DL89f74io0001110_1 n SS (m + 1) = DF89f74io0001110_1 n SS (DL89f74io0001110_1 n SS m) := rfl
theorem DL89f74io0001110_1_eq (n : Nat × Nat) (hn : n.2 = 1) (SS : List Int → Int → Int → (List (Int × Int)) → Int → Int → Option R89f74io0001110) : ∀ m, L89f74io0001110_1 n SS m = DL89f74io0001110_1 n SS m
  | 0 => by funext order0 a1 b2 v23 v24 v25 v1000000002 v1000000000 v1000000001; kernel_rfl
  | m + 1 => by
    have ih := DL89f74io0001110_1_eq n hn SS m
    funext order0 a1 b2 v23 v24 v25 v1000000002 v1000000000 v1000000001; refine (L89f74io0001110_1_eq n SS m order0 a1 b2 v23 v24 v25 v1000000002 v1000000000 v1000000001).trans ?_
    rw [DL89f74io0001110_1_succ]
    unfold DF89f74io0001110_1
    (try simp only [ih, DL89f74io0001110_2_eq n hn SS, S80_D n hn, S74io01_D n hn]) <;> first | with_reducible rfl | rfl
noncomputable def DB89f74io0001110 (n : Nat × Nat) (SS : List Int → Int → Int → (List (Int × Int)) → Int → Int → Option R89f74io0001110) (order0 : List Int) (a1 : Int) (b2 : Int) (v3 : List (Int × Int)) (cp_4_0 : Int) (v5 : Int) : Option R89f74io0001110 :=
    (bif ((order0.length : Int) == (v3.length : Int)) then (D74io01 n order0 cp_4_0).bind fun r1' =>
      some (r1'.1, v3, r1'.2.1, v5, ())
    else DL89f74io0001110_1 n SS n.1 order0 a1 b2 v3 (v3.length : Int) 0 v5 v3 cp_4_0)
theorem DB89f74io0001110_eq (n : Nat × Nat) (hn : n.2 = 1) (SS : List Int → Int → Int → (List (Int × Int)) → Int → Int → Option R89f74io0001110) : B89f74io0001110 n SS = DB89f74io0001110 n SS := by
  funext order0 a1 b2 v3 cp_4_0 v5; refine (B89f74io0001110_eq n SS order0 a1 b2 v3 cp_4_0 v5).trans ?_
  unfold DB89f74io0001110
  (try simp only [DL89f74io0001110_2_eq n hn SS, DL89f74io0001110_1_eq n hn SS, S80_D n hn, S74io01_D n hn]) <;> first | with_reducible rfl | rfl
noncomputable def DT89f74io0001110 (n : Nat × Nat) (d : Nat) : List Int → Int → Int → (List (Int × Int)) → Int → Int → Option R89f74io0001110 := Nat.rec (motive := fun _ => List Int → Int → Int → (List (Int × Int)) → Int → Int → Option R89f74io0001110) (fun _ _ _ _ _ _ => none) (fun _ ih => DB89f74io0001110 n ih) d
theorem DT89f74io0001110_succ (n : Nat × Nat) (d : Nat) : DT89f74io0001110 n (d + 1) = DB89f74io0001110 n (DT89f74io0001110 n d) := rfl
theorem DT89f74io0001110_eq (n : Nat × Nat) (hn : n.2 = 1) : ∀ d, T89f74io0001110 n d = DT89f74io0001110 n d
  | 0 => rfl
  | d + 1 => by
    funext order0 a1 b2 v3 cp_4_0 v5
    rw [T89f74io0001110_eq, DT89f74io0001110_eq n hn d, DB89f74io0001110_eq n hn, DT89f74io0001110_succ]
noncomputable def D89f74io0001110 (n : Nat × Nat) (order0 : List Int) (a1 : Int) (b2 : Int) (v3 : List (Int × Int)) (cp_4_0 : Int) (v5 : Int) : Option R89f74io0001110 := DT89f74io0001110 n n.1 order0 a1 b2 v3 cp_4_0 v5
theorem S89f74io0001110_D (n : Nat × Nat) (hn : n.2 = 1) : S89f74io0001110 n = D89f74io0001110 n := by
  funext order0 a1 b2 v3 cp_4_0 v5; unfold S89f74io0001110 D89f74io0001110; rw [DT89f74io0001110_eq n hn]
end Go.Proofs.Ytnlbhjmbaedadaa
set_option linter.unusedVariables false
set_option linter.unusedSimpArgs false
set_option maxRecDepth 100000
namespace Go.Proofs.Ytnlbhjmbaedadaa
open Go.Vi
/-D 71c74io01 -/
noncomputable def D71c74io01 (n : Nat × Nat) (sheets0 : List (Int × Int)) (cp_1_0 : Int) : Option R71c74io01 :=
    (D88 n sheets0).bind fun r1' =>
    (D89f74io0001110 n [] 0 0 sheets0 cp_1_0 r1').bind fun r2' =>
    some ((), r2'.2.2.1, ())
theorem S71c74io01_D (n : Nat × Nat) (hn : n.2 = 1) : S71c74io01 n = D71c74io01 n := by
  funext sheets0 cp_1_0; refine (S71c74io01_eq n sheets0 cp_1_0).trans ?_
  unfold D71c74io01
  (try simp only [S88_D n hn, S89f74io0001110_D n hn]) <;> first | with_reducible rfl | rfl
end Go.Proofs.Ytnlbhjmbaedadaa
set_option linter.unusedVariables false
set_option linter.unusedSimpArgs false
set_option maxRecDepth 100000
namespace Go.Proofs.Ytnlbhjmbaedadaa
open Go.Vi
/-D 31 -/
noncomputable def D31 (n : Nat × Nat) (sheets0 : List (Int × Int)) : Option R31 :=
    (D25 n sheets0).bind fun r1' =>
    (bif (r1' != 0) then some (0, r1')
    else (D71c74io01 n sheets0 0).bind fun r2' =>
      some (r2'.2.1, 0))
theorem S31_D (n : Nat × Nat) (hn : n.2 = 1) : S31 n = D31 n := by
  funext sheets0; refine (S31_eq n sheets0).trans ?_
  unfold D31
  (try simp only [S25_D n hn, S71c74io01_D n hn]) <;> first | with_reducible rfl | rfl
end Go.Proofs.Ytnlbhjmbaedadaa
set_option linter.unusedVariables false
set_option linter.unusedSimpArgs false
set_option maxRecDepth 100000
namespace Go.Proofs.Ytnlbhjmbaedadaa
open Go.Vi
/-D 33 -/
noncomputable def D33 (n : Nat × Nat) (sheets0 : List (Int × Int)) (i1 : Int) (j2 : Int) : Option R33 :=
    (D25 n sheets0).bind fun r1' =>
    (bif (r1' != 0) then some (false, r1')
    else ((bif (decide ((if j2 < i1 then j2 else i1) < 0) == false) then some (decide ((if j2 > i1 then j2 else i1) ≥ (sheets0.length : Int)))
        else some true)).bind fun b2' =>
      (bif b2' then some (false, 2)
      else (idx sheets0 i1).bind fun x3' =>
        (idx sheets0 j2).bind fun x4' =>
        some (decide ((if x4'.2 < x3'.1 then x4'.2 else x3'.1) ≤ (if x3'.2 < x4'.1 then x3'.2 else x4'.1)), 0)))
theorem S33_D (n : Nat × Nat) (hn : n.2 = 1) : S33 n = D33 n := by
  funext sheets0 i1 j2; refine (S33_eq n sheets0 i1 j2).trans ?_
  unfold D33
  (try simp only [S25_D n hn]) <;> first | with_reducible rfl | rfl
end Go.Proofs.Ytnlbhjmbaedadaa
set_option linter.unusedVariables false
set_option linter.unusedSimpArgs false
set_option maxRecDepth 100000
namespace Go.Proofs.Ytnlbhjmbaedadaa
open Go.Vi
/-D 75 -/
noncomputable def DL75_2 (n : Nat × Nat) (f1 : Int → Int → Int → Int → List Int → List Int → Option R75) (k2 : Int) (v9 : Int) (v24 : Int) (v25 : Int) (own7 : List Int) (other8 : List Int) : Option R75 :=
    f1 k2 v9 v24 (wr .i64 (v25 + 1)) own7 other8
theorem DL75_2_eq (n : Nat × Nat) (hn : n.2 = 1) (m1 : Nat) : L75_2 n m1 = DL75_2 n (L75_1 n m1) := by
  funext k2 v9 v24 v25 own7 other8; refine ((held_eq hn _).trans (L75_2_raw n m1 k2 v9 v24 v25 own7 other8)).trans ?_
  unfold DL75_2
  (try simp only [S64_D n hn]) <;> first | with_reducible rfl | rfl
noncomputable def DF75_1 (n : Nat × Nat) (f1 : Int → Int → Int → Int → List Int → List Int → Option R75) (k2 : Int) (v9 : Int) (v24 : Int) (v25 : Int) (own7 : List Int) (other8 : List Int) : Option R75 :=
    (bif decide (v25 < v24) then (bif inB v25 own7.length then (idx own7 v25).bind fun x4' =>
        (bif inB k2 own7.length then (idx own7 k2).bind fun x5' =>
          (bif decide (x4' < x5') then (bif inB v25 other8.length then (idx other8 v25).bind fun x6' =>
              DL75_2 n f1 k2 (wr .i64 (v9 + (if x6' < x4' then x6' else x4'))) v24 v25 own7 other8
            else none)
          else (bif inB v25 other8.length then (idx other8 v25).bind fun x7' =>
              DL75_2 n f1 k2 (wr .i64 (v9 + x7')) v24 v25 own7 other8
            else none))
        else none)
      else none)
    else some v9)
noncomputable def DL75_1 (n : Nat × Nat) (m : Nat) : Int → Int → Int → Int → List Int → List Int → Option R75 := Nat.rec (motive := fun _ => Int → Int → Int → Int → List Int → List Int → Option R75) (fun _ _ _ _ _ _ => none) (fun _ ih => DF75_1 n ih) m
theorem DL75_1_succ (n : Nat × Nat) (m : Nat) : DL75_1 n (m + 1) = DF75_1 n (DL75_1 n m) := rfl
theorem DL75_1_eq (n : Nat × Nat) (hn : n.2 = 1) : ∀ m, L75_1 n m = DL75_1 n m
  | 0 => by funext k2 v9 v24 v25 own7 other8; kernel_rfl
  | m + 1 => by
    have ih := DL75_1_eq n hn m
    funext k2 v9 v24 v25 own7 other8; refine (L75_1_eq n m k2 v9 v24 v25 own7 other8).trans ?_
    rw [DL75_1_succ]
    unfold DF75_1
    (try simp only [ih, DL75_2_eq n hn, S64_D n hn]) <;> first | with_reducible rfl | rfl
noncomputable def D75 (n : Nat × Nat) (sheets0 : List (Int × Int)) (machine1 : Int) (k2 : Int) : Option R75 :=
    (D64 n sheets0 machine1).bind fun r1' =>
    (D64 n sheets0 (wr .i64 (1 - machine1))).bind fun r2' =>
    (bif inB k2 r1'.length then (idx r1' k2).bind fun x3' =>
      DL75_1 n n.1 k2 x3' (r1'.length : Int) 0 r1' r2'
    else none)
theorem S75_D (n : Nat × Nat) (hn : n.2 = 1) : S75 n = D75 n := by
  funext sheets0 machine1 k2; refine (S75_eq n sheets0 machine1 k2).trans ?_
  unfold D75
  (try simp only [DL75_2_eq n hn, DL75_1_eq n hn, S64_D n hn]) <;> first | with_reducible rfl | rfl
end Go.Proofs.Ytnlbhjmbaedadaa
set_option linter.unusedVariables false
set_option linter.unusedSimpArgs false
set_option maxRecDepth 100000
namespace Go.Proofs.Ytnlbhjmbaedadaa
open Go.Vi
/-D 35 -/
noncomputable def D35 (n : Nat × Nat) (sheets0 : List (Int × Int)) (machine1 : Int) (k2 : Int) : Option R35 :=
    (D25 n sheets0).bind fun r1' =>
    (bif (r1' != 0) then some (0, r1')
    else ((bif (decide (machine1 < 0) == false) then some (decide (machine1 > 1))
        else some true)).bind fun b2' =>
      ((bif (b2' == false) then some (decide (k2 < 0))
        else some true)).bind fun b3' =>
      ((bif (b3' == false) then some (decide (k2 ≥ (sheets0.length : Int)))
        else some true)).bind fun b4' =>
      (bif b4' then some (0, 2)
      else (D75 n sheets0 machine1 k2).bind fun r5' =>
        some (r5', 0)))
theorem S35_D (n : Nat × Nat) (hn : n.2 = 1) : S35 n = D35 n := by
  funext sheets0 machine1 k2; refine (S35_eq n sheets0 machine1 k2).trans ?_
  unfold D35
  (try simp only [S25_D n hn, S75_D n hn]) <;> first | with_reducible rfl | rfl
end Go.Proofs.Ytnlbhjmbaedadaa
set_option linter.unusedVariables false
set_option linter.unusedSimpArgs false
set_option maxRecDepth 100000
namespace Go.Proofs.Ytnlbhjmbaedadaa
open Go.Vi
/-D 37 -/
noncomputable def DL37_3 (n : Nat × Nat) (f1 : (List (Int × Int)) → Int → Int → Int → Int → Option R37) (f2 : (List (Int × Int)) → Int → Int → Int → Int → Int → Int → Int → Option R37) (sheets0 : List (Int × Int)) (machine2 : Int) (k3 : Int) (best6 : Int) (m7 : Int) (v15 : Int) (v19 : Int) (v20 : Int) : Option R37 :=
    f2 sheets0 machine2 k3 best6 m7 v15 v19 (wr .i64 (v20 + 1))
theorem DL37_3_eq (n : Nat × Nat) (hn : n.2 = 1) (m1 m2 : Nat) : L37_3 n m1 m2 = DL37_3 n (L37_1 n m1) (L37_2 n m1 m2) := by
  funext sheets0 machine2 k3 best6 m7 v15 v19 v20; refine ((held_eq hn _).trans (L37_3_raw n m1 m2 sheets0 machine2 k3 best6 m7 v15 v19 v20)).trans ?_
  unfold DL37_3
  (try simp only [S25_D n hn, S75_D n hn]) <;> first | with_reducible rfl | rfl
noncomputable def DF37_2 (n : Nat × Nat) (f1 : (List (Int × Int)) → Int → Int → Int → Int → Option R37) (f2 : (List (Int × Int)) → Int → Int → Int → Int → Int → Int → Int → Option R37) (sheets0 : List (Int × Int)) (machine2 : Int) (k3 : Int) (best6 : Int) (m7 : Int) (v15 : Int) (v19 : Int) (v20 : Int) : Option R37 :=
    (bif decide (v20 < v19) then (D75 n sheets0 m7 v20).bind fun r2' =>
      (bif decide (r2' > best6) then DL37_3 n f1 f2 sheets0 m7 v20 r2' m7 v15 v19 v20
      else DL37_3 n f1 f2 sheets0 machine2 k3 best6 m7 v15 v19 v20)
    else f1 sheets0 machine2 k3 best6 (wr .i64 (v15 + 1)))
noncomputable def DL37_2 (n : Nat × Nat) (f1 : (List (Int × Int)) → Int → Int → Int → Int → Option R37) (m : Nat) : (List (Int × Int)) → Int → Int → Int → Int → Int → Int → Int → Option R37 := Nat.rec (motive := fun _ => (List (Int × Int)) → Int → Int → Int → Int → Int → Int → Int → Option R37) (fun _ _ _ _ _ _ _ _ => none) (fun _ ih => DF37_2 n f1 ih) m
theorem DL37_2_succ (n : Nat × Nat) (f1 : (List (Int × Int)) → Int → Int → Int → Int → Option R37) (m : Nat) : DL37_2 n f1 (m + 1) = DF37_2 n f1 (DL37_2 n f1 m) := rfl
theorem DL37_2_eq (n : Nat × Nat) (hn : n.2 = 1) (m1 : Nat) : ∀ m, L37_2 n m1 m = DL37_2 n (L37_1 n m1) m
  | 0 => by funext sheets0 machine2 k3 best6 m7 v15 v19 v20; kernel_rfl
  | m + 1 => by
    have ih := DL37_2_eq n hn m1 m
    funext sheets0 machine2 k3 best6 m7 v15 v19 v20; refine (L37_2_eq n m1 m sheets0 machine2 k3 best6 m7 v15 v19 v20).trans ?_
    rw [DL37_2_succ]
    unfold DF37_2
    (try simp only [ih, DL37_3_eq n hn, S25_D n hn, S75_D n hn]) <;> first | with_reducible rfl | rfl
noncomputable def DF37_1 (n : Nat × Nat) (f1 : (List (Int × Int)) → Int → Int → Int → Int → Option R37) (sheets0 : List (Int × Int)) (machine2 : Int) (k3 : Int) (best6 : Int) (v15 : Int) : Option R37 :=
    (bif decide (v15 < 2) then DL37_2 n f1 n.1 sheets0 machine2 k3 best6 v15 v15 (sheets0.length : Int) 0
    else some (machine2, k3, 0))
noncomputable def DL37_1 (n : Nat × Nat) (m : Nat) : (List (Int × Int)) → Int → Int → Int → Int → Option R37 := Nat.rec (motive := fun _ => (List (Int × Int)) → Int → Int → Int → Int → Option R37) (fun _ _ _ _ _ => none) (fun _ ih => DF37_1 n ih) m
theorem DL37_1_succ (n : Nat × Nat) (m : Nat) : DL37_1 n (m + 1) = DF37_1 n (DL37_1 n m) := rfl
theorem DL37_1_eq (n : Nat × Nat) (hn : n.2 = 1) : ∀ m, L37_1 n m = DL37_1 n m
  | 0 => by funext sheets0 machine2 k3 best6 v15; kernel_rfl
  | m + 1 => by
    have ih := DL37_1_eq n hn m
    funext sheets0 machine2 k3 best6 v15; refine (L37_1_eq n m sheets0 machine2 k3 best6 v15).trans ?_
    rw [DL37_1_succ]
    unfold DF37_1
    (try simp only [ih, DL37_3_eq n hn, DL37_2_eq n hn, S25_D n hn, S75_D n hn]) <;> first | with_reducible rfl | rfl
noncomputable def D37 (n : Nat × Nat) (sheets0 : List (Int × Int)) : Option R37 :=
    (D25 n sheets0).bind fun r1' =>
    (bif (r1' != 0) then some (0, 0, r1')
    else DL37_1 n n.1 sheets0 0 0 (-1) 0)
theorem S37_D (n : Nat × Nat) (hn : n.2 = 1) : S37 n = D37 n := by
  funext sheets0; refine (S37_eq n sheets0).trans ?_
  unfold D37
  (try simp only [DL37_3_eq n hn, DL37_2_eq n hn, DL37_1_eq n hn, S25_D n hn, S75_D n hn]) <;> first | with_reducible rfl | rfl
end Go.Proofs.Ytnlbhjmbaedadaa
set_option linter.unusedVariables false
set_option linter.unusedSimpArgs false
set_option maxRecDepth 100000
namespace Go.Proofs.Ytnlbhjmbaedadaa
open Go.Vi
/-D 39 -/
noncomputable def D39 (n : Nat × Nat) (sheets0 : List (Int × Int)) : Option R39 := HF39 (D25 n) sheets0
theorem S39_D (n : Nat × Nat) (hn : n.2 = 1) : S39 n = D39 n := by unfold S39 D39; rw [S25_D n hn]
end Go.Proofs.Ytnlbhjmbaedadaa
set_option linter.unusedVariables false
set_option linter.unusedSimpArgs false
set_option maxRecDepth 100000
namespace Go.Proofs.Ytnlbhjmbaedadaa
open Go.Vi
/-D 18 -/
noncomputable def DF18_1 (n : Nat × Nat) (f1 : List Int → List Int → Int → Option R18) (a0 : List Int) (b1 : List Int) (i5 : Int) : Option R18 :=
    (bif decide (i5 < (a0.length : Int)) then (idx a0 i5).bind fun x1' =>
      (idx b1 i5).bind fun x2' =>
      (bif (x1' != x2') then some false
      else f1 a0 b1 (wr .i64 (i5 + 1)))
    else some true)
noncomputable def DL18_1 (n : Nat × Nat) (m : Nat) : List Int → List Int → Int → Option R18 := Nat.rec (motive := fun _ => List Int → List Int → Int → Option R18) (fun _ _ _ => none) (fun _ ih => DF18_1 n ih) m
theorem DL18_1_succ (n : Nat × Nat) (m : Nat) : DL18_1 n (m + 1) = DF18_1 n (DL18_1 n m) := rfl
theorem DL18_1_eq (n : Nat × Nat) (hn : n.2 = 1) : ∀ m, L18_1 n m = DL18_1 n m
  | 0 => by funext a0 b1 i5; kernel_rfl
  | m + 1 => by
    have ih := DL18_1_eq n hn m
    funext a0 b1 i5; refine (L18_1_eq n m a0 b1 i5).trans ?_
    rw [DL18_1_succ]
    unfold DF18_1
    (try simp only [ih]) <;> first | with_reducible rfl | rfl
noncomputable def D18 (n : Nat × Nat) (a0 : List Int) (b1 : List Int) : Option R18 :=
    (bif ((a0.length : Int) != (b1.length : Int)) then some false
    else DL18_1 n n.1 a0 b1 0)
theorem S18_D (n : Nat × Nat) (hn : n.2 = 1) : S18 n = D18 n := by
  funext a0 b1; refine (S18_eq n a0 b1).trans ?_
  unfold D18
  (try simp only [DL18_1_eq n hn]) <;> first | with_reducible rfl | rfl
end Go.Proofs.Ytnlbhjmbaedadaa
set_option linter.unusedVariables false
set_option linter.unusedSimpArgs false
set_option maxRecDepth 100000
namespace Go.Proofs.Ytnlbhjmbaedadaa
open Go.Vi
/-D 51 -/
noncomputable def DF51_1 (n : Nat × Nat) (f1 : (List (Int × Int)) → (List (Int × Int)) → Int → Option R51) (a0 : List (Int × Int)) (b1 : List (Int × Int)) (i5 : Int) : Option R51 :=
    (bif decide (i5 < (a0.length : Int)) then (idx a0 i5).bind fun x1' =>
      (idx b1 i5).bind fun x2' =>
      (bif (!((x1'.1 == x2'.1) && ((x1'.2 == x2'.2) && true))) then some false
      else f1 a0 b1 (wr .i64 (i5 + 1)))
    else some true)
noncomputable def DL51_1 (n : Nat × Nat) (m : Nat) : (List (Int × Int)) → (List (Int × Int)) → Int → Option R51 := Nat.rec (motive := fun _ => (List (Int × Int)) → (List (Int × Int)) → Int → Option R51) (fun _ _ _ => none) (fun _ ih => DF51_1 n ih) m
theorem DL51_1_succ (n : Nat × Nat) (m : Nat) : DL51_1 n (m + 1) = DF51_1 n (DL51_1 n m) := rfl
theorem DL51_1_eq (n : Nat × Nat) (hn : n.2 = 1) : ∀ m, L51_1 n m = DL51_1 n m
  | 0 => by funext a0 b1 i5; kernel_rfl
  | m + 1 => by
    have ih := DL51_1_eq n hn m
    funext a0 b1 i5; refine (L51_1_eq n m a0 b1 i5).trans ?_
    rw [DL51_1_succ]
    unfold DF51_1
    (try simp only [ih]) <;> first | with_reducible rfl | rfl
noncomputable def D51 (n : Nat × Nat) (a0 : List (Int × Int)) (b1 : List (Int × Int)) : Option R51 :=
    (bif ((a0.length : Int) != (b1.length : Int)) then some false
    else DL51_1 n n.1 a0 b1 0)
theorem S51_D (n : Nat × Nat) (hn : n.2 = 1) : S51 n = D51 n := by
  funext a0 b1; refine (S51_eq n a0 b1).trans ?_
  unfold D51
  (try simp only [DL51_1_eq n hn]) <;> first | with_reducible rfl | rfl
end Go.Proofs.Ytnlbhjmbaedadaa
set_option linter.unusedVariables false
set_option linter.unusedSimpArgs false
set_option maxRecDepth 100000
namespace Go.Proofs.Ytnlbhjmbaedadaa
open Go.Vi
/-D 41 -/
noncomputable def D41 (n : Nat × Nat) (sheets0 : List (Int × Int)) (order1 : List Int) (machine2 : Int) (k3 : Int) : Option R41 :=
    (D58 n sheets0 order1).bind fun r1' =>
    (bif (r1'.2 != 0) then some r1'.2
    else (D35 n sheets0 machine2 k3).bind fun r2' =>
      (bif (r2'.2 != 0) then some r2'.2
      else (D61 n r1'.1).bind fun r3' =>
        (bif (r2'.1 != r3') then some 14
        else some 0)))
theorem S41_D (n : Nat × Nat) (hn : n.2 = 1) : S41 n = D41 n := by
  funext sheets0 order1 machine2 k3; refine (S41_eq n sheets0 order1 machine2 k3).trans ?_
  unfold D41
  (try simp only [S35_D n hn, S58_D n hn, S61_D n hn]) <;> first | with_reducible rfl | rfl
end Go.Proofs.Ytnlbhjmbaedadaa
set_option linter.unusedVariables false
set_option linter.unusedSimpArgs false
set_option maxRecDepth 100000
namespace Go.Proofs.Ytnlbhjmbaedadaa
open Go.Vi
/-D 14 -/
noncomputable def D14 (n : Nat × Nat) : Option R14 :=
    (D52 n).bind fun r1' =>
    (D16 n r1' [1, 0, 2]).bind fun r2' =>
    (D52 n).bind fun r3' =>
    (D19 n r3' [0, 1, 2]).bind fun r4' =>
    (D52 n).bind fun r5' =>
    (D21 n r5' [0, 1, 2]).bind fun r6' =>
    (D52 n).bind fun r7' =>
    (D23 n r7' [1, 0, 2]).bind fun r8' =>
    (D52 n).bind fun r9' =>
    (D27 n r9').bind fun r10' =>
    (D52 n).bind fun r11' =>
    (D29 n r11').bind fun r12' =>
    (D52 n).bind fun r13' =>
    (D31 n r13').bind fun r14' =>
    ((bif ((r2'.2.2 != 0) == false) then some (r4'.2 != 0)
      else some true)).bind fun b15' =>
    ((bif (b15' == false) then some (r6'.2 != 0)
      else some true)).bind fun b16' =>
    ((bif (b16' == false) then some (r8'.2 != 0)
      else some true)).bind fun b17' =>
    ((bif (b17' == false) then some (r10'.2 != 0)
      else some true)).bind fun b18' =>
    ((bif (b18' == false) then some (r12'.2 != 0)
      else some true)).bind fun b19' =>
    ((bif (b19' == false) then some (r14'.2 != 0)
      else some true)).bind fun b20' =>
    (bif b20' then some false
    else (D52 n).bind fun r21' =>
      (D33 n r21' 1 0).bind fun r22' =>
      (D52 n).bind fun r23' =>
      (D33 n r23' 0 1).bind fun r24' =>
      (D52 n).bind fun r25' =>
      (D35 n r25' 1 2).bind fun r26' =>
      (D52 n).bind fun r27' =>
      (D37 n r27').bind fun r28' =>
      (D52 n).bind fun r29' =>
      (D39 n r29').bind fun r30' =>
      (D52 n).bind fun r31' =>
      (D19 n r31' [0, 1, 1]).bind fun r32' =>
      ((bif ((r22'.2 == 0) == true) then some (r24'.2 == 0)
        else some false)).bind fun b33' =>
      ((bif (b33' == true) then some (r26'.2 == 0)
        else some false)).bind fun b34' =>
      ((bif (b34' == true) then some (r28'.2.2 == 0)
        else some false)).bind fun b35' =>
      ((bif (b35' == true) then some (r30'.2 == 0)
        else some false)).bind fun b36' =>
      ((bif (b36' == true) then some (r32'.2 == 6)
        else some false)).bind fun b37' =>
      ((bif (b37' == true) then (D18 n r2'.1 [1, 4, 9]).bind fun r38' =>
          some r38'
        else some false)).bind fun b39' =>
      ((bif (b39' == true) then (D18 n r2'.2.1 [5, 7, 10]).bind fun r40' =>
          some r40'
        else some false)).bind fun b41' =>
      ((bif (b41' == true) then some (r4'.1 == 10)
        else some false)).bind fun b42' =>
      ((bif (b42' == true) then some (r6'.1 == 3)
        else some false)).bind fun b43' =>
      ((bif (b43' == true) then some (r8'.1 == 2)
        else some false)).bind fun b44' =>
      ((bif (b44' == true) then (D18 n r10'.1 [1, 0, 2]).bind fun r45' =>
          some r45'
        else some false)).bind fun b46' =>
      ((bif (b46' == true) then (D18 n r12'.1 [0, 1, 2]).bind fun r47' =>
          some r47'
        else some false)).bind fun b48' =>
      ((bif (b48' == true) then some (r14'.1 == 2)
        else some false)).bind fun b49' =>
      ((bif (b49' == true) then some r22'.1
        else some false)).bind fun b50' =>
      ((bif (b50' == true) then some (!r24'.1)
        else some false)).bind fun b51' =>
      ((bif (b51' == true) then some (r26'.1 == 10)
        else some false)).bind fun b52' =>
      ((bif (b52' == true) then some (r28'.1 == 1)
        else some false)).bind fun b53' =>
      ((bif (b53' == true) then some (r28'.2.1 == 2)
        else some false)).bind fun b54' =>
      ((bif (b54' == true) then (D55 n [1, 5, 4, 1, 2, 3]).bind fun r55' =>
          (D51 n r30'.1 r55').bind fun r56' =>
          some r56'
        else some false)).bind fun b57' =>
      ((bif (b57' == true) then (D52 n).bind fun r58' =>
          (D41 n r58' [0, 1, 2] 1 2).bind fun r59' =>
          some (r59' == 0)
        else some false)).bind fun b60' =>
      ((bif (b60' == true) then (D52 n).bind fun r61' =>
          (D41 n r61' [2, 1, 0] 1 2).bind fun r62' =>
          some (r62' == 14)
        else some false)).bind fun b63' =>
      some b63')
theorem S14_D (n : Nat × Nat) (hn : n.2 = 1) : S14 n = D14 n := by
  refine (S14_eq n).trans ?_
  unfold D14
  (try simp only [S16_D n hn, S18_D n hn, S19_D n hn, S21_D n hn, S23_D n hn, S27_D n hn, S29_D n hn, S31_D n hn, S33_D n hn, S35_D n hn, S37_D n hn, S39_D n hn, S41_D n hn, S51_D n hn, S52_D n hn, S55_D n hn]) <;> first | with_reducible rfl | rfl
end Go.Proofs.Ytnlbhjmbaedadaa
set_option linter.unusedVariables false
set_option linter.unusedSimpArgs false
set_option maxRecDepth 100000
namespace Go.Proofs.Ytnlbhjmbaedadaa
open Go.Vi
/- headword/headwordlaw07.B -/
abbrev R54 := List (Int × Int)
noncomputable def c54 : Code := bodyOf Try.f54
noncomputable def an54 : Ann := .l
def pk54 : List PK := []
def rk54 : List RK := [.own (.pair (.int .i64) (.int .i64)) 0]
noncomputable def rt54 (st : St) : Option R54 := rtG rk54 st
noncomputable def E54 (n : Nat × Nat) : Env := { T := tab, phi := (consPhi 55 (fun _ => true) (P55 n) noPhi), eff := fun _ => false, fuel := n.1, hold := n.2 }
noncomputable def S54 (n : Nat × Nat) : Option R54 := run (E54 n) c54 an54 rt54 (fun _ _ => none) rt54 { tm := [uu, uu, uu], hp := emp }
theorem S54_eq (n : Nat × Nat) : S54 n =
    (S55 n [2, 2, 2, 2]).bind fun r1' =>
    some r1' := by kernel_rfl
theorem S54_run (n : Nat × Nat) (xs : pksDen pk54) : S54 n = runG (E54 n) noScope c54 an54 (rtG rk54) (fun _ _ => none) (rtG rk54) (st0 pk54 xs Try.f54.ntmps) := by kernel_rfl
noncomputable def P54 (n : Nat × Nat) := phiOf pk54 rk54 (fun xs => S54 n)
theorem call54 : CallOK Try.prog 54 := callOK_of Try.func54 (by kernel_rfl) (by kernel_rfl)
theorem env54 (n : Nat × Nat) : EnvOK Try.prog (E54 n) := envOK0 (consPhi_ok (FC55 n) call55 noPhi_ok) rfl rfl
theorem par54 (n : Nat × Nat) : EnvPar (E54 n) := envPar0 (consPhi_par phiOf_Par1 noPhi_par) rfl
theorem FC54 (n : Nat × Nat) : FCs Try.prog 54 (P54 n) := phiOf_FCs fun xs r h vs hv => FC.of_runG tabOK eqsOK (env54 n) (par54 n) mixed (fun _ => noScope_ok) Try.func54 (c := c54) (an := an54) (pks := pk54) (rks := rk54) (by kernel_rfl) (by kernel_rfl) hv ((S54_run n xs).symm.trans h)
end Go.Proofs.Ytnlbhjmbaedadaa
set_option linter.unusedVariables false
set_option linter.unusedSimpArgs false
set_option maxRecDepth 100000
namespace Go.Proofs.Ytnlbhjmbaedadaa
open Go.Vi
/- headword/headwordlaw07.PressKnown -/
abbrev R11 := Bool
noncomputable def c11 : Code := bodyOf Try.f11
noncomputable def an11 : Ann := (.s .l (.s .l (.s .l (.s .l (.s .l (.s .l (.s .l (.s .l (.s (.s .l (.j [163, 164, 167, 168, 171, 172, 175, 176, 179, 180, 183, 184, 187, 188, 191, 192, 195, 196, 199, 200, 201, 202, 203, 206, 207, 208, 209, 210, 213, 214, 217, 218, 219, 222, 223, 224, 225, 228] .l .l)) .l)))))))))
def pk11 : List PK := []
def rk11 : List RK := [.c .bool 0]
noncomputable def rt11 (st : St) : Option R11 := rtG rk11 st
noncomputable def E11 (n : Nat × Nat) : Env := { T := tab, phi := (consPhi 14 (fun _ => true) (P14 n) (consPhi 16 (fun _ => true) (P16 n) (consPhi 18 (fun _ => true) (P18 n) (consPhi 19 (fun _ => true) (P19 n) (consPhi 23 (fun _ => true) (P23 n) (consPhi 25 (fun _ => true) (P25 n) (consPhi 29 (fun _ => true) (P29 n) (consPhi 31 (fun _ => true) (P31 n) (consPhi 33 (fun _ => true) (P33 n) (consPhi 35 (fun _ => true) (P35 n) (consPhi 37 (fun _ => true) (P37 n) (consPhi 41 (fun _ => true) (P41 n) (consPhi 52 (fun _ => true) (P52 n) (consPhi 54 (fun _ => true) (P54 n) (consPhi 55 (fun _ => true) (P55 n) noPhi))))))))))))))), eff := fun g => Nat.beq g 29, fuel := n.1, hold := n.2 }
noncomputable def kq11_1 (n : Nat × Nat) : St → Option R11 := run (E11 n) (cB (cB (cB (cB (cB (cB (cB (cB (cB c11))))))))) (Ann.snd (Ann.snd (Ann.snd (Ann.snd (Ann.snd (Ann.snd (Ann.snd (Ann.snd (Ann.snd an11))))))))) rt11 (fun _ _ => none) rt11
noncomputable def kc11_2 (n : Nat × Nat) : St → Option R11 := fun s => normC [163, 164, 167, 168, 171, 172, 175, 176, 179, 180, 183, 184, 187, 188, 191, 192, 195, 196, 199, 200, 201, 202, 203, 206, 207, 208, 209, 210, 213, 214, 217, 218, 219, 222, 223, 224, 225, 228] s (kq11_1 n)
noncomputable def S11 (n : Nat × Nat) : Option R11 := run (E11 n) c11 an11 rt11 (fun _ _ => none) rt11 { tm := [uu, uu, uu, uu, uu, uu, uu, uu, uu, uu, uu, uu, uu, uu, uu, uu, uu, uu, uu, uu, uu, uu, uu, uu, uu, uu, uu, uu, uu, uu, uu, uu, uu, uu, uu, uu, uu, uu, uu, uu, uu, uu, uu, uu, uu, uu, uu, uu, uu, uu, uu, uu, uu, uu, uu, uu, uu, uu, uu, uu, uu, uu, uu, uu, uu, uu, uu, uu, uu, uu, uu, uu, uu, uu, uu, uu, uu, uu, uu, uu, uu, uu, uu, uu, uu, uu, uu, uu, uu, uu, uu, uu, uu, uu, uu, uu, uu, uu, uu, uu, uu, uu, uu, uu, uu, uu, uu, uu, uu, uu, uu, uu, uu, uu, uu, uu, uu, uu, uu, uu, uu, uu, uu, uu, uu, uu, uu, uu, uu, uu, uu, uu, uu, uu, uu, uu, uu, uu, uu, uu, uu, uu, uu, uu, uu, uu, uu, uu, uu, uu, uu, uu, uu, uu, uu, uu, uu, uu, uu, uu, uu, uu, uu, uu, uu, uu, uu, uu, uu, uu, uu, uu, uu, uu, uu, uu, uu, uu, uu, uu, uu, uu, uu, uu, uu, uu, uu, uu, uu, uu, uu, uu, uu, uu, uu, uu, uu, uu, uu, uu, uu, uu, uu, uu, uu, uu, uu, uu, uu, uu, uu, uu, uu, uu, uu, uu, uu, uu, uu, uu, uu, uu, uu, uu, uu, uu, uu, uu, uu, uu], hp := emp }
theorem S11_eq (n : Nat × Nat) : S11 n =
    (S52 n).bind fun r1' =>
    (S16 n r1' [0, 1, 2]).bind fun r2' =>
    (S52 n).bind fun r3' =>
    (S19 n r3' [1, 0, 2]).bind fun r4' =>
    (S52 n).bind fun r5' =>
    (S23 n r5' [0, 1, 2]).bind fun r6' =>
    (S54 n).bind fun r7' =>
    (S29 n r7').bind fun r8' =>
    (S54 n).bind fun r9' =>
    (S31 n r9').bind fun r10' =>
    (S52 n).bind fun r11' =>
    (S33 n r11' 0 2).bind fun r12' =>
    (S52 n).bind fun r13' =>
    (S33 n r13' 0 3).bind fun r14' =>
    ((bif ((r2'.2.2 != 0) == false) then some (r4'.2 != 0)
      else some true)).bind fun b15' =>
    ((bif (b15' == false) then some (r6'.2 != 0)
      else some true)).bind fun b16' =>
    ((bif (b16' == false) then some (r8'.2 != 0)
      else some true)).bind fun b17' =>
    ((bif (b17' == false) then some (r10'.2 != 0)
      else some true)).bind fun b18' =>
    ((bif (b18' == false) then some (r12'.2 != 0)
      else some true)).bind fun b19' =>
    ((bif (b19' == false) then some (r14'.2 != 2)
      else some true)).bind fun b20' =>
    ((bif (b20' == false) then (S18 n r2'.1 [3, 4, 9]).bind fun r21' =>
        some (!r21')
      else some true)).bind fun b22' =>
    ((bif (b22' == false) then (S18 n r2'.2.1 [5, 9, 10]).bind fun r23' =>
        some (!r23')
      else some true)).bind fun b24' =>
    ((bif (b24' == false) then some (r4'.1 != 10)
      else some true)).bind fun b25' =>
    ((bif (b25' == false) then some (r6'.1 != 0)
      else some true)).bind fun b26' =>
    ((bif (b26' == false) then (S18 n r8'.1 [0, 1]).bind fun r27' =>
        some (!r27')
      else some true)).bind fun b28' =>
    ((bif (b28' == false) then some (r10'.1 != 2)
      else some true)).bind fun b29' =>
    ((bif (b29' == false) then some (!r12'.1)
      else some true)).bind fun b30' =>
    (bif b30' then some false
    else (S52 n).bind fun r31' =>
      (S35 n r31' 0 0).bind fun r32' =>
      (S52 n).bind fun r33' =>
      (S35 n r33' 0 2).bind fun r34' =>
      (S52 n).bind fun r35' =>
      (S35 n r35' 2 0).bind fun r36' =>
      (S54 n).bind fun r37' =>
      (S37 n r37').bind fun r38' =>
      (S52 n).bind fun r39' =>
      (S19 n r39' [0, 1]).bind fun r40' =>
      (S52 n).bind fun r41' =>
      (S19 n r41' [0, 1, 3]).bind fun r42' =>
      ((bif ((r32'.2 == 0) == true) then some (r34'.2 == 0)
        else some false)).bind fun b43' =>
      ((bif (b43' == true) then some (r36'.2 == 2)
        else some false)).bind fun b44' =>
      ((bif (b44' == true) then some (r38'.2.2 == 0)
        else some false)).bind fun b45' =>
      ((bif (b45' == true) then some (r40'.2 == 5)
        else some false)).bind fun b46' =>
      ((bif (b46' == true) then some (r42'.2 == 2)
        else some false)).bind fun b47' =>
      ((bif (b47' == true) then some (r32'.1 == 7)
        else some false)).bind fun b48' =>
      ((bif (b48' == true) then some (r34'.1 == 9)
        else some false)).bind fun b49' =>
      ((bif (b49' == true) then some (r38'.1 == 0)
        else some false)).bind fun b50' =>
      ((bif (b50' == true) then some (r38'.2.1 == 0)
        else some false)).bind fun b51' =>
      ((bif (b51' == true) then (S52 n).bind fun r52' =>
          (S41 n r52' [0, 1, 2] 0 0).bind fun r53' =>
          some (r53' == 14)
        else some false)).bind fun b54' =>
      ((bif (b54' == true) then (S52 n).bind fun r55' =>
          (S41 n r55' [0, 1, 2] 0 3).bind fun r56' =>
          some (r56' == 2)
        else some false)).bind fun b57' =>
      ((bif (b57' == true) then (S25 n []).bind fun r58' =>
          some (r58' == 4)
        else some false)).bind fun b59' =>
      ((bif (b59' == true) then (bif decide (0 ≤ 8) && decide (8 ≤ 8) && decide (8 ≤ lim) then (S25 n (List.replicate (Int.toNat 8) (zero (.pair (.int .i64) (.int .i64)) : Int × Int))).bind fun r60' =>
            some (r60' == 3)
          else none)
        else some false)).bind fun b61' =>
      ((bif (b61' == true) then (S55 n [51, 0]).bind fun r62' =>
          (S25 n r62').bind fun r63' =>
          some (r63' == 1)
        else some false)).bind fun b64' =>
      ((bif (b64' == true) then (S14 n).bind fun r65' =>
          some r65'
        else some false)).bind fun b66' =>
      some b66') := by kernel_rfl
theorem S11_run (n : Nat × Nat) (xs : pksDen pk11) : S11 n = runG (E11 n) noScope c11 an11 (rtG rk11) (fun _ _ => none) (rtG rk11) (st0 pk11 xs Try.f11.ntmps) := by kernel_rfl
noncomputable def P11 (n : Nat × Nat) := phiOf pk11 rk11 (fun xs => S11 n)
theorem call11 : CallOK Try.prog 11 := callOK_of Try.func11 (by kernel_rfl) (by kernel_rfl)
theorem env11 (n : Nat × Nat) : EnvOK Try.prog (E11 n) := envOK0 (consPhi_ok (FC14 n) call14 (consPhi_ok (FC16 n) call16 (consPhi_ok (FC18 n) call18 (consPhi_ok (FC19 n) call19 (consPhi_ok (FC23 n) call23 (consPhi_ok (FC25 n) call25 (consPhi_ok (FC29 n) call29 (consPhi_ok (FC31 n) call31 (consPhi_ok (FC33 n) call33 (consPhi_ok (FC35 n) call35 (consPhi_ok (FC37 n) call37 (consPhi_ok (FC41 n) call41 (consPhi_ok (FC52 n) call52 (consPhi_ok (FC54 n) call54 (consPhi_ok (FC55 n) call55 noPhi_ok))))))))))))))) rfl rfl
theorem par11 (n : Nat × Nat) : EnvPar (E11 n) := envPar0 (consPhi_par phiOf_Par1 (consPhi_par phiOf_Par1 (consPhi_par phiOf_Par1 (consPhi_par phiOf_Par1 (consPhi_par phiOf_Par1 (consPhi_par phiOf_Par1 (consPhi_par phiOf_Par1 (consPhi_par phiOf_Par1 (consPhi_par phiOf_Par1 (consPhi_par phiOf_Par1 (consPhi_par phiOf_Par1 (consPhi_par phiOf_Par1 (consPhi_par phiOf_Par1 (consPhi_par phiOf_Par1 (consPhi_par phiOf_Par1 noPhi_par))))))))))))))) rfl
theorem FC11 (n : Nat × Nat) : FCs Try.prog 11 (P11 n) := phiOf_FCs fun xs r h vs hv => FC.of_runG tabOK eqsOK (env11 n) (par11 n) mixed (fun _ => noScope_ok) Try.func11 (c := c11) (an := an11) (pks := pk11) (rks := rk11) (by kernel_rfl) (by kernel_rfl) hv ((S11_run n xs).symm.trans h)
end Go.Proofs.Ytnlbhjmbaedadaa
set_option linter.unusedVariables false
set_option linter.unusedSimpArgs false
set_option maxRecDepth 100000
namespace Go.Proofs.Ytnlbhjmbaedadaa
open Go.Vi
/-D 54 -/
noncomputable def D54 (n : Nat × Nat) : Option R54 :=
    (D55 n [2, 2, 2, 2]).bind fun r1' =>
    some r1'
theorem S54_D (n : Nat × Nat) (hn : n.2 = 1) : S54 n = D54 n := by
  refine (S54_eq n).trans ?_
  unfold D54
  (try simp only [S55_D n hn]) <;> first | with_reducible rfl | rfl
end Go.Proofs.Ytnlbhjmbaedadaa
set_option linter.unusedVariables false
set_option linter.unusedSimpArgs false
set_option maxRecDepth 100000
namespace Go.Proofs.Ytnlbhjmbaedadaa
open Go.Vi
/-D 11 -/
noncomputable def D11 (n : Nat × Nat) : Option R11 :=
    (D52 n).bind fun r1' =>
    (D16 n r1' [0, 1, 2]).bind fun r2' =>
    (D52 n).bind fun r3' =>
    (D19 n r3' [1, 0, 2]).bind fun r4' =>
    (D52 n).bind fun r5' =>
    (D23 n r5' [0, 1, 2]).bind fun r6' =>
    (D54 n).bind fun r7' =>
    (D29 n r7').bind fun r8' =>
    (D54 n).bind fun r9' =>
    (D31 n r9').bind fun r10' =>
    (D52 n).bind fun r11' =>
    (D33 n r11' 0 2).bind fun r12' =>
    (D52 n).bind fun r13' =>
    (D33 n r13' 0 3).bind fun r14' =>
    ((bif ((r2'.2.2 != 0) == false) then some (r4'.2 != 0)
      else some true)).bind fun b15' =>
    ((bif (b15' == false) then some (r6'.2 != 0)
      else some true)).bind fun b16' =>
    ((bif (b16' == false) then some (r8'.2 != 0)
      else some true)).bind fun b17' =>
    ((bif (b17' == false) then some (r10'.2 != 0)
      else some true)).bind fun b18' =>
    ((bif (b18' == false) then some (r12'.2 != 0)
      else some true)).bind fun b19' =>
    ((bif (b19' == false) then some (r14'.2 != 2)
      else some true)).bind fun b20' =>
    ((bif (b20' == false) then (D18 n r2'.1 [3, 4, 9]).bind fun r21' =>
        some (!r21')
      else some true)).bind fun b22' =>
    ((bif (b22' == false) then (D18 n r2'.2.1 [5, 9, 10]).bind fun r23' =>
        some (!r23')
      else some true)).bind fun b24' =>
    ((bif (b24' == false) then some (r4'.1 != 10)
      else some true)).bind fun b25' =>
    ((bif (b25' == false) then some (r6'.1 != 0)
      else some true)).bind fun b26' =>
    ((bif (b26' == false) then (D18 n r8'.1 [0, 1]).bind fun r27' =>
        some (!r27')
      else some true)).bind fun b28' =>
    ((bif (b28' == false) then some (r10'.1 != 2)
      else some true)).bind fun b29' =>
    ((bif (b29' == false) then some (!r12'.1)
      else some true)).bind fun b30' =>
    (bif b30' then some false
    else (D52 n).bind fun r31' =>
      (D35 n r31' 0 0).bind fun r32' =>
      (D52 n).bind fun r33' =>
      (D35 n r33' 0 2).bind fun r34' =>
      (D52 n).bind fun r35' =>
      (D35 n r35' 2 0).bind fun r36' =>
      (D54 n).bind fun r37' =>
      (D37 n r37').bind fun r38' =>
      (D52 n).bind fun r39' =>
      (D19 n r39' [0, 1]).bind fun r40' =>
      (D52 n).bind fun r41' =>
      (D19 n r41' [0, 1, 3]).bind fun r42' =>
      ((bif ((r32'.2 == 0) == true) then some (r34'.2 == 0)
        else some false)).bind fun b43' =>
      ((bif (b43' == true) then some (r36'.2 == 2)
        else some false)).bind fun b44' =>
      ((bif (b44' == true) then some (r38'.2.2 == 0)
        else some false)).bind fun b45' =>
      ((bif (b45' == true) then some (r40'.2 == 5)
        else some false)).bind fun b46' =>
      ((bif (b46' == true) then some (r42'.2 == 2)
        else some false)).bind fun b47' =>
      ((bif (b47' == true) then some (r32'.1 == 7)
        else some false)).bind fun b48' =>
      ((bif (b48' == true) then some (r34'.1 == 9)
        else some false)).bind fun b49' =>
      ((bif (b49' == true) then some (r38'.1 == 0)
        else some false)).bind fun b50' =>
      ((bif (b50' == true) then some (r38'.2.1 == 0)
        else some false)).bind fun b51' =>
      ((bif (b51' == true) then (D52 n).bind fun r52' =>
          (D41 n r52' [0, 1, 2] 0 0).bind fun r53' =>
          some (r53' == 14)
        else some false)).bind fun b54' =>
      ((bif (b54' == true) then (D52 n).bind fun r55' =>
          (D41 n r55' [0, 1, 2] 0 3).bind fun r56' =>
          some (r56' == 2)
        else some false)).bind fun b57' =>
      ((bif (b57' == true) then (D25 n []).bind fun r58' =>
          some (r58' == 4)
        else some false)).bind fun b59' =>
      ((bif (b59' == true) then (bif decide (0 ≤ 8) && decide (8 ≤ 8) && decide (8 ≤ lim) then (D25 n (List.replicate (Int.toNat 8) (zero (.pair (.int .i64) (.int .i64)) : Int × Int))).bind fun r60' =>
            some (r60' == 3)
          else none)
        else some false)).bind fun b61' =>
      ((bif (b61' == true) then (D55 n [51, 0]).bind fun r62' =>
          (D25 n r62').bind fun r63' =>
          some (r63' == 1)
        else some false)).bind fun b64' =>
      ((bif (b64' == true) then (D14 n).bind fun r65' =>
          some r65'
        else some false)).bind fun b66' =>
      some b66')
theorem S11_D (n : Nat × Nat) (hn : n.2 = 1) : S11 n = D11 n := by
  refine (S11_eq n).trans ?_
  unfold D11
  (try simp only [S14_D n hn, S16_D n hn, S18_D n hn, S19_D n hn, S23_D n hn, S25_D n hn, S29_D n hn, S31_D n hn, S33_D n hn, S35_D n hn, S37_D n hn, S41_D n hn, S52_D n hn, S54_D n hn, S55_D n hn]) <;> first | with_reducible rfl | rfl
end Go.Proofs.Ytnlbhjmbaedadaa
/-
  The examples of the chapter.
-/
set_option linter.unusedVariables false
set_option maxRecDepth 100000
namespace Go.Proofs.Ytnlbhjmbaedadaa
open Go.Vi

abbrev N : Nat × Nat := (10000, 1)
theorem works_eq : D14 N = some true := by kernel_rfl
theorem known_eq : D11 N = some true := by kernel_rfl
end Go.Proofs.Ytnlbhjmbaedadaa
