/- Texts of this claim, joined: D37 to D38. -/
import Derived.KernelRfl
import Derived.Test.YtjgmfdgpgdaclaaProg
import Derived.WalkKit
import Derived.Test.YtjgmfdgpgdaclaaP5
set_option linter.unusedVariables false
set_option linter.unusedSimpArgs false
set_option maxRecDepth 100000
namespace Go.Proofs.Ytjgmfdgpgdaclaa
open Go.Vi
/-D 37 -/
noncomputable def D37 (n : Nat × Nat) (coins0 : List Int) (sum1 : Int) : Option R37 := HF37 (D56 n) coins0 sum1
theorem S37_D (n : Nat × Nat) (hn : n.2 = 1) : S37 n = D37 n := by unfold S37 D37; rw [S56_D n hn]
end Go.Proofs.Ytjgmfdgpgdaclaa
set_option linter.unusedVariables false
set_option linter.unusedSimpArgs false
set_option maxRecDepth 100000
namespace Go.Proofs.Ytjgmfdgpgdaclaa
open Go.Vi
/-D 35 -/
noncomputable def D35 (n : Nat × Nat) (coins0 : List Int) (many1 : Int) : Option R35 := HF35 (D25 n) coins0 many1
theorem S35_D (n : Nat × Nat) (hn : n.2 = 1) : S35 n = D35 n := by unfold S35 D35; rw [S25_D n hn]
end Go.Proofs.Ytjgmfdgpgdaclaa
set_option linter.unusedVariables false
set_option linter.unusedSimpArgs false
set_option maxRecDepth 100000
namespace Go.Proofs.Ytjgmfdgpgdaclaa
open Go.Vi
/-D 39 -/
noncomputable def DL39_2 (n : Nat × Nat) (f1 : Int → Int → Int → Nat → Nat → Int → Int → List Int → Option R39) (sum1 : Int) (pay4 : Int) (back5 : Int) (v38o : Nat) (v38w : Nat) (v39 : Int) (v40 : Int) (l9 : List Int) : Option R39 :=
    f1 sum1 pay4 back5 v38o v38w v39 (wr .i64 (v40 + 1)) l9
theorem DL39_2_eq (n : Nat × Nat) (hn : n.2 = 1) (m1 : Nat) : L39_2 n m1 = DL39_2 n (L39_1 n m1) := by
  funext sum1 pay4 back5 v38o v38w v39 v40 l9; refine ((held_eq hn _).trans (L39_2_raw n m1 sum1 pay4 back5 v38o v38w v39 v40 l9)).trans ?_
  unfold DL39_2
  (try simp only [S56_D n hn, S57_D n hn]) <;> first | with_reducible rfl | rfl
noncomputable def DF39_1 (n : Nat × Nat) (f1 : Int → Int → Int → Nat → Nat → Int → Int → List Int → Option R39) (sum1 : Int) (pay4 : Int) (back5 : Int) (v38o : Nat) (v38w : Nat) (v39 : Int) (v40 : Int) (l9 : List Int) : Option R39 :=
    (bif decide (v40 < v39) then (bif inB v40 ((l9.drop v38o).take v38w).length then (idx ((l9.drop v38o).take v38w) v40).bind fun x5' =>
        (bif inB (wr .i64 (sum1 + v40)) l9.length then (idx l9 (wr .i64 (sum1 + v40))).bind fun x6' =>
          ((bif (decide (wr .i64 ((wr .i64 ((wr .i64 (x6' + x5')) - pay4)) - back5) < 0) == false) then ((bif (((wr .i64 ((wr .i64 ((wr .i64 (x6' + x5')) - pay4)) - back5)) == 0) == true) then some (decide (x5' < back5))
                else some false)).bind fun b7' =>
              some b7'
            else some true)).bind fun b8' =>
          (bif b8' then DL39_2 n f1 sum1 x6' x5' v38o v38w v39 v40 l9
          else DL39_2 n f1 sum1 pay4 back5 v38o v38w v39 v40 l9)
        else none)
      else none)
    else some (pay4, back5, 0))
noncomputable def DL39_1 (n : Nat × Nat) (m : Nat) : Int → Int → Int → Nat → Nat → Int → Int → List Int → Option R39 := Nat.rec (motive := fun _ => Int → Int → Int → Nat → Nat → Int → Int → List Int → Option R39) (fun _ _ _ _ _ _ _ _ => none) (fun _ ih => DF39_1 n ih) m
theorem DL39_1_succ (n : Nat × Nat) (m : Nat) : DL39_1 n (m + 1) = DF39_1 n (DL39_1 n m) := rfl
theorem DL39_1_eq (n : Nat × Nat) (hn : n.2 = 1) : ∀ m, L39_1 n m = DL39_1 n m
  | 0 => by funext sum1 pay4 back5 v38o v38w v39 v40 l9; kernel_rfl
  | m + 1 => by
    have ih := DL39_1_eq n hn m
    funext sum1 pay4 back5 v38o v38w v39 v40 l9; refine (L39_1_eq n m sum1 pay4 back5 v38o v38w v39 v40 l9).trans ?_
    rw [DL39_1_succ]
    unfold DF39_1
    (try simp only [ih, DL39_2_eq n hn, S56_D n hn, S57_D n hn]) <;> first | with_reducible rfl | rfl
noncomputable def D39 (n : Nat × Nat) (coins0 : List Int) (sum1 : Int) : Option R39 :=
    (D56 n coins0 sum1).bind fun r1' =>
    (bif (r1' != 0) then some (0, 0, r1')
    else (idx coins0 (wr .i64 ((coins0.length : Int) - 1))).bind fun x2' =>
      (D57 n coins0 (wr .i64 (sum1 + x2'))).bind fun r3' =>
      (bif inB sum1 r3'.length then (idx r3' sum1).bind fun x4' =>
        (bif bounds none (some (wr .i64 (x2' + 1))) none r3'.length then DL39_1 n n.1 sum1 x4' 0 (0 + 0) ((Int.toNat (wr .i64 (x2' + 1))) - 0) (((r3'.drop (0 + 0)).take ((Int.toNat (wr .i64 (x2' + 1))) - 0)).length : Int) 0 r3'
        else none)
      else none))
theorem S39_D (n : Nat × Nat) (hn : n.2 = 1) : S39 n = D39 n := by
  funext coins0 sum1; refine (S39_eq n coins0 sum1).trans ?_
  unfold D39
  (try simp only [DL39_2_eq n hn, DL39_1_eq n hn, S56_D n hn, S57_D n hn]) <;> first | with_reducible rfl | rfl
end Go.Proofs.Ytjgmfdgpgdaclaa
set_option linter.unusedVariables false
set_option linter.unusedSimpArgs false
set_option maxRecDepth 100000
namespace Go.Proofs.Ytjgmfdgpgdaclaa
open Go.Vi
/-D 75 -/
noncomputable def DF75_1 (n : Nat × Nat) (f1 : List Int → Int → Int → Option R75) (x0 : List Int) (m3 : Int) (i4 : Int) : Option R75 :=
    (bif decide (i4 < (x0.length : Int)) then (idx x0 i4).bind fun x2' =>
      f1 x0 (if x2' < m3 then x2' else m3) (wr .i64 (i4 + 1))
    else some m3)
noncomputable def DL75_1 (n : Nat × Nat) (m : Nat) : List Int → Int → Int → Option R75 := Nat.rec (motive := fun _ => List Int → Int → Int → Option R75) (fun _ _ _ => none) (fun _ ih => DF75_1 n ih) m
theorem DL75_1_succ (n : Nat × Nat) (m : Nat) : DL75_1 n (m + 1) = DF75_1 n (DL75_1 n m) := rfl
theorem DL75_1_eq (n : Nat × Nat) (hn : n.2 = 1) : ∀ m, L75_1 n m = DL75_1 n m
  | 0 => by funext x0 m3 i4; kernel_rfl
  | m + 1 => by
    have ih := DL75_1_eq n hn m
    funext x0 m3 i4; refine (L75_1_eq n m x0 m3 i4).trans ?_
    rw [DL75_1_succ]
    unfold DF75_1
    (try simp only [ih]) <;> first | with_reducible rfl | rfl
noncomputable def D75 (n : Nat × Nat) (x0 : List Int) : Option R75 :=
    (bif decide ((x0.length : Int) < 1) then none
    else (idx x0 0).bind fun x1' =>
      DL75_1 n n.1 x0 x1' 1)
theorem S75_D (n : Nat × Nat) (hn : n.2 = 1) : S75 n = D75 n := by
  funext x0; refine (S75_eq n x0).trans ?_
  unfold D75
  (try simp only [DL75_1_eq n hn]) <;> first | with_reducible rfl | rfl
end Go.Proofs.Ytjgmfdgpgdaclaa
set_option linter.unusedVariables false
set_option linter.unusedSimpArgs false
set_option maxRecDepth 100000
namespace Go.Proofs.Ytjgmfdgpgdaclaa
open Go.Vi
/-D 76 -/
noncomputable def DF76_1 (n : Nat × Nat) (f1 : List Int → Int → Int → Option R76) (x0 : List Int) (m3 : Int) (i4 : Int) : Option R76 :=
    (bif decide (i4 < (x0.length : Int)) then (idx x0 i4).bind fun x2' =>
      f1 x0 (if x2' > m3 then x2' else m3) (wr .i64 (i4 + 1))
    else some m3)
noncomputable def DL76_1 (n : Nat × Nat) (m : Nat) : List Int → Int → Int → Option R76 := Nat.rec (motive := fun _ => List Int → Int → Int → Option R76) (fun _ _ _ => none) (fun _ ih => DF76_1 n ih) m
theorem DL76_1_succ (n : Nat × Nat) (m : Nat) : DL76_1 n (m + 1) = DF76_1 n (DL76_1 n m) := rfl
theorem DL76_1_eq (n : Nat × Nat) (hn : n.2 = 1) : ∀ m, L76_1 n m = DL76_1 n m
  | 0 => by funext x0 m3 i4; kernel_rfl
  | m + 1 => by
    have ih := DL76_1_eq n hn m
    funext x0 m3 i4; refine (L76_1_eq n m x0 m3 i4).trans ?_
    rw [DL76_1_succ]
    unfold DF76_1
    (try simp only [ih]) <;> first | with_reducible rfl | rfl
noncomputable def D76 (n : Nat × Nat) (x0 : List Int) : Option R76 :=
    (bif decide ((x0.length : Int) < 1) then none
    else (idx x0 0).bind fun x1' =>
      DL76_1 n n.1 x0 x1' 1)
theorem S76_D (n : Nat × Nat) (hn : n.2 = 1) : S76 n = D76 n := by
  funext x0; refine (S76_eq n x0).trans ?_
  unfold D76
  (try simp only [DL76_1_eq n hn]) <;> first | with_reducible rfl | rfl
end Go.Proofs.Ytjgmfdgpgdaclaa
set_option linter.unusedVariables false
set_option linter.unusedSimpArgs false
set_option maxRecDepth 100000
namespace Go.Proofs.Ytjgmfdgpgdaclaa
open Go.Vi
/-D 68 -/
noncomputable def D68 (n : Nat × Nat) (coins0 : List Int) (l1 : List Int) : Option R68 :=
    (bif ((l1.length : Int) != (coins0.length : Int)) then some 5
    else (D75 n l1).bind fun r1' =>
      ((bif (decide (r1' < 0) == false) then (D76 n l1).bind fun r2' =>
          some (decide (r2' > 200))
        else some true)).bind fun b3' =>
      (bif b3' then some 1
      else some 0))
theorem S68_D (n : Nat × Nat) (hn : n.2 = 1) : S68 n = D68 n := by
  funext coins0 l1; refine (S68_eq n coins0 l1).trans ?_
  unfold D68
  (try simp only [S75_D n hn, S76_D n hn]) <;> first | with_reducible rfl | rfl
end Go.Proofs.Ytjgmfdgpgdaclaa
set_option linter.unusedVariables false
set_option linter.unusedSimpArgs false
set_option maxRecDepth 100000
namespace Go.Proofs.Ytjgmfdgpgdaclaa
open Go.Vi
/-D 79 -/
noncomputable def D79 (n : Nat × Nat) (x0 : Int) (y1 : Int) : Option R79 :=
    (bif decide (32 < 0) then none
    else some (wr .u32 (Int.fdiv (wr .u64 ((wr .u64 x0) * (wr .u64 y1))) (2 ^ (min (Int.toNat 32) (IntKind.bits .u64)))), wr .u32 (wr .u64 ((wr .u64 x0) * (wr .u64 y1)))))
theorem S79_D (n : Nat × Nat) (hn : n.2 = 1) : S79 n = D79 n := by
  funext x0 y1; refine (S79_eq n x0 y1).trans ?_
  unfold D79
  first | with_reducible rfl | rfl
end Go.Proofs.Ytjgmfdgpgdaclaa
set_option linter.unusedVariables false
set_option linter.unusedSimpArgs false
set_option maxRecDepth 100000
namespace Go.Proofs.Ytjgmfdgpgdaclaa
open Go.Vi
/-D 80 -/
noncomputable def D80 (n : Nat × Nat) (x0 : Int) (y1 : Int) : Option R80 :=
    (bif decide (32 < 0) then none
    else (bif decide (32 < 0) then none
      else (bif decide (32 < 0) then none
        else (bif decide (32 < 0) then none
          else (bif decide (32 < 0) then none
            else some (wr .u64 ((wr .u64 ((wr .u64 ((Int.fdiv x0 (2 ^ (min (Int.toNat 32) (IntKind.bits .u64)))) * (Int.fdiv y1 (2 ^ (min (Int.toNat 32) (IntKind.bits .u64)))))) + (Int.fdiv (wr .u64 ((wr .u64 ((Int.fdiv x0 (2 ^ (min (Int.toNat 32) (IntKind.bits .u64)))) * (wr .u64 (BitVec.ofInt (IntKind.bits .u64) y1 &&& BitVec.ofInt (IntKind.bits .u64) 4294967295).toNat))) + (Int.fdiv (wr .u64 ((wr .u64 (BitVec.ofInt (IntKind.bits .u64) x0 &&& BitVec.ofInt (IntKind.bits .u64) 4294967295).toNat) * (wr .u64 (BitVec.ofInt (IntKind.bits .u64) y1 &&& BitVec.ofInt (IntKind.bits .u64) 4294967295).toNat))) (2 ^ (min (Int.toNat 32) (IntKind.bits .u64)))))) (2 ^ (min (Int.toNat 32) (IntKind.bits .u64)))))) + (Int.fdiv (wr .u64 ((wr .u64 (BitVec.ofInt (IntKind.bits .u64) (wr .u64 ((wr .u64 ((Int.fdiv x0 (2 ^ (min (Int.toNat 32) (IntKind.bits .u64)))) * (wr .u64 (BitVec.ofInt (IntKind.bits .u64) y1 &&& BitVec.ofInt (IntKind.bits .u64) 4294967295).toNat))) + (Int.fdiv (wr .u64 ((wr .u64 (BitVec.ofInt (IntKind.bits .u64) x0 &&& BitVec.ofInt (IntKind.bits .u64) 4294967295).toNat) * (wr .u64 (BitVec.ofInt (IntKind.bits .u64) y1 &&& BitVec.ofInt (IntKind.bits .u64) 4294967295).toNat))) (2 ^ (min (Int.toNat 32) (IntKind.bits .u64)))))) &&& BitVec.ofInt (IntKind.bits .u64) 4294967295).toNat) + (wr .u64 ((wr .u64 (BitVec.ofInt (IntKind.bits .u64) x0 &&& BitVec.ofInt (IntKind.bits .u64) 4294967295).toNat) * (Int.fdiv y1 (2 ^ (min (Int.toNat 32) (IntKind.bits .u64)))))))) (2 ^ (min (Int.toNat 32) (IntKind.bits .u64))))), wr .u64 (x0 * y1)))))))
theorem S80_D (n : Nat × Nat) (hn : n.2 = 1) : S80 n = D80 n := by
  funext x0 y1; refine (S80_eq n x0 y1).trans ?_
  unfold D80
  first | with_reducible rfl | rfl
end Go.Proofs.Ytjgmfdgpgdaclaa
set_option linter.unusedVariables false
set_option linter.unusedSimpArgs false
set_option maxRecDepth 100000
namespace Go.Proofs.Ytjgmfdgpgdaclaa
open Go.Vi
/-D 74 -/
noncomputable def D74 (n : Nat × Nat) (x0 : Int) (y1 : Int) : Option R74 :=
    (bif false then (D79 n (wr .u32 x0) (wr .u32 y1)).bind fun r1' =>
      some (wr .u64 r1'.1, wr .u64 r1'.2)
    else (D80 n x0 y1).bind fun r2' =>
      some (r2'.1, r2'.2))
theorem S74_D (n : Nat × Nat) (hn : n.2 = 1) : S74 n = D74 n := by
  funext x0 y1; refine (S74_eq n x0 y1).trans ?_
  unfold D74
  (try simp only [S79_D n hn, S80_D n hn]) <;> first | with_reducible rfl | rfl
end Go.Proofs.Ytjgmfdgpgdaclaa
set_option linter.unusedVariables false
set_option linter.unusedSimpArgs false
set_option maxRecDepth 100000
namespace Go.Proofs.Ytjgmfdgpgdaclaa
open Go.Vi
/-D 52 -/
noncomputable def DF52_1 (n : Nat × Nat) (f1 : Int → List Int → Option R52) (v8 : Int) (newslice7 : List Int) : Option R52 :=
    (bif decide (v8 < (newslice7.length : Int)) then (bif bounds (some v8) none none newslice7.length then (bif bounds none (some v8) none newslice7.length then f1 (wr .i64 (v8 + ((min ((newslice7.drop (0 + 0)).take ((Int.toNat v8) - 0)).length ((newslice7.drop (0 + (Int.toNat v8))).take (newslice7.length - (Int.toNat v8))).length : Nat) : Int))) (newslice7.take (0 + (Int.toNat v8)) ++ ((newslice7.drop (0 + 0)).take ((Int.toNat v8) - 0)).take (min ((newslice7.drop (0 + 0)).take ((Int.toNat v8) - 0)).length ((newslice7.drop (0 + (Int.toNat v8))).take (newslice7.length - (Int.toNat v8))).length) ++ newslice7.drop ((0 + (Int.toNat v8)) + min ((newslice7.drop (0 + 0)).take ((Int.toNat v8) - 0)).length ((newslice7.drop (0 + (Int.toNat v8))).take (newslice7.length - (Int.toNat v8))).length))
        else none)
      else none)
    else some newslice7)
noncomputable def DL52_1 (n : Nat × Nat) (m : Nat) : Int → List Int → Option R52 := Nat.rec (motive := fun _ => Int → List Int → Option R52) (fun _ _ => none) (fun _ ih => DF52_1 n ih) m
theorem DL52_1_succ (n : Nat × Nat) (m : Nat) : DL52_1 n (m + 1) = DF52_1 n (DL52_1 n m) := rfl
theorem DL52_1_eq (n : Nat × Nat) (hn : n.2 = 1) : ∀ m, L52_1 n m = DL52_1 n m
  | 0 => by funext v8 newslice7; kernel_rfl
  | m + 1 => by
    have ih := DL52_1_eq n hn m
    funext v8 newslice7; refine (L52_1_eq n m v8 newslice7).trans ?_
    rw [DL52_1_succ]
    unfold DF52_1
    (try simp only [ih, S74_D n hn]) <;> first | with_reducible rfl | rfl
noncomputable def D52 (n : Nat × Nat) (x0 : List Int) (count1 : Int) : Option R52 :=
    (bif decide (count1 < 0) then none
    else (D74 n (wr .u64 (x0.length : Int)) (wr .u64 count1)).bind fun r1' =>
      ((bif (decide (r1'.1 > 0) == false) then some (decide (r1'.2 > 9223372036854775807))
        else some true)).bind fun b2' =>
      (bif b2' then none
      else (bif decide (0 ≤ wr .i64 r1'.2) && decide (wr .i64 r1'.2 ≤ wr .i64 r1'.2) && decide (wr .i64 r1'.2 ≤ lim) then DL52_1 n n.1 ((min x0.length (List.replicate (Int.toNat (wr .i64 r1'.2)) (0 : Int)).length : Nat) : Int) ((List.replicate (Int.toNat (wr .i64 r1'.2)) (0 : Int)).take 0 ++ x0.take (min x0.length (List.replicate (Int.toNat (wr .i64 r1'.2)) (0 : Int)).length) ++ (List.replicate (Int.toNat (wr .i64 r1'.2)) (0 : Int)).drop (0 + min x0.length (List.replicate (Int.toNat (wr .i64 r1'.2)) (0 : Int)).length))
        else none)))
theorem S52_D (n : Nat × Nat) (hn : n.2 = 1) : S52 n = D52 n := by
  funext x0 count1; refine (S52_eq n x0 count1).trans ?_
  unfold D52
  (try simp only [DL52_1_eq n hn, S74_D n hn]) <;> first | with_reducible rfl | rfl
end Go.Proofs.Ytjgmfdgpgdaclaa
set_option linter.unusedVariables false
set_option linter.unusedSimpArgs false
set_option maxRecDepth 100000
namespace Go.Proofs.Ytjgmfdgpgdaclaa
open Go.Vi
/-D 46 -/
noncomputable def D46 (n : Nat × Nat) (s0 : List Int) : Option R46 :=
    (bif !s0.isEmpty then (bif false then some []
      else (bif decide (([] : List Int).length + s0.length ≤ lim) then some ([] ++ s0)
        else none))
    else none)
theorem S46_D (n : Nat × Nat) (hn : n.2 = 1) : S46 n = D46 n := by
  funext s0; refine (S46_eq n s0).trans ?_
  unfold D46
  first | with_reducible rfl | rfl
end Go.Proofs.Ytjgmfdgpgdaclaa
set_option linter.unusedVariables false
set_option linter.unusedSimpArgs false
set_option maxRecDepth 100000
namespace Go.Proofs.Ytjgmfdgpgdaclaa
open Go.Vi
/-D 41 -/
noncomputable def D41 (n : Nat × Nat) (coins0 : List Int) (purse1 : List Int) (sum2 : Int) : Option R41 := HF41 (D56 n) (D68 n) (D52 n) (D46 n) coins0 purse1 sum2
theorem S41_D (n : Nat × Nat) (hn : n.2 = 1) : S41 n = D41 n := by unfold S41 D41; rw [S56_D n hn, S68_D n hn, S52_D n hn, S46_D n hn]
end Go.Proofs.Ytjgmfdgpgdaclaa
set_option linter.unusedVariables false
set_option linter.unusedSimpArgs false
set_option maxRecDepth 100000
namespace Go.Proofs.Ytjgmfdgpgdaclaa
open Go.Vi
/-D 55 -/
noncomputable def D55 (n : Nat × Nat) : Option R55 :=
    some [1, 2]
theorem S55_D (n : Nat × Nat) (hn : n.2 = 1) : S55 n = D55 n := by
  refine (S55_eq n).trans ?_
  unfold D55
  first | with_reducible rfl | rfl
end Go.Proofs.Ytjgmfdgpgdaclaa
set_option linter.unusedVariables false
set_option linter.unusedSimpArgs false
set_option maxRecDepth 100000
namespace Go.Proofs.Ytjgmfdgpgdaclaa
open Go.Vi
/-D 33 -/
noncomputable def D33 (n : Nat × Nat) (coins0 : List Int) (coin1 : Int) : Option R33 :=
    (D25 n coins0).bind fun r1' =>
    (bif (r1' != 0) then some (false, r1')
    else (bif ((coins0.length : Int) == 6) then some (false, 3)
      else (bif decide (coin1 > 40) then some (false, 1)
        else (idx coins0 (wr .i64 ((coins0.length : Int) - 1))).bind fun x2' =>
          (bif decide (coin1 ≤ x2') then some (false, 7)
          else (D66 n coins0).bind fun r3' =>
            (bif decide (r3' > 0) then some (false, 13)
            else (idx coins0 (wr .i64 ((coins0.length : Int) - 1))).bind fun x4' =>
              (bif x4' == 0 then none
              else (D46 n coins0).bind fun r5' =>
                (bif decide (r5'.length + [coin1].length ≤ lim) then (D63 n (r5' ++ [coin1]) (wr .i64 ((wr .i64 (Int.tdiv (wr .i64 ((wr .i64 (coin1 + x4')) - 1)) x4')) * x4'))).bind fun r6' =>
                  some (decide (r6'.2 ≤ wr .i64 (Int.tdiv (wr .i64 ((wr .i64 (coin1 + x4')) - 1)) x4')), 0)
                else none)))))))
theorem S33_D (n : Nat × Nat) (hn : n.2 = 1) : S33 n = D33 n := by
  funext coins0 coin1; refine (S33_eq n coins0 coin1).trans ?_
  unfold D33
  (try simp only [S25_D n hn, S46_D n hn, S63_D n hn, S66_D n hn]) <;> first | with_reducible rfl | rfl
end Go.Proofs.Ytjgmfdgpgdaclaa
set_option linter.unusedVariables false
set_option linter.unusedSimpArgs false
set_option maxRecDepth 100000
namespace Go.Proofs.Ytjgmfdgpgdaclaa
open Go.Vi
/-D 24 -/
noncomputable def DF24_1 (n : Nat × Nat) (f1 : List Int → List Int → Int → Option R24) (a0 : List Int) (b1 : List Int) (i5 : Int) : Option R24 :=
    (bif decide (i5 < (a0.length : Int)) then (idx a0 i5).bind fun x1' =>
      (idx b1 i5).bind fun x2' =>
      (bif (x1' != x2') then some false
      else f1 a0 b1 (wr .i64 (i5 + 1)))
    else some true)
noncomputable def DL24_1 (n : Nat × Nat) (m : Nat) : List Int → List Int → Int → Option R24 := Nat.rec (motive := fun _ => List Int → List Int → Int → Option R24) (fun _ _ _ => none) (fun _ ih => DF24_1 n ih) m
theorem DL24_1_succ (n : Nat × Nat) (m : Nat) : DL24_1 n (m + 1) = DF24_1 n (DL24_1 n m) := rfl
theorem DL24_1_eq (n : Nat × Nat) (hn : n.2 = 1) : ∀ m, L24_1 n m = DL24_1 n m
  | 0 => by funext a0 b1 i5; kernel_rfl
  | m + 1 => by
    have ih := DL24_1_eq n hn m
    funext a0 b1 i5; refine (L24_1_eq n m a0 b1 i5).trans ?_
    rw [DL24_1_succ]
    unfold DF24_1
    (try simp only [ih]) <;> first | with_reducible rfl | rfl
noncomputable def D24 (n : Nat × Nat) (a0 : List Int) (b1 : List Int) : Option R24 :=
    (bif ((a0.length : Int) != (b1.length : Int)) then some false
    else DL24_1 n n.1 a0 b1 0)
theorem S24_D (n : Nat × Nat) (hn : n.2 = 1) : S24 n = D24 n := by
  funext a0 b1; refine (S24_eq n a0 b1).trans ?_
  unfold D24
  (try simp only [DL24_1_eq n hn]) <;> first | with_reducible rfl | rfl
end Go.Proofs.Ytjgmfdgpgdaclaa
set_option linter.unusedVariables false
set_option linter.unusedSimpArgs false
set_option maxRecDepth 100000
namespace Go.Proofs.Ytjgmfdgpgdaclaa
open Go.Vi
/-D 31 -/
noncomputable def DF31_1 (n : Nat × Nat) (f1 : List Int → Int → Int → Int → List Int → Int → Int → Option R31) (coins0 : List Int) (sum1 : Int) (worth9 : Int) (has10 : Int) (v27 : List Int) (v28 : Int) (v29 : Int) : Option R31 :=
    (bif decide (v29 < v28) then (idx v27 v29).bind fun x3' =>
      (idx coins0 v29).bind fun x4' =>
      f1 coins0 sum1 (wr .i64 (worth9 + (wr .i64 (x3' * x4')))) (wr .i64 (has10 + x3')) v27 v28 (wr .i64 (v29 + 1))
    else (D63 n coins0 sum1).bind fun r5' =>
      (bif (worth9 != sum1) then some 17
      else (bif decide (has10 ≥ r5'.2) then some 14
        else some 0)))
noncomputable def DL31_1 (n : Nat × Nat) (m : Nat) : List Int → Int → Int → Int → List Int → Int → Int → Option R31 := Nat.rec (motive := fun _ => List Int → Int → Int → Int → List Int → Int → Int → Option R31) (fun _ _ _ _ _ _ _ => none) (fun _ ih => DF31_1 n ih) m
theorem DL31_1_succ (n : Nat × Nat) (m : Nat) : DL31_1 n (m + 1) = DF31_1 n (DL31_1 n m) := rfl
theorem DL31_1_eq (n : Nat × Nat) (hn : n.2 = 1) : ∀ m, L31_1 n m = DL31_1 n m
  | 0 => by funext coins0 sum1 worth9 has10 v27 v28 v29; kernel_rfl
  | m + 1 => by
    have ih := DL31_1_eq n hn m
    funext coins0 sum1 worth9 has10 v27 v28 v29; refine (L31_1_eq n m coins0 sum1 worth9 has10 v27 v28 v29).trans ?_
    rw [DL31_1_succ]
    unfold DF31_1
    (try simp only [ih, S56_D n hn, S63_D n hn, S68_D n hn]) <;> first | with_reducible rfl | rfl
noncomputable def D31 (n : Nat × Nat) (coins0 : List Int) (sum1 : Int) (payment2 : List Int) : Option R31 :=
    (D56 n coins0 sum1).bind fun r1' =>
    (bif (r1' != 0) then some r1'
    else (D68 n coins0 payment2).bind fun r2' =>
      (bif (r2' != 0) then some r2'
      else DL31_1 n n.1 coins0 sum1 0 0 payment2 (payment2.length : Int) 0))
theorem S31_D (n : Nat × Nat) (hn : n.2 = 1) : S31 n = D31 n := by
  funext coins0 sum1 payment2; refine (S31_eq n coins0 sum1 payment2).trans ?_
  unfold D31
  (try simp only [DL31_1_eq n hn, S56_D n hn, S63_D n hn, S68_D n hn]) <;> first | with_reducible rfl | rfl
end Go.Proofs.Ytjgmfdgpgdaclaa
set_option linter.unusedVariables false
set_option linter.unusedSimpArgs false
set_option maxRecDepth 100000
namespace Go.Proofs.Ytjgmfdgpgdaclaa
open Go.Vi
/-D 17 -/
noncomputable def D17 (n : Nat × Nat) : Option R17 :=
    (D54 n).bind fun r1' =>
    (D18 n r1' 6).bind fun r2' =>
    (D54 n).bind fun r3' =>
    (D20 n r3' 6).bind fun r4' =>
    (D54 n).bind fun r5' =>
    (D22 n r5' 6).bind fun r6' =>
    (D54 n).bind fun r7' =>
    (D27 n r7').bind fun r8' =>
    (D53 n).bind fun r9' =>
    (D27 n r9').bind fun r10' =>
    (D54 n).bind fun r11' =>
    (D29 n r11').bind fun r12' =>
    (D54 n).bind fun r13' =>
    (D37 n r13' 6).bind fun r14' =>
    ((bif ((r2'.2 != 0) == false) then some (r4'.2 != 0)
      else some true)).bind fun b15' =>
    ((bif (b15' == false) then some (r6'.2 != 0)
      else some true)).bind fun b16' =>
    ((bif (b16' == false) then some (r8'.2 != 0)
      else some true)).bind fun b17' =>
    ((bif (b17' == false) then some (r10'.2 != 0)
      else some true)).bind fun b18' =>
    ((bif (b18' == false) then some (r12'.2 != 0)
      else some true)).bind fun b19' =>
    ((bif (b19' == false) then some (r14'.2 != 0)
      else some true)).bind fun b20' =>
    (bif b20' then some false
    else (D54 n).bind fun r21' =>
      (D35 n r21' 2).bind fun r22' =>
      (D53 n).bind fun r23' =>
      (D39 n r23' 9).bind fun r24' =>
      (D54 n).bind fun r25' =>
      (D41 n r25' [2, 1, 1] 6).bind fun r26' =>
      (D55 n).bind fun r27' =>
      (D33 n r27' 5).bind fun r28' =>
      (D54 n).bind fun r29' =>
      (D33 n r29' 5).bind fun r30' =>
      (D53 n).bind fun r31' =>
      (D29 n r31').bind fun r32' =>
      (D54 n).bind fun r33' =>
      (D41 n r33' [0, 0, 1] 6).bind fun r34' =>
      ((bif ((r22'.2 == 0) == true) then some (r24'.2.2 == 0)
        else some false)).bind fun b35' =>
      ((bif (b35' == true) then some (r26'.2 == 0)
        else some false)).bind fun b36' =>
      ((bif (b36' == true) then some (r28'.2 == 0)
        else some false)).bind fun b37' =>
      ((bif (b37' == true) then some (r30'.2 == 13)
        else some false)).bind fun b38' =>
      ((bif (b38' == true) then some (r32'.2 == 13)
        else some false)).bind fun b39' =>
      ((bif (b39' == true) then some (r34'.2 == 12)
        else some false)).bind fun b40' =>
      ((bif (b40' == true) then some (r2'.1 == 2)
        else some false)).bind fun b41' =>
      ((bif (b41' == true) then (D24 n r4'.1 [0, 2, 0]).bind fun r42' =>
          some r42'
        else some false)).bind fun b43' =>
      ((bif (b43' == true) then (D24 n r6'.1 [2, 0, 1]).bind fun r44' =>
          some r44'
        else some false)).bind fun b45' =>
      ((bif (b45' == true) then some (!r8'.1)
        else some false)).bind fun b46' =>
      ((bif (b46' == true) then some r10'.1
        else some false)).bind fun b47' =>
      ((bif (b47' == true) then some (r12'.1 == 6)
        else some false)).bind fun b48' =>
      ((bif (b48' == true) then some (r14'.1 == 4)
        else some false)).bind fun b49' =>
      ((bif (b49' == true) then some (r22'.1 == 8)
        else some false)).bind fun b50' =>
      ((bif (b50' == true) then some (r24'.1 == 1)
        else some false)).bind fun b51' =>
      ((bif (b51' == true) then some (r24'.2.1 == 1)
        else some false)).bind fun b52' =>
      ((bif (b52' == true) then (D24 n r26'.1 [2, 0, 1]).bind fun r53' =>
          some r53'
        else some false)).bind fun b54' =>
      ((bif (b54' == true) then some r28'.1
        else some false)).bind fun b55' =>
      ((bif (b55' == true) then (D54 n).bind fun r56' =>
          (D31 n r56' 6 [0, 2, 0]).bind fun r57' =>
          some (r57' == 0)
        else some false)).bind fun b58' =>
      ((bif (b58' == true) then (D54 n).bind fun r59' =>
          (D31 n r59' 6 [2, 0, 1]).bind fun r60' =>
          some (r60' == 14)
        else some false)).bind fun b61' =>
      some b61')
theorem S17_D (n : Nat × Nat) (hn : n.2 = 1) : S17 n = D17 n := by
  refine (S17_eq n).trans ?_
  unfold D17
  (try simp only [S18_D n hn, S20_D n hn, S22_D n hn, S24_D n hn, S27_D n hn, S29_D n hn, S31_D n hn, S33_D n hn, S35_D n hn, S37_D n hn, S39_D n hn, S41_D n hn, S53_D n hn, S54_D n hn, S55_D n hn]) <;> first | with_reducible rfl | rfl
end Go.Proofs.Ytjgmfdgpgdaclaa
set_option linter.unusedVariables false
set_option linter.unusedSimpArgs false
set_option maxRecDepth 100000
namespace Go.Proofs.Ytjgmfdgpgdaclaa
open Go.Vi
/- headword/headwordlaw12.fewest -/
abbrev R44 := List Int
noncomputable def c44 : Code := bodyOf Try.f44
noncomputable def an44 : Ann := (.s .l (.s .l (.s .l (.s (.s .l (.j [5] (.j [0, 1, 5, 6, 7] (.s (.s .l (.j [0, 1, 5, 6, 7] .l .l)) (.s (.j [0, 1, 5, 6, 7] (.s .l (.s (.s .l (.j [0, 1, 5, 7, 8] (.j [0, 1, 5, 7, 8, 25, 26, 27] (.s .l (.s (.j [0, 1, 5, 7, 8, 25, 26, 27] .l .l) (.j [] (.j [0, 1, 5, 7, 8, 25, 26, 27] (.s .l (.s (.s .l (.j [0, 1, 5, 7, 8, 10, 25, 26, 27] .l .l)) (.s .l (.s .l (.j [0, 1, 5, 7, 8, 25, 26, 27] (.j [0, 1, 5, 7, 8, 10, 25, 26, 27, 40, 41, 42] (.s .l (.s (.j [0, 1, 5, 7, 8, 10, 25, 26, 27, 40, 41, 42] .l .l) (.j [] (.j [0, 1, 5, 7, 8, 10, 25, 26, 27, 40, 41, 42] (.s .l (.s .l (.j [0, 1, 5, 7, 8, 10, 25, 26, 27, 40, 41, 42] .l .l))) .l) .l))) .l) .l))))) .l) .l))) .l) .l)) .l)) .l) .l)) .l) .l)) .l))))
def pk44 : List PK := [.c (.sl (.int .i64)), .c (.int .i64)]
def rk44 : List RK := [.own (.int .i64) 4]
noncomputable def rt44 (st : St) : Option R44 := rtG rk44 st
noncomputable def E44 (n : Nat × Nat) : Env := { T := tab, phi := (consPhi 52 (fun _ => true) (P52 n) noPhi), eff := fun _ => false, fuel := n.1, hold := n.2 }
noncomputable def kq44_1 (n : Nat × Nat) : St → Option R44 := run (E44 n) (cB (cB (cB (cB c44)))) (Ann.snd (Ann.snd (Ann.snd (Ann.snd an44)))) rt44 (fun _ _ => none) rt44
noncomputable def kc44_2 (n : Nat × Nat) : St → Option R44 := fun s => normC [5] s (kq44_1 n)
noncomputable def xb44_3 (n : Nat × Nat) : Nat → St → Option R44 := fun j s => bif Nat.beq j 0 then normC [5] s (kq44_1 n) else (fun _ _ => none) j s
noncomputable def F44_4 (n : Nat × Nat) : (St → Option R44) → St → Option R44 := fun K s => run (E44 n) (cA (cA (cB (cA (cB (cB (cB c44))))))) (Ann.fst (Ann.fst (Ann.snd (Ann.fst (Ann.snd (Ann.snd (Ann.snd an44))))))) (fun s => normC [0, 1, 5, 6, 7] s K) (xb44_3 n) rt44 s
noncomputable def kq44_5 (n : Nat × Nat) (m1 : Nat) : St → Option R44 := run (E44 n) (cB (cA (cA (cB (cA (cB (cB (cB c44)))))))) (Ann.snd (Ann.fst (Ann.fst (Ann.snd (Ann.fst (Ann.snd (Ann.snd (Ann.snd an44)))))))) (fun s => normC [0, 1, 5, 6, 7] s (loopN (F44_4 n) m1)) (xb44_3 n) rt44
noncomputable def kc44_6 (n : Nat × Nat) (m1 : Nat) : St → Option R44 := fun s => normC [0, 1, 5, 6, 7] s (kq44_5 n m1)
noncomputable def kq44_7 (n : Nat × Nat) (m1 : Nat) : St → Option R44 := run (E44 n) (cB (cB (cA (cA (cB (cA (cB (cB (cB c44))))))))) (Ann.snd (Ann.snd (Ann.fst (Ann.fst (Ann.snd (Ann.fst (Ann.snd (Ann.snd (Ann.snd an44))))))))) (fun s => normC [0, 1, 5, 6, 7] s (loopN (F44_4 n) m1)) (xb44_3 n) rt44
noncomputable def kc44_8 (n : Nat × Nat) (m1 : Nat) : St → Option R44 := fun s => normC [0, 1, 5, 6, 7] s (kq44_7 n m1)
noncomputable def xb44_9 (n : Nat × Nat) (m1 : Nat) : Nat → St → Option R44 := fun j s => bif Nat.beq j 1 then normC [0, 1, 5, 6, 7] s (kq44_7 n m1) else (xb44_3 n) j s
noncomputable def kq44_10 (n : Nat × Nat) (m1 : Nat) : St → Option R44 := run (E44 n) (cB (cB (cA (cA (cB (cA (cA (cB (cA (cB (cB (cB c44)))))))))))) (Ann.snd (Ann.snd (Ann.fst (Ann.fst (Ann.snd (Ann.fst (Ann.fst (Ann.snd (Ann.fst (Ann.snd (Ann.snd (Ann.snd an44)))))))))))) (kc44_8 n m1) (xb44_9 n m1) rt44
noncomputable def kc44_11 (n : Nat × Nat) (m1 : Nat) : St → Option R44 := fun s => normC [0, 1, 5, 7, 8] s (kq44_10 n m1)
noncomputable def xb44_12 (n : Nat × Nat) (m1 : Nat) : Nat → St → Option R44 := fun j s => bif Nat.beq j 2 then normC [0, 1, 5, 7, 8] s (kq44_10 n m1) else (xb44_9 n m1) j s
noncomputable def F44_13 (n : Nat × Nat) (m1 : Nat) : (St → Option R44) → St → Option R44 := fun K s => run (E44 n) (cA (cA (cB (cA (cB (cA (cA (cB (cA (cA (cB (cA (cB (cB (cB c44))))))))))))))) (Ann.fst (Ann.fst (Ann.snd (Ann.fst (Ann.snd (Ann.fst (Ann.fst (Ann.snd (Ann.fst (Ann.fst (Ann.snd (Ann.fst (Ann.snd (Ann.snd (Ann.snd an44))))))))))))))) (fun s => normC [0, 1, 5, 7, 8, 25, 26, 27] s K) (xb44_12 n m1) rt44 s
noncomputable def kq44_14 (n : Nat × Nat) (m1 m2 : Nat) : St → Option R44 := run (E44 n) (cB (cB (cA (cA (cB (cA (cB (cA (cA (cB (cA (cA (cB (cA (cB (cB (cB c44))))))))))))))))) (Ann.snd (Ann.snd (Ann.fst (Ann.fst (Ann.snd (Ann.fst (Ann.snd (Ann.fst (Ann.fst (Ann.snd (Ann.fst (Ann.fst (Ann.snd (Ann.fst (Ann.snd (Ann.snd (Ann.snd an44))))))))))))))))) (fun s => normC [0, 1, 5, 7, 8, 25, 26, 27] s (loopN (F44_13 n m1) m2)) (xb44_12 n m1) rt44
noncomputable def kc44_15 (n : Nat × Nat) (m1 m2 : Nat) : St → Option R44 := fun s => normC [0, 1, 5, 7, 8, 25, 26, 27] s (kq44_14 n m1 m2)
noncomputable def kq44_16 (n : Nat × Nat) (m1 m2 : Nat) : St → Option R44 := run (E44 n) (cB (cB (cB (cA (cA (cB (cA (cB (cA (cA (cB (cA (cA (cB (cA (cB (cB (cB c44)))))))))))))))))) (Ann.snd (Ann.snd (Ann.snd (Ann.fst (Ann.fst (Ann.snd (Ann.fst (Ann.snd (Ann.fst (Ann.fst (Ann.snd (Ann.fst (Ann.fst (Ann.snd (Ann.fst (Ann.snd (Ann.snd (Ann.snd an44)))))))))))))))))) (fun s => normC [0, 1, 5, 7, 8, 25, 26, 27] s (loopN (F44_13 n m1) m2)) (xb44_12 n m1) rt44
noncomputable def kc44_17 (n : Nat × Nat) (m1 m2 : Nat) : St → Option R44 := fun s => normC [0, 1, 5, 7, 8, 25, 26, 27] s (loopN (fun _ => (kq44_16 n m1 m2)) n.2)
noncomputable def xb44_18 (n : Nat × Nat) (m1 m2 : Nat) : Nat → St → Option R44 := fun j s => bif Nat.beq j 3 then normC [0, 1, 5, 7, 8, 25, 26, 27] s (loopN (fun _ => (kq44_16 n m1 m2)) n.2) else (xb44_12 n m1) j s
noncomputable def kq44_19 (n : Nat × Nat) (m1 m2 : Nat) : St → Option R44 := run (E44 n) (cB (cB (cA (cA (cB (cB (cA (cA (cB (cA (cB (cA (cA (cB (cA (cA (cB (cA (cB (cB (cB c44))))))))))))))))))))) (Ann.snd (Ann.snd (Ann.fst (Ann.fst (Ann.snd (Ann.snd (Ann.fst (Ann.fst (Ann.snd (Ann.fst (Ann.snd (Ann.fst (Ann.fst (Ann.snd (Ann.fst (Ann.fst (Ann.snd (Ann.fst (Ann.snd (Ann.snd (Ann.snd an44))))))))))))))))))))) (kc44_17 n m1 m2) (xb44_18 n m1 m2) rt44
noncomputable def kc44_20 (n : Nat × Nat) (m1 m2 : Nat) : St → Option R44 := fun s => normC [0, 1, 5, 7, 8, 10, 25, 26, 27] s (kq44_19 n m1 m2)
noncomputable def kc44_21 (n : Nat × Nat) (m1 m2 : Nat) : St → Option R44 := fun s => normC [0, 1, 5, 7, 8, 25, 26, 27] s (kc44_17 n m1 m2)
noncomputable def xb44_22 (n : Nat × Nat) (m1 m2 : Nat) : Nat → St → Option R44 := fun j s => bif Nat.beq j 4 then normC [0, 1, 5, 7, 8, 25, 26, 27] s (kc44_17 n m1 m2) else (xb44_18 n m1 m2) j s
noncomputable def F44_23 (n : Nat × Nat) (m1 m2 : Nat) : (St → Option R44) → St → Option R44 := fun K s => run (E44 n) (cA (cA (cB (cB (cB (cB (cA (cA (cB (cB (cA (cA (cB (cA (cB (cA (cA (cB (cA (cA (cB (cA (cB (cB (cB c44))))))))))))))))))))))))) (Ann.fst (Ann.fst (Ann.snd (Ann.snd (Ann.snd (Ann.snd (Ann.fst (Ann.fst (Ann.snd (Ann.snd (Ann.fst (Ann.fst (Ann.snd (Ann.fst (Ann.snd (Ann.fst (Ann.fst (Ann.snd (Ann.fst (Ann.fst (Ann.snd (Ann.fst (Ann.snd (Ann.snd (Ann.snd an44))))))))))))))))))))))))) (fun s => normC [0, 1, 5, 7, 8, 10, 25, 26, 27, 40, 41, 42] s K) (xb44_22 n m1 m2) rt44 s
noncomputable def kq44_24 (n : Nat × Nat) (m1 m2 m3 : Nat) : St → Option R44 := run (E44 n) (cB (cB (cA (cA (cB (cB (cB (cB (cA (cA (cB (cB (cA (cA (cB (cA (cB (cA (cA (cB (cA (cA (cB (cA (cB (cB (cB c44))))))))))))))))))))))))))) (Ann.snd (Ann.snd (Ann.fst (Ann.fst (Ann.snd (Ann.snd (Ann.snd (Ann.snd (Ann.fst (Ann.fst (Ann.snd (Ann.snd (Ann.fst (Ann.fst (Ann.snd (Ann.fst (Ann.snd (Ann.fst (Ann.fst (Ann.snd (Ann.fst (Ann.fst (Ann.snd (Ann.fst (Ann.snd (Ann.snd (Ann.snd an44))))))))))))))))))))))))))) (fun s => normC [0, 1, 5, 7, 8, 10, 25, 26, 27, 40, 41, 42] s (loopN (F44_23 n m1 m2) m3)) (xb44_22 n m1 m2) rt44
noncomputable def kc44_25 (n : Nat × Nat) (m1 m2 m3 : Nat) : St → Option R44 := fun s => normC [0, 1, 5, 7, 8, 10, 25, 26, 27, 40, 41, 42] s (kq44_24 n m1 m2 m3)
noncomputable def kq44_26 (n : Nat × Nat) (m1 m2 m3 : Nat) : St → Option R44 := run (E44 n) (cB (cB (cB (cA (cA (cB (cB (cB (cB (cA (cA (cB (cB (cA (cA (cB (cA (cB (cA (cA (cB (cA (cA (cB (cA (cB (cB (cB c44)))))))))))))))))))))))))))) (Ann.snd (Ann.snd (Ann.snd (Ann.fst (Ann.fst (Ann.snd (Ann.snd (Ann.snd (Ann.snd (Ann.fst (Ann.fst (Ann.snd (Ann.snd (Ann.fst (Ann.fst (Ann.snd (Ann.fst (Ann.snd (Ann.fst (Ann.fst (Ann.snd (Ann.fst (Ann.fst (Ann.snd (Ann.fst (Ann.snd (Ann.snd (Ann.snd an44)))))))))))))))))))))))))))) (fun s => normC [0, 1, 5, 7, 8, 10, 25, 26, 27, 40, 41, 42] s (loopN (F44_23 n m1 m2) m3)) (xb44_22 n m1 m2) rt44
noncomputable def kc44_27 (n : Nat × Nat) (m1 m2 m3 : Nat) : St → Option R44 := fun s => normC [0, 1, 5, 7, 8, 10, 25, 26, 27, 40, 41, 42] s (loopN (fun _ => (kq44_26 n m1 m2 m3)) n.2)
noncomputable def xb44_28 (n : Nat × Nat) (m1 m2 m3 : Nat) : Nat → St → Option R44 := fun j s => bif Nat.beq j 5 then normC [0, 1, 5, 7, 8, 10, 25, 26, 27, 40, 41, 42] s (loopN (fun _ => (kq44_26 n m1 m2 m3)) n.2) else (xb44_22 n m1 m2) j s
noncomputable def kc44_29 (n : Nat × Nat) (m1 m2 m3 : Nat) : St → Option R44 := fun s => normC [0, 1, 5, 7, 8, 10, 25, 26, 27, 40, 41, 42] s (kc44_27 n m1 m2 m3)
noncomputable def L44_1 (n : Nat × Nat) (m : Nat) (coins0 : List Int) (most1 : Int) (v7 : Int) (out5 : List Int) (now6 : List Int) : Option R44 := loopN (F44_4 n) m { tm := [.c (.sl (.int .i64) coins0 false), .c (.int .i64 most1), uu, uu, uu, .own 5 none false, .own 6 none false, .c (.int .i64 v7), uu, uu, uu, uu, uu, uu, uu, uu, uu, uu, uu, uu, uu, uu, uu, uu, uu, uu, uu, uu, uu, uu, uu, uu, uu, uu, uu, uu, uu, uu, uu, uu, uu, uu, uu, uu, uu, uu, uu, uu, uu, uu, uu, uu, uu, uu, uu, uu, uu, uu, uu, uu, uu], hp := (upd (upd emp 6 (.arr (.int .i64) now6 false)) 5 (.arr (.int .i64) out5 false)) }
noncomputable def L44_2 (n : Nat × Nat) (m1 : Nat) (m : Nat) (coins0 : List Int) (most1 : Int) (v7 : Int) (v26 : Int) (v27 : Int) (out5 : List Int) (next8 : List Int) (v25 : List Int) : Option R44 := loopN (F44_13 n m1) m { tm := [.c (.sl (.int .i64) coins0 false), .c (.int .i64 most1), uu, uu, uu, .own 5 none false, uu, .c (.int .i64 v7), .own 8 none false, uu, uu, uu, uu, uu, uu, uu, uu, uu, uu, uu, uu, uu, uu, uu, uu, .own 25 none false, .c (.int .i64 v26), .c (.int .i64 v27), uu, uu, uu, uu, uu, uu, uu, uu, uu, uu, uu, uu, uu, uu, uu, uu, uu, uu, uu, uu, uu, uu, uu, uu, uu, uu, uu, uu, uu, uu, uu, uu, uu], hp := (upd (upd (upd emp 25 (.arr (.int .i64) v25 false)) 8 (.arr (.int .i64) next8 false)) 5 (.arr (.int .i64) out5 false)) }
noncomputable def L44_3 (n : Nat × Nat) (m1 m2 : Nat) (coins0 : List Int) (most1 : Int) (v7 : Int) (v26 : Int) (v27 : Int) (out5 : List Int) (next8 : List Int) (v25 : List Int) : Option R44 := loopN (fun _ => (kq44_16 n m1 m2)) n.2 { tm := [.c (.sl (.int .i64) coins0 false), .c (.int .i64 most1), uu, uu, uu, .own 5 none false, uu, .c (.int .i64 v7), .own 8 none false, uu, uu, uu, uu, uu, uu, uu, uu, uu, uu, uu, uu, uu, uu, uu, uu, .own 25 none false, .c (.int .i64 v26), .c (.int .i64 v27), uu, uu, uu, uu, uu, uu, uu, uu, uu, uu, uu, uu, uu, uu, uu, uu, uu, uu, uu, uu, uu, uu, uu, uu, uu, uu, uu, uu, uu, uu, uu, uu, uu], hp := (upd (upd (upd emp 25 (.arr (.int .i64) v25 false)) 8 (.arr (.int .i64) next8 false)) 5 (.arr (.int .i64) out5 false)) }
noncomputable def L44_4 (n : Nat × Nat) (m1 m2 : Nat) (m : Nat) (coins0 : List Int) (most1 : Int) (v7 : Int) (s10 : Int) (v26 : Int) (v27 : Int) (v40 : List Int) (v41 : Int) (v42 : Int) (out5 : List Int) (next8 : List Int) (v25 : List Int) : Option R44 := loopN (F44_23 n m1 m2) m { tm := [.c (.sl (.int .i64) coins0 false), .c (.int .i64 most1), uu, uu, uu, .own 5 none false, uu, .c (.int .i64 v7), .own 8 none false, uu, .c (.int .i64 s10), uu, uu, uu, uu, uu, uu, uu, uu, uu, uu, uu, uu, uu, uu, .own 25 none false, .c (.int .i64 v26), .c (.int .i64 v27), uu, uu, uu, uu, uu, uu, uu, uu, uu, uu, uu, uu, .c (.sl (.int .i64) v40 false), .c (.int .i64 v41), .c (.int .i64 v42), uu, uu, uu, uu, uu, uu, uu, uu, uu, uu, uu, uu, uu, uu, uu, uu, uu, uu], hp := (upd (upd (upd emp 25 (.arr (.int .i64) v25 false)) 8 (.arr (.int .i64) next8 false)) 5 (.arr (.int .i64) out5 false)) }
noncomputable def L44_5 (n : Nat × Nat) (m1 m2 m3 : Nat) (coins0 : List Int) (most1 : Int) (v7 : Int) (s10 : Int) (v26 : Int) (v27 : Int) (v40 : List Int) (v41 : Int) (v42 : Int) (out5 : List Int) (next8 : List Int) (v25 : List Int) : Option R44 := loopN (fun _ => (kq44_26 n m1 m2 m3)) n.2 { tm := [.c (.sl (.int .i64) coins0 false), .c (.int .i64 most1), uu, uu, uu, .own 5 none false, uu, .c (.int .i64 v7), .own 8 none false, uu, .c (.int .i64 s10), uu, uu, uu, uu, uu, uu, uu, uu, uu, uu, uu, uu, uu, uu, .own 25 none false, .c (.int .i64 v26), .c (.int .i64 v27), uu, uu, uu, uu, uu, uu, uu, uu, uu, uu, uu, uu, .c (.sl (.int .i64) v40 false), .c (.int .i64 v41), .c (.int .i64 v42), uu, uu, uu, uu, uu, uu, uu, uu, uu, uu, uu, uu, uu, uu, uu, uu, uu, uu], hp := (upd (upd (upd emp 25 (.arr (.int .i64) v25 false)) 8 (.arr (.int .i64) next8 false)) 5 (.arr (.int .i64) out5 false)) }
theorem L44_1_eq (n : Nat × Nat) (m1 : Nat) (coins0 : List Int) (most1 : Int) (v7 : Int) (out5 : List Int) (now6 : List Int) : L44_1 n (m1 + 1) coins0 most1 v7 out5 now6 =
    (bif decide ((now6.length : Int) > 0) then L44_2 n m1 n.1 coins0 most1 v7 (now6.length : Int) 0 out5 [] now6
    else some out5) := by kernel_rfl
theorem L44_2_eq (n : Nat × Nat) (m1 m2 : Nat) (coins0 : List Int) (most1 : Int) (v7 : Int) (v26 : Int) (v27 : Int) (out5 : List Int) (next8 : List Int) (v25 : List Int) : L44_2 n m1 (m2 + 1) coins0 most1 v7 v26 v27 out5 next8 v25 =
    (bif decide (v27 < v26) then (bif inB v27 v25.length then (idx v25 v27).bind fun x2' =>
        (bif inB x2' out5.length then (idx out5 x2').bind fun x3' =>
          (bif decide (x3' ≥ 0) then L44_3 n m1 m2 coins0 most1 v7 v26 v27 out5 next8 v25
          else (bif inB x2' out5.length then (idx out5 x2').bind fun x4' =>
              L44_4 n m1 m2 n.1 coins0 most1 v7 x2' v26 v27 coins0 (coins0.length : Int) 0 (out5.set (Int.toNat x2') v7) next8 v25
            else none))
        else none)
      else none)
    else L44_1 n m1 coins0 most1 (wr .i64 (v7 + 1)) out5 next8) := by kernel_rfl
theorem L44_3_raw (n : Nat × Nat) (m1 m2 : Nat) (coins0 : List Int) (most1 : Int) (v7 : Int) (v26 : Int) (v27 : Int) (out5 : List Int) (next8 : List Int) (v25 : List Int) : (kq44_16 n m1 m2) { tm := [.c (.sl (.int .i64) coins0 false), .c (.int .i64 most1), uu, uu, uu, .own 5 none false, uu, .c (.int .i64 v7), .own 8 none false, uu, uu, uu, uu, uu, uu, uu, uu, uu, uu, uu, uu, uu, uu, uu, uu, .own 25 none false, .c (.int .i64 v26), .c (.int .i64 v27), uu, uu, uu, uu, uu, uu, uu, uu, uu, uu, uu, uu, uu, uu, uu, uu, uu, uu, uu, uu, uu, uu, uu, uu, uu, uu, uu, uu, uu, uu, uu, uu, uu], hp := (upd (upd (upd emp 25 (.arr (.int .i64) v25 false)) 8 (.arr (.int .i64) next8 false)) 5 (.arr (.int .i64) out5 false)) } =
    L44_2 n m1 m2 coins0 most1 v7 v26 (wr .i64 (v27 + 1)) out5 next8 v25 := by kernel_rfl
theorem L44_4_eq (n : Nat × Nat) (m1 m2 m3 : Nat) (coins0 : List Int) (most1 : Int) (v7 : Int) (s10 : Int) (v26 : Int) (v27 : Int) (v40 : List Int) (v41 : Int) (v42 : Int) (out5 : List Int) (next8 : List Int) (v25 : List Int) : L44_4 n m1 m2 (m3 + 1) coins0 most1 v7 s10 v26 v27 v40 v41 v42 out5 next8 v25 =
    (bif decide (v42 < v41) then (idx v40 v42).bind fun x5' =>
      (bif decide (wr .i64 (s10 + x5') ≤ most1) then (bif decide (next8.length + [wr .i64 (s10 + x5')].length ≤ lim) then L44_5 n m1 m2 m3 coins0 most1 v7 s10 v26 v27 v40 v41 v42 out5 (next8 ++ [wr .i64 (s10 + x5')]) v25
        else none)
      else L44_5 n m1 m2 m3 coins0 most1 v7 s10 v26 v27 v40 v41 v42 out5 next8 v25)
    else L44_3 n m1 m2 coins0 most1 v7 v26 v27 out5 next8 v25) := by kernel_rfl
theorem L44_5_raw (n : Nat × Nat) (m1 m2 m3 : Nat) (coins0 : List Int) (most1 : Int) (v7 : Int) (s10 : Int) (v26 : Int) (v27 : Int) (v40 : List Int) (v41 : Int) (v42 : Int) (out5 : List Int) (next8 : List Int) (v25 : List Int) : (kq44_26 n m1 m2 m3) { tm := [.c (.sl (.int .i64) coins0 false), .c (.int .i64 most1), uu, uu, uu, .own 5 none false, uu, .c (.int .i64 v7), .own 8 none false, uu, .c (.int .i64 s10), uu, uu, uu, uu, uu, uu, uu, uu, uu, uu, uu, uu, uu, uu, .own 25 none false, .c (.int .i64 v26), .c (.int .i64 v27), uu, uu, uu, uu, uu, uu, uu, uu, uu, uu, uu, uu, .c (.sl (.int .i64) v40 false), .c (.int .i64 v41), .c (.int .i64 v42), uu, uu, uu, uu, uu, uu, uu, uu, uu, uu, uu, uu, uu, uu, uu, uu, uu, uu], hp := (upd (upd (upd emp 25 (.arr (.int .i64) v25 false)) 8 (.arr (.int .i64) next8 false)) 5 (.arr (.int .i64) out5 false)) } =
    L44_4 n m1 m2 m3 coins0 most1 v7 s10 v26 v27 v40 v41 (wr .i64 (v42 + 1)) out5 next8 v25 := by kernel_rfl
noncomputable def S44 (n : Nat × Nat) (coins0 : List Int) (most1 : Int) : Option R44 := run (E44 n) c44 an44 rt44 (fun _ _ => none) rt44 { tm := [.c (.sl (.int .i64) coins0 false), .c (.int .i64 most1), uu, uu, uu, uu, uu, uu, uu, uu, uu, uu, uu, uu, uu, uu, uu, uu, uu, uu, uu, uu, uu, uu, uu, uu, uu, uu, uu, uu, uu, uu, uu, uu, uu, uu, uu, uu, uu, uu, uu, uu, uu, uu, uu, uu, uu, uu, uu, uu, uu, uu, uu, uu, uu, uu, uu, uu, uu, uu, uu], hp := emp }
theorem S44_eq (n : Nat × Nat) (coins0 : List Int) (most1 : Int) : S44 n coins0 most1 =
    (S52 n [-1] (wr .i64 (most1 + 1))).bind fun r1' =>
    L44_1 n n.1 coins0 most1 0 r1' [0] := by kernel_rfl
theorem S44_run (n : Nat × Nat) (xs : pksDen pk44) : S44 n xs.1 xs.2.1 = runG (E44 n) noScope c44 an44 (rtG rk44) (fun _ _ => none) (rtG rk44) (st0 pk44 xs Try.f44.ntmps) := by kernel_rfl
noncomputable def P44 (n : Nat × Nat) := phiOf pk44 rk44 (fun xs => S44 n xs.1 xs.2.1)
theorem call44 : CallOK Try.prog 44 := callOK_of Try.func44 (by kernel_rfl) (by kernel_rfl)
theorem env44 (n : Nat × Nat) : EnvOK Try.prog (E44 n) := envOK0 (consPhi_ok (FC52 n) call52 noPhi_ok) rfl rfl
theorem par44 (n : Nat × Nat) : EnvPar (E44 n) := envPar0 (consPhi_par phiOf_Par1 noPhi_par) rfl
theorem FC44 (n : Nat × Nat) : FCs Try.prog 44 (P44 n) := phiOf_FCs fun xs r h vs hv => FC.of_runG tabOK eqsOK (env44 n) (par44 n) mixed (fun _ => noScope_ok) Try.func44 (c := c44) (an := an44) (pks := pk44) (rks := rk44) (by kernel_rfl) (by kernel_rfl) hv ((S44_run n xs).symm.trans h)
end Go.Proofs.Ytjgmfdgpgdaclaa
set_option linter.unusedVariables false
set_option linter.unusedSimpArgs false
set_option maxRecDepth 100000
namespace Go.Proofs.Ytjgmfdgpgdaclaa
open Go.Vi
/-D 44 -/
noncomputable def DL44_3 (n : Nat × Nat) (f1 : List Int → Int → Int → List Int → List Int → Option R44) (f2 : List Int → Int → Int → Int → Int → List Int → List Int → List Int → Option R44) (coins0 : List Int) (most1 : Int) (v7 : Int) (v26 : Int) (v27 : Int) (out5 : List Int) (next8 : List Int) (v25 : List Int) : Option R44 :=
    f2 coins0 most1 v7 v26 (wr .i64 (v27 + 1)) out5 next8 v25
theorem DL44_3_eq (n : Nat × Nat) (hn : n.2 = 1) (m1 m2 : Nat) : L44_3 n m1 m2 = DL44_3 n (L44_1 n m1) (L44_2 n m1 m2) := by
  funext coins0 most1 v7 v26 v27 out5 next8 v25; refine ((held_eq hn _).trans (L44_3_raw n m1 m2 coins0 most1 v7 v26 v27 out5 next8 v25)).trans ?_
  unfold DL44_3
  (try simp only [S52_D n hn]) <;> first | with_reducible rfl | rfl
noncomputable def DL44_5 (n : Nat × Nat) (f1 : List Int → Int → Int → List Int → List Int → Option R44) (f2 : List Int → Int → Int → Int → Int → List Int → List Int → List Int → Option R44) (f3 : List Int → Int → Int → Int → Int → Int → List Int → Int → Int → List Int → List Int → List Int → Option R44) (coins0 : List Int) (most1 : Int) (v7 : Int) (s10 : Int) (v26 : Int) (v27 : Int) (v40 : List Int) (v41 : Int) (v42 : Int) (out5 : List Int) (next8 : List Int) (v25 : List Int) : Option R44 :=
    f3 coins0 most1 v7 s10 v26 v27 v40 v41 (wr .i64 (v42 + 1)) out5 next8 v25
theorem DL44_5_eq (n : Nat × Nat) (hn : n.2 = 1) (m1 m2 m3 : Nat) : L44_5 n m1 m2 m3 = DL44_5 n (L44_1 n m1) (L44_2 n m1 m2) (L44_4 n m1 m2 m3) := by
  funext coins0 most1 v7 s10 v26 v27 v40 v41 v42 out5 next8 v25; refine ((held_eq hn _).trans (L44_5_raw n m1 m2 m3 coins0 most1 v7 s10 v26 v27 v40 v41 v42 out5 next8 v25)).trans ?_
  unfold DL44_5
  (try simp only [DL44_3_eq n hn, S52_D n hn]) <;> first | with_reducible rfl | rfl
noncomputable def DF44_4 (n : Nat × Nat) (f1 : List Int → Int → Int → List Int → List Int → Option R44) (f2 : List Int → Int → Int → Int → Int → List Int → List Int → List Int → Option R44) (f3 : List Int → Int → Int → Int → Int → Int → List Int → Int → Int → List Int → List Int → List Int → Option R44) (coins0 : List Int) (most1 : Int) (v7 : Int) (s10 : Int) (v26 : Int) (v27 : Int) (v40 : List Int) (v41 : Int) (v42 : Int) (out5 : List Int) (next8 : List Int) (v25 : List Int) : Option R44 :=
    (bif decide (v42 < v41) then (idx v40 v42).bind fun x5' =>
      (bif decide (wr .i64 (s10 + x5') ≤ most1) then (bif decide (next8.length + [wr .i64 (s10 + x5')].length ≤ lim) then DL44_5 n f1 f2 f3 coins0 most1 v7 s10 v26 v27 v40 v41 v42 out5 (next8 ++ [wr .i64 (s10 + x5')]) v25
        else none)
      else DL44_5 n f1 f2 f3 coins0 most1 v7 s10 v26 v27 v40 v41 v42 out5 next8 v25)
    else DL44_3 n f1 f2 coins0 most1 v7 v26 v27 out5 next8 v25)
noncomputable def DL44_4 (n : Nat × Nat) (f1 : List Int → Int → Int → List Int → List Int → Option R44) (f2 : List Int → Int → Int → Int → Int → List Int → List Int → List Int → Option R44) (m : Nat) : List Int → Int → Int → Int → Int → Int → List Int → Int → Int → List Int → List Int → List Int → Option R44 := Nat.rec (motive := fun _ => List Int → Int → Int → Int → Int → Int → List Int → Int → Int → List Int → List Int → List Int → Option R44) (fun _ _ _ _ _ _ _ _ _ _ _ _ => none) (fun _ ih => DF44_4 n f1 f2 ih) m
theorem DL44_4_succ (n : Nat × Nat) (f1 : List Int → Int → Int → List Int → List Int → Option R44) (f2 : List Int → Int → Int → Int → Int → List Int → List Int → List Int → Option R44) (m : Nat) : DL44_4 n f1 f2 (m + 1) = DF44_4 n f1 f2 (DL44_4 n f1 f2 m) := rfl
theorem DL44_4_eq (n : Nat × Nat) (hn : n.2 = 1) (m1 m2 : Nat) : ∀ m, L44_4 n m1 m2 m = DL44_4 n (L44_1 n m1) (L44_2 n m1 m2) m
  | 0 => by funext coins0 most1 v7 s10 v26 v27 v40 v41 v42 out5 next8 v25; kernel_rfl
  | m + 1 => by
    have ih := DL44_4_eq n hn m1 m2 m
    funext coins0 most1 v7 s10 v26 v27 v40 v41 v42 out5 next8 v25; refine (L44_4_eq n m1 m2 m coins0 most1 v7 s10 v26 v27 v40 v41 v42 out5 next8 v25).trans ?_
    rw [DL44_4_succ]
    unfold DF44_4
    (try simp only [ih, DL44_3_eq n hn, DL44_5_eq n hn, S52_D n hn]) <;> first | with_reducible rfl | rfl
noncomputable def DF44_2 (n : Nat × Nat) (f1 : List Int → Int → Int → List Int → List Int → Option R44) (f2 : List Int → Int → Int → Int → Int → List Int → List Int → List Int → Option R44) (coins0 : List Int) (most1 : Int) (v7 : Int) (v26 : Int) (v27 : Int) (out5 : List Int) (next8 : List Int) (v25 : List Int) : Option R44 :=
    (bif decide (v27 < v26) then (bif inB v27 v25.length then (idx v25 v27).bind fun x2' =>
        (bif inB x2' out5.length then (idx out5 x2').bind fun x3' =>
          (bif decide (x3' ≥ 0) then DL44_3 n f1 f2 coins0 most1 v7 v26 v27 out5 next8 v25
          else (bif inB x2' out5.length then (idx out5 x2').bind fun x4' =>
              DL44_4 n f1 f2 n.1 coins0 most1 v7 x2' v26 v27 coins0 (coins0.length : Int) 0 (out5.set (Int.toNat x2') v7) next8 v25
            else none))
        else none)
      else none)
    else f1 coins0 most1 (wr .i64 (v7 + 1)) out5 next8)
noncomputable def DL44_2 (n : Nat × Nat) (f1 : List Int → Int → Int → List Int → List Int → Option R44) (m : Nat) : List Int → Int → Int → Int → Int → List Int → List Int → List Int → Option R44 := Nat.rec (motive := fun _ => List Int → Int → Int → Int → Int → List Int → List Int → List Int → Option R44) (fun _ _ _ _ _ _ _ _ => none) (fun _ ih => DF44_2 n f1 ih) m
theorem DL44_2_succ (n : Nat × Nat) (f1 : List Int → Int → Int → List Int → List Int → Option R44) (m : Nat) : DL44_2 n f1 (m + 1) = DF44_2 n f1 (DL44_2 n f1 m) := rfl
theorem DL44_2_eq (n : Nat × Nat) (hn : n.2 = 1) (m1 : Nat) : ∀ m, L44_2 n m1 m = DL44_2 n (L44_1 n m1) m
  | 0 => by funext coins0 most1 v7 v26 v27 out5 next8 v25; kernel_rfl
  | m + 1 => by
    have ih := DL44_2_eq n hn m1 m
    funext coins0 most1 v7 v26 v27 out5 next8 v25; refine (L44_2_eq n m1 m coins0 most1 v7 v26 v27 out5 next8 v25).trans ?_
    rw [DL44_2_succ]
    unfold DF44_2
    (try simp only [ih, DL44_3_eq n hn, DL44_5_eq n hn, DL44_4_eq n hn, S52_D n hn]) <;> first | with_reducible rfl | rfl
noncomputable def DF44_1 (n : Nat × Nat) (f1 : List Int → Int → Int → List Int → List Int → Option R44) (coins0 : List Int) (most1 : Int) (v7 : Int) (out5 : List Int) (now6 : List Int) : Option R44 :=
    (bif decide ((now6.length : Int) > 0) then DL44_2 n f1 n.1 coins0 most1 v7 (now6.length : Int) 0 out5 [] now6
    else some out5)
noncomputable def DL44_1 (n : Nat × Nat) (m : Nat) : List Int → Int → Int → List Int → List Int → Option R44 := Nat.rec (motive := fun _ => List Int → Int → Int → List Int → List Int → Option R44) (fun _ _ _ _ _ => none) (fun _ ih => DF44_1 n ih) m
theorem DL44_1_succ (n : Nat × Nat) (m : Nat) : DL44_1 n (m + 1) = DF44_1 n (DL44_1 n m) := rfl
theorem DL44_1_eq (n : Nat × Nat) (hn : n.2 = 1) : ∀ m, L44_1 n m = DL44_1 n m
  | 0 => by funext coins0 most1 v7 out5 now6; kernel_rfl
  | m + 1 => by
    have ih := DL44_1_eq n hn m
    funext coins0 most1 v7 out5 now6; refine (L44_1_eq n m coins0 most1 v7 out5 now6).trans ?_
    rw [DL44_1_succ]
    unfold DF44_1
    (try simp only [ih, DL44_3_eq n hn, DL44_5_eq n hn, DL44_4_eq n hn, DL44_2_eq n hn, S52_D n hn]) <;> first | with_reducible rfl | rfl
noncomputable def D44 (n : Nat × Nat) (coins0 : List Int) (most1 : Int) : Option R44 :=
    (D52 n [-1] (wr .i64 (most1 + 1))).bind fun r1' =>
    DL44_1 n n.1 coins0 most1 0 r1' [0]
theorem S44_D (n : Nat × Nat) (hn : n.2 = 1) : S44 n = D44 n := by
  funext coins0 most1; refine (S44_eq n coins0 most1).trans ?_
  unfold D44
  (try simp only [DL44_3_eq n hn, DL44_5_eq n hn, DL44_4_eq n hn, DL44_2_eq n hn, DL44_1_eq n hn, S52_D n hn]) <;> first | with_reducible rfl | rfl
end Go.Proofs.Ytjgmfdgpgdaclaa
set_option linter.unusedVariables false
set_option linter.unusedSimpArgs false
set_option maxRecDepth 100000
namespace Go.Proofs.Ytjgmfdgpgdaclaa
open Go.Vi
/- headword/headwordlaw12.greatest -/
abbrev R45 := List Int × Int
noncomputable def c45 : Code := bodyOf Try.f45
noncomputable def an45 : Ann := (.s .l (.s .l (.s (.j [6, 7] (.j [0, 1, 6, 7] (.s (.s .l (.j [0, 1, 6, 7] .l .l)) (.j [0, 1, 6, 7] (.s .l (.s (.j [0, 1, 6, 7, 8] (.j [0, 1, 6, 7, 8] (.s (.s .l (.j [0, 1, 6, 7, 8] .l .l)) (.j [0, 1, 6, 7, 8] .l .l)) .l) .l) .l)) .l)) .l) .l) .l)))
def pk45 : List PK := [.c (.sl (.int .i64)), .c (.int .i64)]
def rk45 : List RK := [.own (.int .i64) 4, .c (.int .i64) 5]
noncomputable def rt45 (st : St) : Option R45 := rtG rk45 st
noncomputable def E45 (n : Nat × Nat) : Env := { T := tab, phi := noPhi, eff := fun _ => false, fuel := n.1, hold := n.2 }
noncomputable def kq45_1 (n : Nat × Nat) : St → Option R45 := run (E45 n) (cB (cB (cB c45))) (Ann.snd (Ann.snd (Ann.snd an45))) rt45 (fun _ _ => none) rt45
noncomputable def kc45_2 (n : Nat × Nat) : St → Option R45 := fun s => normC [6, 7] s (kq45_1 n)
noncomputable def xb45_3 (n : Nat × Nat) : Nat → St → Option R45 := fun j s => bif Nat.beq j 0 then normC [6, 7] s (kq45_1 n) else (fun _ _ => none) j s
noncomputable def F45_4 (n : Nat × Nat) : (St → Option R45) → St → Option R45 := fun K s => run (E45 n) (cA (cA (cA (cB (cB c45))))) (Ann.fst (Ann.fst (Ann.fst (Ann.snd (Ann.snd an45))))) (fun s => normC [0, 1, 6, 7] s K) (xb45_3 n) rt45 s
noncomputable def kq45_5 (n : Nat × Nat) (m1 : Nat) : St → Option R45 := run (E45 n) (cB (cA (cA (cA (cB (cB c45)))))) (Ann.snd (Ann.fst (Ann.fst (Ann.fst (Ann.snd (Ann.snd an45)))))) (fun s => normC [0, 1, 6, 7] s (loopN (F45_4 n) m1)) (xb45_3 n) rt45
noncomputable def kc45_6 (n : Nat × Nat) (m1 : Nat) : St → Option R45 := fun s => normC [0, 1, 6, 7] s (kq45_5 n m1)
noncomputable def kc45_7 (n : Nat × Nat) (m1 : Nat) : St → Option R45 := fun s => normC [0, 1, 6, 7] s (fun s => normC [0, 1, 6, 7] s (loopN (F45_4 n) m1))
noncomputable def xb45_8 (n : Nat × Nat) (m1 : Nat) : Nat → St → Option R45 := fun j s => bif Nat.beq j 1 then normC [0, 1, 6, 7] s (fun s => normC [0, 1, 6, 7] s (loopN (F45_4 n) m1)) else (xb45_3 n) j s
noncomputable def kq45_9 (n : Nat × Nat) (m1 : Nat) : St → Option R45 := run (E45 n) (cB (cB (cA (cB (cA (cA (cA (cB (cB c45))))))))) (Ann.snd (Ann.snd (Ann.fst (Ann.snd (Ann.fst (Ann.fst (Ann.fst (Ann.snd (Ann.snd an45))))))))) (kc45_7 n m1) (xb45_8 n m1) rt45
noncomputable def kc45_10 (n : Nat × Nat) (m1 : Nat) : St → Option R45 := fun s => normC [0, 1, 6, 7, 8] s (kq45_9 n m1)
noncomputable def xb45_11 (n : Nat × Nat) (m1 : Nat) : Nat → St → Option R45 := fun j s => bif Nat.beq j 2 then normC [0, 1, 6, 7, 8] s (kq45_9 n m1) else (xb45_8 n m1) j s
noncomputable def F45_12 (n : Nat × Nat) (m1 : Nat) : (St → Option R45) → St → Option R45 := fun K s => run (E45 n) (cA (cA (cA (cB (cA (cB (cA (cA (cA (cB (cB c45))))))))))) (Ann.fst (Ann.fst (Ann.fst (Ann.snd (Ann.fst (Ann.snd (Ann.fst (Ann.fst (Ann.fst (Ann.snd (Ann.snd an45))))))))))) (fun s => normC [0, 1, 6, 7, 8] s K) (xb45_11 n m1) rt45 s
noncomputable def kq45_13 (n : Nat × Nat) (m1 m2 : Nat) : St → Option R45 := run (E45 n) (cB (cA (cA (cA (cB (cA (cB (cA (cA (cA (cB (cB c45)))))))))))) (Ann.snd (Ann.fst (Ann.fst (Ann.fst (Ann.snd (Ann.fst (Ann.snd (Ann.fst (Ann.fst (Ann.fst (Ann.snd (Ann.snd an45)))))))))))) (fun s => normC [0, 1, 6, 7, 8] s (loopN (F45_12 n m1) m2)) (xb45_11 n m1) rt45
noncomputable def kc45_14 (n : Nat × Nat) (m1 m2 : Nat) : St → Option R45 := fun s => normC [0, 1, 6, 7, 8] s (kq45_13 n m1 m2)
noncomputable def kc45_15 (n : Nat × Nat) (m1 m2 : Nat) : St → Option R45 := fun s => normC [0, 1, 6, 7, 8] s (fun s => normC [0, 1, 6, 7, 8] s (loopN (F45_12 n m1) m2))
noncomputable def xb45_16 (n : Nat × Nat) (m1 m2 : Nat) : Nat → St → Option R45 := fun j s => bif Nat.beq j 3 then normC [0, 1, 6, 7, 8] s (fun s => normC [0, 1, 6, 7, 8] s (loopN (F45_12 n m1) m2)) else (xb45_11 n m1) j s
noncomputable def L45_1 (n : Nat × Nat) (m : Nat) (coins0 : List Int) (sum1 : Int) (v7 : Int) (out6 : List Int) : Option R45 := loopN (F45_4 n) m { tm := [.c (.sl (.int .i64) coins0 false), .c (.int .i64 sum1), uu, uu, uu, uu, .own 6 none false, .c (.int .i64 v7), uu, uu, uu, uu, uu, uu, uu, uu, uu, uu, uu, uu, uu, uu, uu, uu, uu, uu, uu, uu, uu, uu, uu, uu, uu, uu, uu, uu, uu, uu, uu, uu, uu], hp := (upd emp 6 (.arr (.int .i64) out6 false)) }
noncomputable def L45_2 (n : Nat × Nat) (m1 : Nat) (m : Nat) (coins0 : List Int) (sum1 : Int) (v7 : Int) (i8 : Int) (out6 : List Int) : Option R45 := loopN (F45_12 n m1) m { tm := [.c (.sl (.int .i64) coins0 false), .c (.int .i64 sum1), uu, uu, uu, uu, .own 6 none false, .c (.int .i64 v7), .c (.int .i64 i8), uu, uu, uu, uu, uu, uu, uu, uu, uu, uu, uu, uu, uu, uu, uu, uu, uu, uu, uu, uu, uu, uu, uu, uu, uu, uu, uu, uu, uu, uu, uu, uu], hp := (upd emp 6 (.arr (.int .i64) out6 false)) }
theorem L45_1_eq (n : Nat × Nat) (m1 : Nat) (coins0 : List Int) (sum1 : Int) (v7 : Int) (out6 : List Int) : L45_1 n (m1 + 1) coins0 sum1 v7 out6 =
    (bif decide (sum1 > 0) then L45_2 n m1 n.1 coins0 sum1 v7 (wr .i64 ((coins0.length : Int) - 1)) out6
    else some (out6, v7)) := by kernel_rfl
theorem L45_2_eq (n : Nat × Nat) (m1 m2 : Nat) (coins0 : List Int) (sum1 : Int) (v7 : Int) (i8 : Int) (out6 : List Int) : L45_2 n m1 (m2 + 1) coins0 sum1 v7 i8 out6 =
    (idx coins0 i8).bind fun x1' =>
    (bif decide (x1' > sum1) then L45_2 n m1 m2 coins0 sum1 v7 (wr .i64 (i8 - 1)) out6
    else (idx coins0 i8).bind fun x2' =>
      (bif inB i8 out6.length then (idx out6 i8).bind fun x3' =>
        (bif inB i8 out6.length then (idx out6 i8).bind fun x4' =>
          L45_1 n m1 coins0 (wr .i64 (sum1 - x2')) (wr .i64 (v7 + 1)) (out6.set (Int.toNat i8) (wr .i64 (x3' + 1)))
        else none)
      else none)) := by kernel_rfl
noncomputable def S45 (n : Nat × Nat) (coins0 : List Int) (sum1 : Int) : Option R45 := run (E45 n) c45 an45 rt45 (fun _ _ => none) rt45 { tm := [.c (.sl (.int .i64) coins0 false), .c (.int .i64 sum1), uu, uu, uu, uu, uu, uu, uu, uu, uu, uu, uu, uu, uu, uu, uu, uu, uu, uu, uu, uu, uu, uu, uu, uu, uu, uu, uu, uu, uu, uu, uu, uu, uu, uu, uu, uu, uu, uu, uu], hp := emp }
theorem S45_eq (n : Nat × Nat) (coins0 : List Int) (sum1 : Int) : S45 n coins0 sum1 =
    (bif decide (0 ≤ (coins0.length : Int)) && decide ((coins0.length : Int) ≤ (coins0.length : Int)) && decide ((coins0.length : Int) ≤ lim) then L45_1 n n.1 coins0 sum1 0 (List.replicate (Int.toNat (coins0.length : Int)) (0 : Int))
    else none) := by kernel_rfl
theorem S45_run (n : Nat × Nat) (xs : pksDen pk45) : S45 n xs.1 xs.2.1 = runG (E45 n) noScope c45 an45 (rtG rk45) (fun _ _ => none) (rtG rk45) (st0 pk45 xs Try.f45.ntmps) := by kernel_rfl
noncomputable def P45 (n : Nat × Nat) := phiOf pk45 rk45 (fun xs => S45 n xs.1 xs.2.1)
theorem call45 : CallOK Try.prog 45 := callOK_of Try.func45 (by kernel_rfl) (by kernel_rfl)
theorem env45 (n : Nat × Nat) : EnvOK Try.prog (E45 n) := envOK0 noPhi_ok rfl rfl
theorem par45 (n : Nat × Nat) : EnvPar (E45 n) := envPar0 noPhi_par rfl
theorem FC45 (n : Nat × Nat) : FCs Try.prog 45 (P45 n) := phiOf_FCs fun xs r h vs hv => FC.of_runG tabOK eqsOK (env45 n) (par45 n) mixed (fun _ => noScope_ok) Try.func45 (c := c45) (an := an45) (pks := pk45) (rks := rk45) (by kernel_rfl) (by kernel_rfl) hv ((S45_run n xs).symm.trans h)
end Go.Proofs.Ytjgmfdgpgdaclaa
set_option linter.unusedVariables false
set_option linter.unusedSimpArgs false
set_option maxRecDepth 100000
namespace Go.Proofs.Ytjgmfdgpgdaclaa
open Go.Vi
/-D 45 -/
noncomputable def DF45_2 (n : Nat × Nat) (f1 : List Int → Int → Int → List Int → Option R45) (f2 : List Int → Int → Int → Int → List Int → Option R45) (coins0 : List Int) (sum1 : Int) (v7 : Int) (i8 : Int) (out6 : List Int) : Option R45 :=
    (idx coins0 i8).bind fun x1' =>
    (bif decide (x1' > sum1) then f2 coins0 sum1 v7 (wr .i64 (i8 - 1)) out6
    else (idx coins0 i8).bind fun x2' =>
      (bif inB i8 out6.length then (idx out6 i8).bind fun x3' =>
        (bif inB i8 out6.length then (idx out6 i8).bind fun x4' =>
          f1 coins0 (wr .i64 (sum1 - x2')) (wr .i64 (v7 + 1)) (out6.set (Int.toNat i8) (wr .i64 (x3' + 1)))
        else none)
      else none))
noncomputable def DL45_2 (n : Nat × Nat) (f1 : List Int → Int → Int → List Int → Option R45) (m : Nat) : List Int → Int → Int → Int → List Int → Option R45 := Nat.rec (motive := fun _ => List Int → Int → Int → Int → List Int → Option R45) (fun _ _ _ _ _ => none) (fun _ ih => DF45_2 n f1 ih) m
theorem DL45_2_succ (n : Nat × Nat) (f1 : List Int → Int → Int → List Int → Option R45) (m : Nat) : DL45_2 n f1 (m + 1) = DF45_2 n f1 (DL45_2 n f1 m) := rfl
theorem DL45_2_eq (n : Nat × Nat) (hn : n.2 = 1) (m1 : Nat) : ∀ m, L45_2 n m1 m = DL45_2 n (L45_1 n m1) m
  | 0 => by funext coins0 sum1 v7 i8 out6; kernel_rfl
  | m + 1 => by
    have ih := DL45_2_eq n hn m1 m
    funext coins0 sum1 v7 i8 out6; refine (L45_2_eq n m1 m coins0 sum1 v7 i8 out6).trans ?_
    rw [DL45_2_succ]
    unfold DF45_2
    (try simp only [ih]) <;> first | with_reducible rfl | rfl
noncomputable def DF45_1 (n : Nat × Nat) (f1 : List Int → Int → Int → List Int → Option R45) (coins0 : List Int) (sum1 : Int) (v7 : Int) (out6 : List Int) : Option R45 :=
    (bif decide (sum1 > 0) then DL45_2 n f1 n.1 coins0 sum1 v7 (wr .i64 ((coins0.length : Int) - 1)) out6
    else some (out6, v7))
noncomputable def DL45_1 (n : Nat × Nat) (m : Nat) : List Int → Int → Int → List Int → Option R45 := Nat.rec (motive := fun _ => List Int → Int → Int → List Int → Option R45) (fun _ _ _ _ => none) (fun _ ih => DF45_1 n ih) m
theorem DL45_1_succ (n : Nat × Nat) (m : Nat) : DL45_1 n (m + 1) = DF45_1 n (DL45_1 n m) := rfl
theorem DL45_1_eq (n : Nat × Nat) (hn : n.2 = 1) : ∀ m, L45_1 n m = DL45_1 n m
  | 0 => by funext coins0 sum1 v7 out6; kernel_rfl
  | m + 1 => by
    have ih := DL45_1_eq n hn m
    funext coins0 sum1 v7 out6; refine (L45_1_eq n m coins0 sum1 v7 out6).trans ?_
    rw [DL45_1_succ]
    unfold DF45_1
    (try simp only [ih, DL45_2_eq n hn]) <;> first | with_reducible rfl | rfl
noncomputable def D45 (n : Nat × Nat) (coins0 : List Int) (sum1 : Int) : Option R45 :=
    (bif decide (0 ≤ (coins0.length : Int)) && decide ((coins0.length : Int) ≤ (coins0.length : Int)) && decide ((coins0.length : Int) ≤ lim) then DL45_1 n n.1 coins0 sum1 0 (List.replicate (Int.toNat (coins0.length : Int)) (0 : Int))
    else none)
theorem S45_D (n : Nat × Nat) (hn : n.2 = 1) : S45 n = D45 n := by
  funext coins0 sum1; refine (S45_eq n coins0 sum1).trans ?_
  unfold D45
  (try simp only [DL45_2_eq n hn, DL45_1_eq n hn]) <;> first | with_reducible rfl | rfl
end Go.Proofs.Ytjgmfdgpgdaclaa
set_option linter.unusedVariables false
set_option linter.unusedSimpArgs false
set_option maxRecDepth 100000
namespace Go.Proofs.Ytjgmfdgpgdaclaa
open Go.Vi
/- headword/headwordlaw12.worth -/
abbrev R51 := Int × Int × Bool
noncomputable def c51 : Code := bodyOf Try.f51
noncomputable def an51 : Ann := (.s .l (.s (.s .l (.j [0, 1, 26, 27] .l .l)) (.s .l (.s (.s .l (.j [7, 8] (.j [0, 7, 8, 16, 17, 18, 26, 27] (.s .l (.s (.j [0, 7, 8, 16, 17, 18, 26, 27] .l .l) (.s (.j [0, 7, 8, 16, 17, 18, 26, 27] (.s .l (.s (.s .l (.j [0, 7, 8, 9, 10, 16, 17, 18, 26, 27] .l .l)) .l)) .l) .l))) .l) .l)) .l))))
def pk51 : List PK := [.c (.sl (.int .i64)), .c (.sl (.int .i64))]
def rk51 : List RK := [.c (.int .i64) 4, .c (.int .i64) 5, .c .bool 6]
noncomputable def rt51 (st : St) : Option R51 := rtG rk51 st
noncomputable def E51 (n : Nat × Nat) : Env := { T := tab, phi := noPhi, eff := fun _ => false, fuel := n.1, hold := n.2 }
noncomputable def kq51_1 (n : Nat × Nat) : St → Option R51 := run (E51 n) (cB (cB c51)) (Ann.snd (Ann.snd an51)) rt51 (fun _ _ => none) rt51
noncomputable def kc51_2 (n : Nat × Nat) : St → Option R51 := fun s => normC [0, 1, 26, 27] s (kq51_1 n)
noncomputable def kq51_3 (n : Nat × Nat) : St → Option R51 := run (E51 n) (cB (cB (cB (cB c51)))) (Ann.snd (Ann.snd (Ann.snd (Ann.snd an51)))) rt51 (fun _ _ => none) rt51
noncomputable def kc51_4 (n : Nat × Nat) : St → Option R51 := fun s => normC [7, 8] s (kq51_3 n)
noncomputable def xb51_5 (n : Nat × Nat) : Nat → St → Option R51 := fun j s => bif Nat.beq j 0 then normC [7, 8] s (kq51_3 n) else (fun _ _ => none) j s
noncomputable def F51_6 (n : Nat × Nat) : (St → Option R51) → St → Option R51 := fun K s => run (E51 n) (cA (cA (cB (cA (cB (cB (cB c51))))))) (Ann.fst (Ann.fst (Ann.snd (Ann.fst (Ann.snd (Ann.snd (Ann.snd an51))))))) (fun s => normC [0, 7, 8, 16, 17, 18, 26, 27] s K) (xb51_5 n) rt51 s
noncomputable def kq51_7 (n : Nat × Nat) (m1 : Nat) : St → Option R51 := run (E51 n) (cB (cB (cA (cA (cB (cA (cB (cB (cB c51))))))))) (Ann.snd (Ann.snd (Ann.fst (Ann.fst (Ann.snd (Ann.fst (Ann.snd (Ann.snd (Ann.snd an51))))))))) (fun s => normC [0, 7, 8, 16, 17, 18, 26, 27] s (loopN (F51_6 n) m1)) (xb51_5 n) rt51
noncomputable def kc51_8 (n : Nat × Nat) (m1 : Nat) : St → Option R51 := fun s => normC [0, 7, 8, 16, 17, 18, 26, 27] s (kq51_7 n m1)
noncomputable def kq51_9 (n : Nat × Nat) (m1 : Nat) : St → Option R51 := run (E51 n) (cB (cB (cB (cA (cA (cB (cA (cB (cB (cB c51)))))))))) (Ann.snd (Ann.snd (Ann.snd (Ann.fst (Ann.fst (Ann.snd (Ann.fst (Ann.snd (Ann.snd (Ann.snd an51)))))))))) (fun s => normC [0, 7, 8, 16, 17, 18, 26, 27] s (loopN (F51_6 n) m1)) (xb51_5 n) rt51
noncomputable def kc51_10 (n : Nat × Nat) (m1 : Nat) : St → Option R51 := fun s => normC [0, 7, 8, 16, 17, 18, 26, 27] s (kq51_9 n m1)
noncomputable def xb51_11 (n : Nat × Nat) (m1 : Nat) : Nat → St → Option R51 := fun j s => bif Nat.beq j 1 then normC [0, 7, 8, 16, 17, 18, 26, 27] s (kq51_9 n m1) else (xb51_5 n) j s
noncomputable def kq51_12 (n : Nat × Nat) (m1 : Nat) : St → Option R51 := run (E51 n) (cB (cB (cA (cA (cB (cB (cA (cA (cB (cA (cB (cB (cB c51))))))))))))) (Ann.snd (Ann.snd (Ann.fst (Ann.fst (Ann.snd (Ann.snd (Ann.fst (Ann.fst (Ann.snd (Ann.fst (Ann.snd (Ann.snd (Ann.snd an51))))))))))))) (kc51_10 n m1) (xb51_11 n m1) rt51
noncomputable def kc51_13 (n : Nat × Nat) (m1 : Nat) : St → Option R51 := fun s => normC [0, 7, 8, 9, 10, 16, 17, 18, 26, 27] s (kq51_12 n m1)
noncomputable def L51_1 (n : Nat × Nat) (m : Nat) (coins0 : List Int) (sum7 : Int) (many8 : Int) (v16 : List Int) (v17 : Int) (v18 : Int) : Option R51 := loopN (F51_6 n) m { tm := [.c (.sl (.int .i64) coins0 false), uu, uu, uu, uu, uu, uu, .c (.int .i64 sum7), .c (.int .i64 many8), uu, uu, uu, uu, uu, uu, uu, .c (.sl (.int .i64) v16 false), .c (.int .i64 v17), .c (.int .i64 v18), uu, uu, uu, uu, uu, uu, uu, uu, uu, uu, uu, uu, uu, uu, uu, uu, uu, uu, uu, uu, uu, uu, uu, uu], hp := emp }
theorem L51_1_eq (n : Nat × Nat) (m1 : Nat) (coins0 : List Int) (sum7 : Int) (many8 : Int) (v16 : List Int) (v17 : Int) (v18 : Int) : L51_1 n (m1 + 1) coins0 sum7 many8 v16 v17 v18 =
    (bif decide (v18 < v17) then (idx v16 v18).bind fun x1' =>
      ((bif (decide (x1' < 0) == false) then some (decide (x1' > 1000))
        else some true)).bind fun b2' =>
      (bif b2' then some (0, 0, false)
      else (idx coins0 v18).bind fun x3' =>
        L51_1 n m1 coins0 (wr .i64 (sum7 + (wr .i64 (x1' * x3')))) (wr .i64 (many8 + x1')) v16 v17 (wr .i64 (v18 + 1)))
    else some (sum7, many8, true)) := by kernel_rfl
noncomputable def S51 (n : Nat × Nat) (coins0 : List Int) (payment1 : List Int) : Option R51 := run (E51 n) c51 an51 rt51 (fun _ _ => none) rt51 { tm := [.c (.sl (.int .i64) coins0 false), .c (.sl (.int .i64) payment1 false), uu, uu, uu, uu, uu, uu, uu, uu, uu, uu, uu, uu, uu, uu, uu, uu, uu, uu, uu, uu, uu, uu, uu, uu, uu, uu, uu, uu, uu, uu, uu, uu, uu, uu, uu, uu, uu, uu, uu, uu, uu], hp := emp }
theorem S51_eq (n : Nat × Nat) (coins0 : List Int) (payment1 : List Int) : S51 n coins0 payment1 =
    (bif ((payment1.length : Int) != (coins0.length : Int)) then some (0, 0, false)
    else L51_1 n n.1 coins0 0 0 payment1 (payment1.length : Int) 0) := by kernel_rfl
theorem S51_run (n : Nat × Nat) (xs : pksDen pk51) : S51 n xs.1 xs.2.1 = runG (E51 n) noScope c51 an51 (rtG rk51) (fun _ _ => none) (rtG rk51) (st0 pk51 xs Try.f51.ntmps) := by kernel_rfl
noncomputable def P51 (n : Nat × Nat) := phiOf pk51 rk51 (fun xs => S51 n xs.1 xs.2.1)
theorem call51 : CallOK Try.prog 51 := callOK_of Try.func51 (by kernel_rfl) (by kernel_rfl)
theorem env51 (n : Nat × Nat) : EnvOK Try.prog (E51 n) := envOK0 noPhi_ok rfl rfl
theorem par51 (n : Nat × Nat) : EnvPar (E51 n) := envPar0 noPhi_par rfl
theorem FC51 (n : Nat × Nat) : FCs Try.prog 51 (P51 n) := phiOf_FCs fun xs r h vs hv => FC.of_runG tabOK eqsOK (env51 n) (par51 n) mixed (fun _ => noScope_ok) Try.func51 (c := c51) (an := an51) (pks := pk51) (rks := rk51) (by kernel_rfl) (by kernel_rfl) hv ((S51_run n xs).symm.trans h)
end Go.Proofs.Ytjgmfdgpgdaclaa
set_option linter.unusedVariables false
set_option linter.unusedSimpArgs false
set_option maxRecDepth 100000
namespace Go.Proofs.Ytjgmfdgpgdaclaa
open Go.Vi
/-D 51 -/
noncomputable def DF51_1 (n : Nat × Nat) (f1 : List Int → Int → Int → List Int → Int → Int → Option R51) (coins0 : List Int) (sum7 : Int) (many8 : Int) (v16 : List Int) (v17 : Int) (v18 : Int) : Option R51 :=
    (bif decide (v18 < v17) then (idx v16 v18).bind fun x1' =>
      ((bif (decide (x1' < 0) == false) then some (decide (x1' > 1000))
        else some true)).bind fun b2' =>
      (bif b2' then some (0, 0, false)
      else (idx coins0 v18).bind fun x3' =>
        f1 coins0 (wr .i64 (sum7 + (wr .i64 (x1' * x3')))) (wr .i64 (many8 + x1')) v16 v17 (wr .i64 (v18 + 1)))
    else some (sum7, many8, true))
noncomputable def DL51_1 (n : Nat × Nat) (m : Nat) : List Int → Int → Int → List Int → Int → Int → Option R51 := Nat.rec (motive := fun _ => List Int → Int → Int → List Int → Int → Int → Option R51) (fun _ _ _ _ _ _ => none) (fun _ ih => DF51_1 n ih) m
theorem DL51_1_succ (n : Nat × Nat) (m : Nat) : DL51_1 n (m + 1) = DF51_1 n (DL51_1 n m) := rfl
theorem DL51_1_eq (n : Nat × Nat) (hn : n.2 = 1) : ∀ m, L51_1 n m = DL51_1 n m
  | 0 => by funext coins0 sum7 many8 v16 v17 v18; kernel_rfl
  | m + 1 => by
    have ih := DL51_1_eq n hn m
    funext coins0 sum7 many8 v16 v17 v18; refine (L51_1_eq n m coins0 sum7 many8 v16 v17 v18).trans ?_
    rw [DL51_1_succ]
    unfold DF51_1
    (try simp only [ih]) <;> first | with_reducible rfl | rfl
noncomputable def D51 (n : Nat × Nat) (coins0 : List Int) (payment1 : List Int) : Option R51 :=
    (bif ((payment1.length : Int) != (coins0.length : Int)) then some (0, 0, false)
    else DL51_1 n n.1 coins0 0 0 payment1 (payment1.length : Int) 0)
theorem S51_D (n : Nat × Nat) (hn : n.2 = 1) : S51 n = D51 n := by
  funext coins0 payment1; refine (S51_eq n coins0 payment1).trans ?_
  unfold D51
  (try simp only [DL51_1_eq n hn]) <;> first | with_reducible rfl | rfl
end Go.Proofs.Ytjgmfdgpgdaclaa
set_option linter.unusedVariables false
set_option linter.unusedSimpArgs false
set_option maxRecDepth 100000
namespace Go.Proofs.Ytjgmfdgpgdaclaa
open Go.Vi
/- headword/headwordref12.in -/
abbrev R65 := Bool
noncomputable def c65 : Code := bodyOf Try.f65
noncomputable def an65 : Ann := .l
def pk65 : List PK := [.c (.int .i64), .c (.int .i64), .c (.int .i64)]
def rk65 : List RK := [.c .bool 6]
noncomputable def rt65 (st : St) : Option R65 := rtG rk65 st
noncomputable def E65 (n : Nat × Nat) : Env := { T := tab, phi := noPhi, eff := fun _ => false, fuel := n.1, hold := n.2 }
noncomputable def S65 (n : Nat × Nat) (v0 : Int) (lo1 : Int) (hi2 : Int) : Option R65 := run (E65 n) c65 an65 rt65 (fun _ _ => none) rt65 { tm := [.c (.int .i64 v0), .c (.int .i64 lo1), .c (.int .i64 hi2), uu, uu, uu, uu, uu, uu, uu, uu, uu, uu, uu, uu], hp := emp }
theorem S65_eq (n : Nat × Nat) (v0 : Int) (lo1 : Int) (hi2 : Int) : S65 n v0 lo1 hi2 =
    ((bif (decide (v0 ≥ lo1) == true) then some (decide (v0 ≤ hi2))
      else some false)).bind fun b1' =>
    some b1' := by kernel_rfl
theorem S65_run (n : Nat × Nat) (xs : pksDen pk65) : S65 n xs.1 xs.2.1 xs.2.2.1 = runG (E65 n) noScope c65 an65 (rtG rk65) (fun _ _ => none) (rtG rk65) (st0 pk65 xs Try.f65.ntmps) := by kernel_rfl
noncomputable def P65 (n : Nat × Nat) := phiOf pk65 rk65 (fun xs => S65 n xs.1 xs.2.1 xs.2.2.1)
theorem call65 : CallOK Try.prog 65 := callOK_of Try.func65 (by kernel_rfl) (by kernel_rfl)
theorem env65 (n : Nat × Nat) : EnvOK Try.prog (E65 n) := envOK0 noPhi_ok rfl rfl
theorem par65 (n : Nat × Nat) : EnvPar (E65 n) := envPar0 noPhi_par rfl
theorem FC65 (n : Nat × Nat) : FCs Try.prog 65 (P65 n) := phiOf_FCs fun xs r h vs hv => FC.of_runG tabOK eqsOK (env65 n) (par65 n) mixed (fun _ => noScope_ok) Try.func65 (c := c65) (an := an65) (pks := pk65) (rks := rk65) (by kernel_rfl) (by kernel_rfl) hv ((S65_run n xs).symm.trans h)
end Go.Proofs.Ytjgmfdgpgdaclaa
set_option linter.unusedVariables false
set_option linter.unusedSimpArgs false
set_option maxRecDepth 100000
namespace Go.Proofs.Ytjgmfdgpgdaclaa
open Go.Vi
/- headword/headwordref12.Check -/
abbrev R26 := Int
noncomputable def c26 : Code := bodyOf Try.f26
noncomputable def an26 : Ann := (.s .l (.s (.s .l (.j [0, 25, 26, 27, 28, 29, 30, 31, 32, 33, 34] .l .l)) (.s (.s .l (.j [0, 25, 26, 27, 28, 29, 30, 31, 32, 33, 34] .l .l)) (.s (.s .l (.j [0] (.j [0, 3, 25, 26, 27, 28, 29, 30, 31, 32, 33, 34] (.s (.s .l (.j [0, 3, 25, 26, 27, 28, 29, 30, 31, 32, 33, 34] .l .l)) (.s (.j [0, 3, 25, 26, 27, 28, 29, 30, 31, 32, 33, 34] (.s (.s .l (.j [0, 3, 25, 26, 27, 28, 29, 30, 31, 32, 33, 34] .l .l)) (.s .l (.j [0, 3, 25, 26, 27, 28, 29, 30, 31, 32, 33, 34] .l .l))) .l) .l)) .l) .l)) (.s (.s .l (.j [] .l .l)) .l)))))
def pk26 : List PK := [.c (.sl (.int .i64))]
def rk26 : List RK := [.c (.int .i64) 2]
noncomputable def rt26 (st : St) : Option R26 := rtG rk26 st
noncomputable def E26 (n : Nat × Nat) : Env := { T := tab, phi := (consPhi 65 (fun _ => true) (P65 n) noPhi), eff := fun _ => false, fuel := n.1, hold := n.2 }
noncomputable def kq26_1 (n : Nat × Nat) : St → Option R26 := run (E26 n) (cB (cB c26)) (Ann.snd (Ann.snd an26)) rt26 (fun _ _ => none) rt26
noncomputable def kc26_2 (n : Nat × Nat) : St → Option R26 := fun s => normC [0, 25, 26, 27, 28, 29, 30, 31, 32, 33, 34] s (kq26_1 n)
noncomputable def kq26_3 (n : Nat × Nat) : St → Option R26 := run (E26 n) (cB (cB (cB c26))) (Ann.snd (Ann.snd (Ann.snd an26))) rt26 (fun _ _ => none) rt26
noncomputable def kc26_4 (n : Nat × Nat) : St → Option R26 := fun s => normC [0, 25, 26, 27, 28, 29, 30, 31, 32, 33, 34] s (kq26_3 n)
noncomputable def kq26_5 (n : Nat × Nat) : St → Option R26 := run (E26 n) (cB (cB (cB (cB c26)))) (Ann.snd (Ann.snd (Ann.snd (Ann.snd an26)))) rt26 (fun _ _ => none) rt26
noncomputable def kc26_6 (n : Nat × Nat) : St → Option R26 := fun s => normC [0] s (kq26_5 n)
noncomputable def xb26_7 (n : Nat × Nat) : Nat → St → Option R26 := fun j s => bif Nat.beq j 0 then normC [0] s (kq26_5 n) else (fun _ _ => none) j s
noncomputable def F26_8 (n : Nat × Nat) : (St → Option R26) → St → Option R26 := fun K s => run (E26 n) (cA (cA (cB (cA (cB (cB (cB c26))))))) (Ann.fst (Ann.fst (Ann.snd (Ann.fst (Ann.snd (Ann.snd (Ann.snd an26))))))) (fun s => normC [0, 3, 25, 26, 27, 28, 29, 30, 31, 32, 33, 34] s K) (xb26_7 n) rt26 s
noncomputable def kq26_9 (n : Nat × Nat) (m1 : Nat) : St → Option R26 := run (E26 n) (cB (cA (cA (cB (cA (cB (cB (cB c26)))))))) (Ann.snd (Ann.fst (Ann.fst (Ann.snd (Ann.fst (Ann.snd (Ann.snd (Ann.snd an26)))))))) (fun s => normC [0, 3, 25, 26, 27, 28, 29, 30, 31, 32, 33, 34] s (loopN (F26_8 n) m1)) (xb26_7 n) rt26
noncomputable def kc26_10 (n : Nat × Nat) (m1 : Nat) : St → Option R26 := fun s => normC [0, 3, 25, 26, 27, 28, 29, 30, 31, 32, 33, 34] s (kq26_9 n m1)
noncomputable def kq26_11 (n : Nat × Nat) (m1 : Nat) : St → Option R26 := run (E26 n) (cB (cB (cA (cA (cB (cA (cB (cB (cB c26))))))))) (Ann.snd (Ann.snd (Ann.fst (Ann.fst (Ann.snd (Ann.fst (Ann.snd (Ann.snd (Ann.snd an26))))))))) (fun s => normC [0, 3, 25, 26, 27, 28, 29, 30, 31, 32, 33, 34] s (loopN (F26_8 n) m1)) (xb26_7 n) rt26
noncomputable def kc26_12 (n : Nat × Nat) (m1 : Nat) : St → Option R26 := fun s => normC [0, 3, 25, 26, 27, 28, 29, 30, 31, 32, 33, 34] s (kq26_11 n m1)
noncomputable def xb26_13 (n : Nat × Nat) (m1 : Nat) : Nat → St → Option R26 := fun j s => bif Nat.beq j 1 then normC [0, 3, 25, 26, 27, 28, 29, 30, 31, 32, 33, 34] s (kq26_11 n m1) else (xb26_7 n) j s
noncomputable def kq26_14 (n : Nat × Nat) (m1 : Nat) : St → Option R26 := run (E26 n) (cB (cA (cA (cB (cA (cA (cB (cA (cB (cB (cB c26))))))))))) (Ann.snd (Ann.fst (Ann.fst (Ann.snd (Ann.fst (Ann.fst (Ann.snd (Ann.fst (Ann.snd (Ann.snd (Ann.snd an26))))))))))) (kc26_12 n m1) (xb26_13 n m1) rt26
noncomputable def kc26_15 (n : Nat × Nat) (m1 : Nat) : St → Option R26 := fun s => normC [0, 3, 25, 26, 27, 28, 29, 30, 31, 32, 33, 34] s (kq26_14 n m1)
noncomputable def kc26_16 (n : Nat × Nat) (m1 : Nat) : St → Option R26 := fun s => normC [0, 3, 25, 26, 27, 28, 29, 30, 31, 32, 33, 34] s (kc26_12 n m1)
noncomputable def kq26_17 (n : Nat × Nat) : St → Option R26 := run (E26 n) (cB (cB (cB (cB (cB c26))))) (Ann.snd (Ann.snd (Ann.snd (Ann.snd (Ann.snd an26))))) rt26 (fun _ _ => none) rt26
noncomputable def kc26_18 (n : Nat × Nat) : St → Option R26 := fun s => normC [] s (kq26_17 n)
noncomputable def L26_1 (n : Nat × Nat) (m : Nat) (coins0 : List Int) (i3 : Int) : Option R26 := loopN (F26_8 n) m { tm := [.c (.sl (.int .i64) coins0 false), uu, uu, .c (.int .i64 i3), uu, uu, uu, uu, uu, uu, uu, uu, uu, uu, uu, uu, uu, uu, uu, uu, uu, uu, uu, uu, uu, uu, uu, uu, uu, uu, uu, uu, uu, uu, uu, uu, uu, uu, uu, uu], hp := emp }
theorem L26_1_eq (n : Nat × Nat) (m1 : Nat) (coins0 : List Int) (i3 : Int) : L26_1 n (m1 + 1) coins0 i3 =
    (bif decide (i3 < (coins0.length : Int)) then (idx coins0 i3).bind fun x1' =>
      (S65 n x1' 1 40).bind fun r2' =>
      (bif (!r2') then some 1
      else ((bif (decide (i3 > 0) == true) then (idx coins0 i3).bind fun x3' =>
            (idx coins0 (wr .i64 (i3 - 1))).bind fun x4' =>
            some (decide (x3' ≤ x4'))
          else some false)).bind fun b5' =>
        (bif b5' then some 7
        else L26_1 n m1 coins0 (wr .i64 (i3 + 1))))
    else (idx coins0 0).bind fun x6' =>
      (bif (x6' != 1) then some 5
      else some 0)) := by kernel_rfl
noncomputable def S26 (n : Nat × Nat) (coins0 : List Int) : Option R26 := run (E26 n) c26 an26 rt26 (fun _ _ => none) rt26 { tm := [.c (.sl (.int .i64) coins0 false), uu, uu, uu, uu, uu, uu, uu, uu, uu, uu, uu, uu, uu, uu, uu, uu, uu, uu, uu, uu, uu, uu, uu, uu, uu, uu, uu, uu, uu, uu, uu, uu, uu, uu, uu, uu, uu, uu, uu], hp := emp }
theorem S26_eq (n : Nat × Nat) (coins0 : List Int) : S26 n coins0 =
    (bif ((coins0.length : Int) == 0) then some 4
    else (bif decide ((coins0.length : Int) > 6) then some 3
      else L26_1 n n.1 coins0 0)) := by kernel_rfl
theorem S26_run (n : Nat × Nat) (xs : pksDen pk26) : S26 n xs.1 = runG (E26 n) noScope c26 an26 (rtG rk26) (fun _ _ => none) (rtG rk26) (st0 pk26 xs Try.f26.ntmps) := by kernel_rfl
noncomputable def P26 (n : Nat × Nat) := phiOf pk26 rk26 (fun xs => S26 n xs.1)
theorem call26 : CallOK Try.prog 26 := callOK_of Try.func26 (by kernel_rfl) (by kernel_rfl)
theorem env26 (n : Nat × Nat) : EnvOK Try.prog (E26 n) := envOK0 (consPhi_ok (FC65 n) call65 noPhi_ok) rfl rfl
theorem par26 (n : Nat × Nat) : EnvPar (E26 n) := envPar0 (consPhi_par phiOf_Par1 noPhi_par) rfl
theorem FC26 (n : Nat × Nat) : FCs Try.prog 26 (P26 n) := phiOf_FCs fun xs r h vs hv => FC.of_runG tabOK eqsOK (env26 n) (par26 n) mixed (fun _ => noScope_ok) Try.func26 (c := c26) (an := an26) (pks := pk26) (rks := rk26) (by kernel_rfl) (by kernel_rfl) hv ((S26_run n xs).symm.trans h)
end Go.Proofs.Ytjgmfdgpgdaclaa
set_option linter.unusedVariables false
set_option linter.unusedSimpArgs false
set_option maxRecDepth 100000
namespace Go.Proofs.Ytjgmfdgpgdaclaa
open Go.Vi
/- headword/headwordref12.summed -/
abbrev R58 := Int
noncomputable def c58 : Code := bodyOf Try.f58
noncomputable def an58 : Ann := (.s .l (.s .l (.s (.s .l (.j [5] .l .l)) .l)))
def pk58 : List PK := [.c (.sl (.int .i64)), .c (.int .i64)]
def rk58 : List RK := [.c (.int .i64) 4]
noncomputable def rt58 (st : St) : Option R58 := rtG rk58 st
noncomputable def E58 (n : Nat × Nat) : Env := { T := tab, phi := (consPhi 26 (fun _ => true) (P26 n) (consPhi 65 (fun _ => true) (P65 n) noPhi)), eff := fun _ => false, fuel := n.1, hold := n.2 }
noncomputable def kq58_1 (n : Nat × Nat) : St → Option R58 := run (E58 n) (cB (cB (cB c58))) (Ann.snd (Ann.snd (Ann.snd an58))) rt58 (fun _ _ => none) rt58
noncomputable def kc58_2 (n : Nat × Nat) : St → Option R58 := fun s => normC [5] s (kq58_1 n)
noncomputable def S58 (n : Nat × Nat) (coins0 : List Int) (sum1 : Int) : Option R58 := run (E58 n) c58 an58 rt58 (fun _ _ => none) rt58 { tm := [.c (.sl (.int .i64) coins0 false), .c (.int .i64 sum1), uu, uu, uu, uu, uu, uu, uu, uu, uu, uu, uu, uu, uu, uu], hp := emp }
theorem S58_eq (n : Nat × Nat) (coins0 : List Int) (sum1 : Int) : S58 n coins0 sum1 =
    (S26 n coins0).bind fun r1' =>
    ((bif ((r1' == 0) == true) then (S65 n sum1 0 200).bind fun r2' =>
        some (!r2')
      else some false)).bind fun b3' =>
    (bif b3' then some 1
    else some r1') := by kernel_rfl
theorem S58_run (n : Nat × Nat) (xs : pksDen pk58) : S58 n xs.1 xs.2.1 = runG (E58 n) noScope c58 an58 (rtG rk58) (fun _ _ => none) (rtG rk58) (st0 pk58 xs Try.f58.ntmps) := by kernel_rfl
noncomputable def P58 (n : Nat × Nat) := phiOf pk58 rk58 (fun xs => S58 n xs.1 xs.2.1)
theorem call58 : CallOK Try.prog 58 := callOK_of Try.func58 (by kernel_rfl) (by kernel_rfl)
theorem env58 (n : Nat × Nat) : EnvOK Try.prog (E58 n) := envOK0 (consPhi_ok (FC26 n) call26 (consPhi_ok (FC65 n) call65 noPhi_ok)) rfl rfl
theorem par58 (n : Nat × Nat) : EnvPar (E58 n) := envPar0 (consPhi_par phiOf_Par1 (consPhi_par phiOf_Par1 noPhi_par)) rfl
theorem FC58 (n : Nat × Nat) : FCs Try.prog 58 (P58 n) := phiOf_FCs fun xs r h vs hv => FC.of_runG tabOK eqsOK (env58 n) (par58 n) mixed (fun _ => noScope_ok) Try.func58 (c := c58) (an := an58) (pks := pk58) (rks := rk58) (by kernel_rfl) (by kernel_rfl) hv ((S58_run n xs).symm.trans h)
end Go.Proofs.Ytjgmfdgpgdaclaa
set_option linter.unusedVariables false
set_option linter.unusedSimpArgs false
set_option maxRecDepth 100000
namespace Go.Proofs.Ytjgmfdgpgdaclaa
open Go.Vi
/- headword/headwordref12.few -/
abbrev R59 := List Int
noncomputable def c59 : Code := bodyOf Try.f59
noncomputable def an59 : Ann := (.s .l (.s .l (.s (.s .l (.j [0, 1, 5, 37, 38, 39, 40, 41, 42, 56, 57, 58, 59, 60] (.j [0, 1, 5, 6, 37, 38, 39, 40, 41, 42, 56, 57, 58, 59, 60] (.s (.s .l (.j [0, 1, 5, 6, 37, 38, 39, 40, 41, 42, 56, 57, 58, 59, 60] .l .l)) (.s (.j [0, 1, 5, 6, 37, 38, 39, 40, 41, 42, 56, 57, 58, 59, 60] .l .l) .l)) .l) .l)) (.s (.s .l (.j [5] (.j [0, 1, 5, 7, 37, 38, 39, 40, 41, 42, 56, 57, 58, 59, 60] (.s (.s .l (.j [0, 1, 5, 7, 37, 38, 39, 40, 41, 42, 56, 57, 58, 59, 60] .l .l)) (.s (.j [0, 1, 5, 7, 37, 38, 39, 40, 41, 42, 56, 57, 58, 59, 60] (.s .l (.j [0, 1, 5, 7, 37, 38, 39, 40, 41, 42, 56, 57, 58, 59, 60] (.j [0, 1, 5, 7, 8, 37, 38, 39, 40, 41, 42, 56, 57, 58, 59, 60] (.s (.s .l (.j [0, 1, 5, 7, 8, 37, 38, 39, 40, 41, 42, 56, 57, 58, 59, 60] .l .l)) (.s (.j [0, 1, 5, 7, 8, 37, 38, 39, 40, 41, 42, 56, 57, 58, 59, 60] (.s .l (.j [0, 1, 5, 7, 8, 37, 38, 39, 40, 41, 42, 56, 57, 58, 59, 60] (.j [0, 1, 5, 7, 8, 9, 37, 38, 39, 40, 41, 42, 56, 57, 58, 59, 60] (.s (.s .l (.j [0, 1, 5, 7, 8, 9, 37, 38, 39, 40, 41, 42, 56, 57, 58, 59, 60] .l .l)) (.j [] (.j [0, 1, 5, 7, 8, 9, 37, 38, 39, 40, 41, 42, 56, 57, 58, 59, 60] (.s .l (.s .l (.j [0, 1, 5, 7, 8, 9, 37, 38, 39, 40, 41, 42, 56, 57, 58, 59, 60] .l .l))) .l) .l)) .l) .l)) .l) .l)) .l) .l)) .l) .l)) .l) .l)) .l))))
def pk59 : List PK := [.c (.sl (.int .i64)), .c (.int .i64)]
def rk59 : List RK := [.own (.int .i64) 4]
noncomputable def rt59 (st : St) : Option R59 := rtG rk59 st
noncomputable def E59 (n : Nat × Nat) : Env := { T := tab, phi := noPhi, eff := fun _ => false, fuel := n.1, hold := n.2 }
noncomputable def kq59_1 (n : Nat × Nat) : St → Option R59 := run (E59 n) (cB (cB (cB c59))) (Ann.snd (Ann.snd (Ann.snd an59))) rt59 (fun _ _ => none) rt59
noncomputable def kc59_2 (n : Nat × Nat) : St → Option R59 := fun s => normC [0, 1, 5, 37, 38, 39, 40, 41, 42, 56, 57, 58, 59, 60] s (kq59_1 n)
noncomputable def xb59_3 (n : Nat × Nat) : Nat → St → Option R59 := fun j s => bif Nat.beq j 0 then normC [0, 1, 5, 37, 38, 39, 40, 41, 42, 56, 57, 58, 59, 60] s (kq59_1 n) else (fun _ _ => none) j s
noncomputable def F59_4 (n : Nat × Nat) : (St → Option R59) → St → Option R59 := fun K s => run (E59 n) (cA (cA (cB (cA (cB (cB c59)))))) (Ann.fst (Ann.fst (Ann.snd (Ann.fst (Ann.snd (Ann.snd an59)))))) (fun s => normC [0, 1, 5, 6, 37, 38, 39, 40, 41, 42, 56, 57, 58, 59, 60] s K) (xb59_3 n) rt59 s
noncomputable def kq59_5 (n : Nat × Nat) (m1 : Nat) : St → Option R59 := run (E59 n) (cB (cA (cA (cB (cA (cB (cB c59))))))) (Ann.snd (Ann.fst (Ann.fst (Ann.snd (Ann.fst (Ann.snd (Ann.snd an59))))))) (fun s => normC [0, 1, 5, 6, 37, 38, 39, 40, 41, 42, 56, 57, 58, 59, 60] s (loopN (F59_4 n) m1)) (xb59_3 n) rt59
noncomputable def kc59_6 (n : Nat × Nat) (m1 : Nat) : St → Option R59 := fun s => normC [0, 1, 5, 6, 37, 38, 39, 40, 41, 42, 56, 57, 58, 59, 60] s (kq59_5 n m1)
noncomputable def kq59_7 (n : Nat × Nat) (m1 : Nat) : St → Option R59 := run (E59 n) (cB (cB (cA (cA (cB (cA (cB (cB c59)))))))) (Ann.snd (Ann.snd (Ann.fst (Ann.fst (Ann.snd (Ann.fst (Ann.snd (Ann.snd an59)))))))) (fun s => normC [0, 1, 5, 6, 37, 38, 39, 40, 41, 42, 56, 57, 58, 59, 60] s (loopN (F59_4 n) m1)) (xb59_3 n) rt59
noncomputable def kc59_8 (n : Nat × Nat) (m1 : Nat) : St → Option R59 := fun s => normC [0, 1, 5, 6, 37, 38, 39, 40, 41, 42, 56, 57, 58, 59, 60] s (kq59_7 n m1)
noncomputable def xb59_9 (n : Nat × Nat) (m1 : Nat) : Nat → St → Option R59 := fun j s => bif Nat.beq j 1 then normC [0, 1, 5, 6, 37, 38, 39, 40, 41, 42, 56, 57, 58, 59, 60] s (kq59_7 n m1) else (xb59_3 n) j s
noncomputable def kq59_10 (n : Nat × Nat) : St → Option R59 := run (E59 n) (cB (cB (cB (cB c59)))) (Ann.snd (Ann.snd (Ann.snd (Ann.snd an59)))) rt59 (fun _ _ => none) rt59
noncomputable def kc59_11 (n : Nat × Nat) : St → Option R59 := fun s => normC [5] s (kq59_10 n)
noncomputable def xb59_12 (n : Nat × Nat) : Nat → St → Option R59 := fun j s => bif Nat.beq j 2 then normC [5] s (kq59_10 n) else (fun _ _ => none) j s
noncomputable def F59_13 (n : Nat × Nat) : (St → Option R59) → St → Option R59 := fun K s => run (E59 n) (cA (cA (cB (cA (cB (cB (cB c59))))))) (Ann.fst (Ann.fst (Ann.snd (Ann.fst (Ann.snd (Ann.snd (Ann.snd an59))))))) (fun s => normC [0, 1, 5, 7, 37, 38, 39, 40, 41, 42, 56, 57, 58, 59, 60] s K) (xb59_12 n) rt59 s
noncomputable def kq59_14 (n : Nat × Nat) (m1 : Nat) : St → Option R59 := run (E59 n) (cB (cA (cA (cB (cA (cB (cB (cB c59)))))))) (Ann.snd (Ann.fst (Ann.fst (Ann.snd (Ann.fst (Ann.snd (Ann.snd (Ann.snd an59)))))))) (fun s => normC [0, 1, 5, 7, 37, 38, 39, 40, 41, 42, 56, 57, 58, 59, 60] s (loopN (F59_13 n) m1)) (xb59_12 n) rt59
noncomputable def kc59_15 (n : Nat × Nat) (m1 : Nat) : St → Option R59 := fun s => normC [0, 1, 5, 7, 37, 38, 39, 40, 41, 42, 56, 57, 58, 59, 60] s (kq59_14 n m1)
noncomputable def kq59_16 (n : Nat × Nat) (m1 : Nat) : St → Option R59 := run (E59 n) (cB (cB (cA (cA (cB (cA (cB (cB (cB c59))))))))) (Ann.snd (Ann.snd (Ann.fst (Ann.fst (Ann.snd (Ann.fst (Ann.snd (Ann.snd (Ann.snd an59))))))))) (fun s => normC [0, 1, 5, 7, 37, 38, 39, 40, 41, 42, 56, 57, 58, 59, 60] s (loopN (F59_13 n) m1)) (xb59_12 n) rt59
noncomputable def kc59_17 (n : Nat × Nat) (m1 : Nat) : St → Option R59 := fun s => normC [0, 1, 5, 7, 37, 38, 39, 40, 41, 42, 56, 57, 58, 59, 60] s (kq59_16 n m1)
noncomputable def xb59_18 (n : Nat × Nat) (m1 : Nat) : Nat → St → Option R59 := fun j s => bif Nat.beq j 3 then normC [0, 1, 5, 7, 37, 38, 39, 40, 41, 42, 56, 57, 58, 59, 60] s (kq59_16 n m1) else (xb59_12 n) j s
noncomputable def kc59_19 (n : Nat × Nat) (m1 : Nat) : St → Option R59 := fun s => normC [0, 1, 5, 7, 37, 38, 39, 40, 41, 42, 56, 57, 58, 59, 60] s (kc59_17 n m1)
noncomputable def xb59_20 (n : Nat × Nat) (m1 : Nat) : Nat → St → Option R59 := fun j s => bif Nat.beq j 4 then normC [0, 1, 5, 7, 37, 38, 39, 40, 41, 42, 56, 57, 58, 59, 60] s (kc59_17 n m1) else (xb59_18 n m1) j s
noncomputable def F59_21 (n : Nat × Nat) (m1 : Nat) : (St → Option R59) → St → Option R59 := fun K s => run (E59 n) (cA (cA (cB (cA (cA (cB (cA (cA (cB (cA (cB (cB (cB c59))))))))))))) (Ann.fst (Ann.fst (Ann.snd (Ann.fst (Ann.fst (Ann.snd (Ann.fst (Ann.fst (Ann.snd (Ann.fst (Ann.snd (Ann.snd (Ann.snd an59))))))))))))) (fun s => normC [0, 1, 5, 7, 8, 37, 38, 39, 40, 41, 42, 56, 57, 58, 59, 60] s K) (xb59_20 n m1) rt59 s
noncomputable def kq59_22 (n : Nat × Nat) (m1 m2 : Nat) : St → Option R59 := run (E59 n) (cB (cA (cA (cB (cA (cA (cB (cA (cA (cB (cA (cB (cB (cB c59)))))))))))))) (Ann.snd (Ann.fst (Ann.fst (Ann.snd (Ann.fst (Ann.fst (Ann.snd (Ann.fst (Ann.fst (Ann.snd (Ann.fst (Ann.snd (Ann.snd (Ann.snd an59)))))))))))))) (fun s => normC [0, 1, 5, 7, 8, 37, 38, 39, 40, 41, 42, 56, 57, 58, 59, 60] s (loopN (F59_21 n m1) m2)) (xb59_20 n m1) rt59
noncomputable def kc59_23 (n : Nat × Nat) (m1 m2 : Nat) : St → Option R59 := fun s => normC [0, 1, 5, 7, 8, 37, 38, 39, 40, 41, 42, 56, 57, 58, 59, 60] s (kq59_22 n m1 m2)
noncomputable def kq59_24 (n : Nat × Nat) (m1 m2 : Nat) : St → Option R59 := run (E59 n) (cB (cB (cA (cA (cB (cA (cA (cB (cA (cA (cB (cA (cB (cB (cB c59))))))))))))))) (Ann.snd (Ann.snd (Ann.fst (Ann.fst (Ann.snd (Ann.fst (Ann.fst (Ann.snd (Ann.fst (Ann.fst (Ann.snd (Ann.fst (Ann.snd (Ann.snd (Ann.snd an59))))))))))))))) (fun s => normC [0, 1, 5, 7, 8, 37, 38, 39, 40, 41, 42, 56, 57, 58, 59, 60] s (loopN (F59_21 n m1) m2)) (xb59_20 n m1) rt59
noncomputable def kc59_25 (n : Nat × Nat) (m1 m2 : Nat) : St → Option R59 := fun s => normC [0, 1, 5, 7, 8, 37, 38, 39, 40, 41, 42, 56, 57, 58, 59, 60] s (kq59_24 n m1 m2)
noncomputable def xb59_26 (n : Nat × Nat) (m1 m2 : Nat) : Nat → St → Option R59 := fun j s => bif Nat.beq j 5 then normC [0, 1, 5, 7, 8, 37, 38, 39, 40, 41, 42, 56, 57, 58, 59, 60] s (kq59_24 n m1 m2) else (xb59_20 n m1) j s
noncomputable def kc59_27 (n : Nat × Nat) (m1 m2 : Nat) : St → Option R59 := fun s => normC [0, 1, 5, 7, 8, 37, 38, 39, 40, 41, 42, 56, 57, 58, 59, 60] s (kc59_25 n m1 m2)
noncomputable def xb59_28 (n : Nat × Nat) (m1 m2 : Nat) : Nat → St → Option R59 := fun j s => bif Nat.beq j 6 then normC [0, 1, 5, 7, 8, 37, 38, 39, 40, 41, 42, 56, 57, 58, 59, 60] s (kc59_25 n m1 m2) else (xb59_26 n m1 m2) j s
noncomputable def F59_29 (n : Nat × Nat) (m1 m2 : Nat) : (St → Option R59) → St → Option R59 := fun K s => run (E59 n) (cA (cA (cB (cA (cA (cB (cA (cA (cB (cA (cA (cB (cA (cA (cB (cA (cB (cB (cB c59))))))))))))))))))) (Ann.fst (Ann.fst (Ann.snd (Ann.fst (Ann.fst (Ann.snd (Ann.fst (Ann.fst (Ann.snd (Ann.fst (Ann.fst (Ann.snd (Ann.fst (Ann.fst (Ann.snd (Ann.fst (Ann.snd (Ann.snd (Ann.snd an59))))))))))))))))))) (fun s => normC [0, 1, 5, 7, 8, 9, 37, 38, 39, 40, 41, 42, 56, 57, 58, 59, 60] s K) (xb59_28 n m1 m2) rt59 s
noncomputable def kq59_30 (n : Nat × Nat) (m1 m2 m3 : Nat) : St → Option R59 := run (E59 n) (cB (cA (cA (cB (cA (cA (cB (cA (cA (cB (cA (cA (cB (cA (cA (cB (cA (cB (cB (cB c59)))))))))))))))))))) (Ann.snd (Ann.fst (Ann.fst (Ann.snd (Ann.fst (Ann.fst (Ann.snd (Ann.fst (Ann.fst (Ann.snd (Ann.fst (Ann.fst (Ann.snd (Ann.fst (Ann.fst (Ann.snd (Ann.fst (Ann.snd (Ann.snd (Ann.snd an59)))))))))))))))))))) (fun s => normC [0, 1, 5, 7, 8, 9, 37, 38, 39, 40, 41, 42, 56, 57, 58, 59, 60] s (loopN (F59_29 n m1 m2) m3)) (xb59_28 n m1 m2) rt59
noncomputable def kc59_31 (n : Nat × Nat) (m1 m2 m3 : Nat) : St → Option R59 := fun s => normC [0, 1, 5, 7, 8, 9, 37, 38, 39, 40, 41, 42, 56, 57, 58, 59, 60] s (kq59_30 n m1 m2 m3)
noncomputable def kq59_32 (n : Nat × Nat) (m1 m2 m3 : Nat) : St → Option R59 := run (E59 n) (cB (cB (cA (cA (cB (cA (cA (cB (cA (cA (cB (cA (cA (cB (cA (cA (cB (cA (cB (cB (cB c59))))))))))))))))))))) (Ann.snd (Ann.snd (Ann.fst (Ann.fst (Ann.snd (Ann.fst (Ann.fst (Ann.snd (Ann.fst (Ann.fst (Ann.snd (Ann.fst (Ann.fst (Ann.snd (Ann.fst (Ann.fst (Ann.snd (Ann.fst (Ann.snd (Ann.snd (Ann.snd an59))))))))))))))))))))) (fun s => normC [0, 1, 5, 7, 8, 9, 37, 38, 39, 40, 41, 42, 56, 57, 58, 59, 60] s (loopN (F59_29 n m1 m2) m3)) (xb59_28 n m1 m2) rt59
noncomputable def kc59_33 (n : Nat × Nat) (m1 m2 m3 : Nat) : St → Option R59 := fun s => normC [0, 1, 5, 7, 8, 9, 37, 38, 39, 40, 41, 42, 56, 57, 58, 59, 60] s (loopN (fun _ => (kq59_32 n m1 m2 m3)) n.2)
noncomputable def xb59_34 (n : Nat × Nat) (m1 m2 m3 : Nat) : Nat → St → Option R59 := fun j s => bif Nat.beq j 7 then normC [0, 1, 5, 7, 8, 9, 37, 38, 39, 40, 41, 42, 56, 57, 58, 59, 60] s (loopN (fun _ => (kq59_32 n m1 m2 m3)) n.2) else (xb59_28 n m1 m2) j s
noncomputable def kc59_35 (n : Nat × Nat) (m1 m2 m3 : Nat) : St → Option R59 := fun s => normC [0, 1, 5, 7, 8, 9, 37, 38, 39, 40, 41, 42, 56, 57, 58, 59, 60] s (kc59_33 n m1 m2 m3)
noncomputable def L59_1 (n : Nat × Nat) (m : Nat) (coins0 : List Int) (most1 : Int) (s6 : Int) (out5 : List Int) : Option R59 := loopN (F59_4 n) m { tm := [.c (.sl (.int .i64) coins0 false), .c (.int .i64 most1), uu, uu, uu, .own 5 none false, .c (.int .i64 s6), uu, uu, uu, uu, uu, uu, uu, uu, uu, uu, uu, uu, uu, uu, uu, uu, uu, uu, uu, uu, uu, uu, uu, uu, uu, uu, uu, uu, uu, uu, uu, uu, uu, uu, uu, uu, uu, uu, uu, uu, uu, uu, uu, uu, uu, uu, uu, uu, uu, uu, uu, uu, uu, uu, uu, uu, uu, uu, uu, uu, uu], hp := (upd emp 5 (.arr (.int .i64) out5 false)) }
noncomputable def L59_2 (n : Nat × Nat) (m : Nat) (coins0 : List Int) (most1 : Int) (many7 : Int) (out5 : List Int) : Option R59 := loopN (F59_13 n) m { tm := [.c (.sl (.int .i64) coins0 false), .c (.int .i64 most1), uu, uu, uu, .own 5 none false, uu, .c (.int .i64 many7), uu, uu, uu, uu, uu, uu, uu, uu, uu, uu, uu, uu, uu, uu, uu, uu, uu, uu, uu, uu, uu, uu, uu, uu, uu, uu, uu, uu, uu, uu, uu, uu, uu, uu, uu, uu, uu, uu, uu, uu, uu, uu, uu, uu, uu, uu, uu, uu, uu, uu, uu, uu, uu, uu, uu, uu, uu, uu, uu, uu], hp := (upd emp 5 (.arr (.int .i64) out5 false)) }
noncomputable def L59_3 (n : Nat × Nat) (m1 : Nat) (m : Nat) (coins0 : List Int) (most1 : Int) (many7 : Int) (s8 : Int) (out5 : List Int) : Option R59 := loopN (F59_21 n m1) m { tm := [.c (.sl (.int .i64) coins0 false), .c (.int .i64 most1), uu, uu, uu, .own 5 none false, uu, .c (.int .i64 many7), .c (.int .i64 s8), uu, uu, uu, uu, uu, uu, uu, uu, uu, uu, uu, uu, uu, uu, uu, uu, uu, uu, uu, uu, uu, uu, uu, uu, uu, uu, uu, uu, uu, uu, uu, uu, uu, uu, uu, uu, uu, uu, uu, uu, uu, uu, uu, uu, uu, uu, uu, uu, uu, uu, uu, uu, uu, uu, uu, uu, uu, uu, uu], hp := (upd emp 5 (.arr (.int .i64) out5 false)) }
noncomputable def L59_4 (n : Nat × Nat) (m1 m2 : Nat) (m : Nat) (coins0 : List Int) (most1 : Int) (many7 : Int) (s8 : Int) (i9 : Int) (out5 : List Int) : Option R59 := loopN (F59_29 n m1 m2) m { tm := [.c (.sl (.int .i64) coins0 false), .c (.int .i64 most1), uu, uu, uu, .own 5 none false, uu, .c (.int .i64 many7), .c (.int .i64 s8), .c (.int .i64 i9), uu, uu, uu, uu, uu, uu, uu, uu, uu, uu, uu, uu, uu, uu, uu, uu, uu, uu, uu, uu, uu, uu, uu, uu, uu, uu, uu, uu, uu, uu, uu, uu, uu, uu, uu, uu, uu, uu, uu, uu, uu, uu, uu, uu, uu, uu, uu, uu, uu, uu, uu, uu, uu, uu, uu, uu, uu, uu], hp := (upd emp 5 (.arr (.int .i64) out5 false)) }
noncomputable def L59_5 (n : Nat × Nat) (m1 m2 m3 : Nat) (coins0 : List Int) (most1 : Int) (many7 : Int) (s8 : Int) (i9 : Int) (out5 : List Int) : Option R59 := loopN (fun _ => (kq59_32 n m1 m2 m3)) n.2 { tm := [.c (.sl (.int .i64) coins0 false), .c (.int .i64 most1), uu, uu, uu, .own 5 none false, uu, .c (.int .i64 many7), .c (.int .i64 s8), .c (.int .i64 i9), uu, uu, uu, uu, uu, uu, uu, uu, uu, uu, uu, uu, uu, uu, uu, uu, uu, uu, uu, uu, uu, uu, uu, uu, uu, uu, uu, uu, uu, uu, uu, uu, uu, uu, uu, uu, uu, uu, uu, uu, uu, uu, uu, uu, uu, uu, uu, uu, uu, uu, uu, uu, uu, uu, uu, uu, uu, uu], hp := (upd emp 5 (.arr (.int .i64) out5 false)) }
theorem L59_1_eq (n : Nat × Nat) (m1 : Nat) (coins0 : List Int) (most1 : Int) (s6 : Int) (out5 : List Int) : L59_1 n (m1 + 1) coins0 most1 s6 out5 =
    (bif decide (s6 ≤ most1) then (bif inB s6 out5.length then (idx out5 s6).bind fun x1' =>
        L59_1 n m1 coins0 most1 (wr .i64 (s6 + 1)) (out5.set (Int.toNat s6) (-1))
      else none)
    else L59_2 n n.1 coins0 most1 0 out5) := by kernel_rfl
theorem L59_2_eq (n : Nat × Nat) (m1 : Nat) (coins0 : List Int) (most1 : Int) (many7 : Int) (out5 : List Int) : L59_2 n (m1 + 1) coins0 most1 many7 out5 =
    (bif decide (many7 ≤ most1) then L59_3 n m1 n.1 coins0 most1 many7 0 out5
    else some out5) := by kernel_rfl
theorem L59_3_eq (n : Nat × Nat) (m1 m2 : Nat) (coins0 : List Int) (most1 : Int) (many7 : Int) (s8 : Int) (out5 : List Int) : L59_3 n m1 (m2 + 1) coins0 most1 many7 s8 out5 =
    (bif decide (s8 ≤ most1) then L59_4 n m1 m2 n.1 coins0 most1 many7 s8 0 out5
    else L59_2 n m1 coins0 most1 (wr .i64 (many7 + 1)) out5) := by kernel_rfl
theorem L59_4_eq (n : Nat × Nat) (m1 m2 m3 : Nat) (coins0 : List Int) (most1 : Int) (many7 : Int) (s8 : Int) (i9 : Int) (out5 : List Int) : L59_4 n m1 m2 (m3 + 1) coins0 most1 many7 s8 i9 out5 =
    ((bif (decide (i9 < (coins0.length : Int)) == true) then (bif inB s8 out5.length then (idx out5 s8).bind fun x2' =>
          some (x2' == many7)
        else none)
      else some false)).bind fun b3' =>
    (bif b3' then (idx coins0 i9).bind fun x4' =>
      ((bif (decide (wr .i64 (s8 + x4') ≤ most1) == true) then (bif inB (wr .i64 (s8 + x4')) out5.length then (idx out5 (wr .i64 (s8 + x4'))).bind fun x5' =>
            some (decide (x5' < 0))
          else none)
        else some false)).bind fun b6' =>
      (bif b6' then (bif inB (wr .i64 (s8 + x4')) out5.length then (idx out5 (wr .i64 (s8 + x4'))).bind fun x7' =>
          L59_5 n m1 m2 m3 coins0 most1 many7 s8 i9 (out5.set (Int.toNat (wr .i64 (s8 + x4'))) (wr .i64 (many7 + 1)))
        else none)
      else L59_5 n m1 m2 m3 coins0 most1 many7 s8 i9 out5)
    else L59_3 n m1 m2 coins0 most1 many7 (wr .i64 (s8 + 1)) out5) := by kernel_rfl
theorem L59_5_raw (n : Nat × Nat) (m1 m2 m3 : Nat) (coins0 : List Int) (most1 : Int) (many7 : Int) (s8 : Int) (i9 : Int) (out5 : List Int) : (kq59_32 n m1 m2 m3) { tm := [.c (.sl (.int .i64) coins0 false), .c (.int .i64 most1), uu, uu, uu, .own 5 none false, uu, .c (.int .i64 many7), .c (.int .i64 s8), .c (.int .i64 i9), uu, uu, uu, uu, uu, uu, uu, uu, uu, uu, uu, uu, uu, uu, uu, uu, uu, uu, uu, uu, uu, uu, uu, uu, uu, uu, uu, uu, uu, uu, uu, uu, uu, uu, uu, uu, uu, uu, uu, uu, uu, uu, uu, uu, uu, uu, uu, uu, uu, uu, uu, uu, uu, uu, uu, uu, uu, uu], hp := (upd emp 5 (.arr (.int .i64) out5 false)) } =
    L59_4 n m1 m2 m3 coins0 most1 many7 s8 (wr .i64 (i9 + 1)) out5 := by kernel_rfl
noncomputable def S59 (n : Nat × Nat) (coins0 : List Int) (most1 : Int) : Option R59 := run (E59 n) c59 an59 rt59 (fun _ _ => none) rt59 { tm := [.c (.sl (.int .i64) coins0 false), .c (.int .i64 most1), uu, uu, uu, uu, uu, uu, uu, uu, uu, uu, uu, uu, uu, uu, uu, uu, uu, uu, uu, uu, uu, uu, uu, uu, uu, uu, uu, uu, uu, uu, uu, uu, uu, uu, uu, uu, uu, uu, uu, uu, uu, uu, uu, uu, uu, uu, uu, uu, uu, uu, uu, uu, uu, uu, uu, uu, uu, uu, uu, uu, uu, uu, uu, uu, uu, uu], hp := emp }
theorem S59_eq (n : Nat × Nat) (coins0 : List Int) (most1 : Int) : S59 n coins0 most1 =
    (bif decide (0 ≤ wr .i64 (most1 + 1)) && decide (wr .i64 (most1 + 1) ≤ wr .i64 (most1 + 1)) && decide (wr .i64 (most1 + 1) ≤ lim) then L59_1 n n.1 coins0 most1 1 (List.replicate (Int.toNat (wr .i64 (most1 + 1))) (0 : Int))
    else none) := by kernel_rfl
theorem S59_run (n : Nat × Nat) (xs : pksDen pk59) : S59 n xs.1 xs.2.1 = runG (E59 n) noScope c59 an59 (rtG rk59) (fun _ _ => none) (rtG rk59) (st0 pk59 xs Try.f59.ntmps) := by kernel_rfl
noncomputable def P59 (n : Nat × Nat) := phiOf pk59 rk59 (fun xs => S59 n xs.1 xs.2.1)
theorem call59 : CallOK Try.prog 59 := callOK_of Try.func59 (by kernel_rfl) (by kernel_rfl)
theorem env59 (n : Nat × Nat) : EnvOK Try.prog (E59 n) := envOK0 noPhi_ok rfl rfl
theorem par59 (n : Nat × Nat) : EnvPar (E59 n) := envPar0 noPhi_par rfl
theorem FC59 (n : Nat × Nat) : FCs Try.prog 59 (P59 n) := phiOf_FCs fun xs r h vs hv => FC.of_runG tabOK eqsOK (env59 n) (par59 n) mixed (fun _ => noScope_ok) Try.func59 (c := c59) (an := an59) (pks := pk59) (rks := rk59) (by kernel_rfl) (by kernel_rfl) hv ((S59_run n xs).symm.trans h)
end Go.Proofs.Ytjgmfdgpgdaclaa
set_option linter.unusedVariables false
set_option linter.unusedSimpArgs false
set_option maxRecDepth 100000
namespace Go.Proofs.Ytjgmfdgpgdaclaa
open Go.Vi
/-D 65 -/
noncomputable def D65 (n : Nat × Nat) (v0 : Int) (lo1 : Int) (hi2 : Int) : Option R65 :=
    ((bif (decide (v0 ≥ lo1) == true) then some (decide (v0 ≤ hi2))
      else some false)).bind fun b1' =>
    some b1'
theorem S65_D (n : Nat × Nat) (hn : n.2 = 1) : S65 n = D65 n := by
  funext v0 lo1 hi2; refine (S65_eq n v0 lo1 hi2).trans ?_
  unfold D65
  first | with_reducible rfl | rfl
end Go.Proofs.Ytjgmfdgpgdaclaa
set_option linter.unusedVariables false
set_option linter.unusedSimpArgs false
set_option maxRecDepth 100000
namespace Go.Proofs.Ytjgmfdgpgdaclaa
open Go.Vi
/-D 26 -/
noncomputable def DF26_1 (n : Nat × Nat) (f1 : List Int → Int → Option R26) (coins0 : List Int) (i3 : Int) : Option R26 :=
    (bif decide (i3 < (coins0.length : Int)) then (idx coins0 i3).bind fun x1' =>
      (D65 n x1' 1 40).bind fun r2' =>
      (bif (!r2') then some 1
      else ((bif (decide (i3 > 0) == true) then (idx coins0 i3).bind fun x3' =>
            (idx coins0 (wr .i64 (i3 - 1))).bind fun x4' =>
            some (decide (x3' ≤ x4'))
          else some false)).bind fun b5' =>
        (bif b5' then some 7
        else f1 coins0 (wr .i64 (i3 + 1))))
    else (idx coins0 0).bind fun x6' =>
      (bif (x6' != 1) then some 5
      else some 0))
noncomputable def DL26_1 (n : Nat × Nat) (m : Nat) : List Int → Int → Option R26 := Nat.rec (motive := fun _ => List Int → Int → Option R26) (fun _ _ => none) (fun _ ih => DF26_1 n ih) m
theorem DL26_1_succ (n : Nat × Nat) (m : Nat) : DL26_1 n (m + 1) = DF26_1 n (DL26_1 n m) := rfl
theorem DL26_1_eq (n : Nat × Nat) (hn : n.2 = 1) : ∀ m, L26_1 n m = DL26_1 n m
  | 0 => by funext coins0 i3; kernel_rfl
  | m + 1 => by
    have ih := DL26_1_eq n hn m
    funext coins0 i3; refine (L26_1_eq n m coins0 i3).trans ?_
    rw [DL26_1_succ]
    unfold DF26_1
    (try simp only [ih, S65_D n hn]) <;> first | with_reducible rfl | rfl
noncomputable def D26 (n : Nat × Nat) (coins0 : List Int) : Option R26 :=
    (bif ((coins0.length : Int) == 0) then some 4
    else (bif decide ((coins0.length : Int) > 6) then some 3
      else DL26_1 n n.1 coins0 0))
theorem S26_D (n : Nat × Nat) (hn : n.2 = 1) : S26 n = D26 n := by
  funext coins0; refine (S26_eq n coins0).trans ?_
  unfold D26
  (try simp only [DL26_1_eq n hn, S65_D n hn]) <;> first | with_reducible rfl | rfl
end Go.Proofs.Ytjgmfdgpgdaclaa
set_option linter.unusedVariables false
set_option linter.unusedSimpArgs false
set_option maxRecDepth 100000
namespace Go.Proofs.Ytjgmfdgpgdaclaa
open Go.Vi
/-D 58 -/
noncomputable def D58 (n : Nat × Nat) (coins0 : List Int) (sum1 : Int) : Option R58 :=
    (D26 n coins0).bind fun r1' =>
    ((bif ((r1' == 0) == true) then (D65 n sum1 0 200).bind fun r2' =>
        some (!r2')
      else some false)).bind fun b3' =>
    (bif b3' then some 1
    else some r1')
theorem S58_D (n : Nat × Nat) (hn : n.2 = 1) : S58 n = D58 n := by
  funext coins0 sum1; refine (S58_eq n coins0 sum1).trans ?_
  unfold D58
  (try simp only [S26_D n hn, S65_D n hn]) <;> first | with_reducible rfl | rfl
end Go.Proofs.Ytjgmfdgpgdaclaa
set_option linter.unusedVariables false
set_option linter.unusedSimpArgs false
set_option maxRecDepth 100000
namespace Go.Proofs.Ytjgmfdgpgdaclaa
open Go.Vi
/-D 59 -/
noncomputable def DL59_5 (n : Nat × Nat) (f1 : List Int → Int → Int → List Int → Option R59) (f2 : List Int → Int → Int → Int → List Int → Option R59) (f3 : List Int → Int → Int → Int → Int → List Int → Option R59) (coins0 : List Int) (most1 : Int) (many7 : Int) (s8 : Int) (i9 : Int) (out5 : List Int) : Option R59 :=
    f3 coins0 most1 many7 s8 (wr .i64 (i9 + 1)) out5
theorem DL59_5_eq (n : Nat × Nat) (hn : n.2 = 1) (m1 m2 m3 : Nat) : L59_5 n m1 m2 m3 = DL59_5 n (L59_2 n m1) (L59_3 n m1 m2) (L59_4 n m1 m2 m3) := by
  funext coins0 most1 many7 s8 i9 out5; refine ((held_eq hn _).trans (L59_5_raw n m1 m2 m3 coins0 most1 many7 s8 i9 out5)).trans ?_
  unfold DL59_5
  first | with_reducible rfl | rfl
noncomputable def DF59_4 (n : Nat × Nat) (f1 : List Int → Int → Int → List Int → Option R59) (f2 : List Int → Int → Int → Int → List Int → Option R59) (f3 : List Int → Int → Int → Int → Int → List Int → Option R59) (coins0 : List Int) (most1 : Int) (many7 : Int) (s8 : Int) (i9 : Int) (out5 : List Int) : Option R59 :=
    ((bif (decide (i9 < (coins0.length : Int)) == true) then (bif inB s8 out5.length then (idx out5 s8).bind fun x2' =>
          some (x2' == many7)
        else none)
      else some false)).bind fun b3' =>
    (bif b3' then (idx coins0 i9).bind fun x4' =>
      ((bif (decide (wr .i64 (s8 + x4') ≤ most1) == true) then (bif inB (wr .i64 (s8 + x4')) out5.length then (idx out5 (wr .i64 (s8 + x4'))).bind fun x5' =>
            some (decide (x5' < 0))
          else none)
        else some false)).bind fun b6' =>
      (bif b6' then (bif inB (wr .i64 (s8 + x4')) out5.length then (idx out5 (wr .i64 (s8 + x4'))).bind fun x7' =>
          DL59_5 n f1 f2 f3 coins0 most1 many7 s8 i9 (out5.set (Int.toNat (wr .i64 (s8 + x4'))) (wr .i64 (many7 + 1)))
        else none)
      else DL59_5 n f1 f2 f3 coins0 most1 many7 s8 i9 out5)
    else f2 coins0 most1 many7 (wr .i64 (s8 + 1)) out5)
noncomputable def DL59_4 (n : Nat × Nat) (f1 : List Int → Int → Int → List Int → Option R59) (f2 : List Int → Int → Int → Int → List Int → Option R59) (m : Nat) : List Int → Int → Int → Int → Int → List Int → Option R59 := Nat.rec (motive := fun _ => List Int → Int → Int → Int → Int → List Int → Option R59) (fun _ _ _ _ _ _ => none) (fun _ ih => DF59_4 n f1 f2 ih) m
theorem DL59_4_succ (n : Nat × Nat) (f1 : List Int → Int → Int → List Int → Option R59) (f2 : List Int → Int → Int → Int → List Int → Option R59) (m : Nat) : DL59_4 n f1 f2 (m + 1) = DF59_4 n f1 f2 (DL59_4 n f1 f2 m) := rfl
theorem DL59_4_eq (n : Nat × Nat) (hn : n.2 = 1) (m1 m2 : Nat) : ∀ m, L59_4 n m1 m2 m = DL59_4 n (L59_2 n m1) (L59_3 n m1 m2) m
  | 0 => by funext coins0 most1 many7 s8 i9 out5; kernel_rfl
  | m + 1 => by
    have ih := DL59_4_eq n hn m1 m2 m
    funext coins0 most1 many7 s8 i9 out5; refine (L59_4_eq n m1 m2 m coins0 most1 many7 s8 i9 out5).trans ?_
    rw [DL59_4_succ]
    unfold DF59_4
    (try simp only [ih, DL59_5_eq n hn]) <;> first | with_reducible rfl | rfl
noncomputable def DF59_3 (n : Nat × Nat) (f1 : List Int → Int → Int → List Int → Option R59) (f2 : List Int → Int → Int → Int → List Int → Option R59) (coins0 : List Int) (most1 : Int) (many7 : Int) (s8 : Int) (out5 : List Int) : Option R59 :=
    (bif decide (s8 ≤ most1) then DL59_4 n f1 f2 n.1 coins0 most1 many7 s8 0 out5
    else f1 coins0 most1 (wr .i64 (many7 + 1)) out5)
noncomputable def DL59_3 (n : Nat × Nat) (f1 : List Int → Int → Int → List Int → Option R59) (m : Nat) : List Int → Int → Int → Int → List Int → Option R59 := Nat.rec (motive := fun _ => List Int → Int → Int → Int → List Int → Option R59) (fun _ _ _ _ _ => none) (fun _ ih => DF59_3 n f1 ih) m
theorem DL59_3_succ (n : Nat × Nat) (f1 : List Int → Int → Int → List Int → Option R59) (m : Nat) : DL59_3 n f1 (m + 1) = DF59_3 n f1 (DL59_3 n f1 m) := rfl
theorem DL59_3_eq (n : Nat × Nat) (hn : n.2 = 1) (m1 : Nat) : ∀ m, L59_3 n m1 m = DL59_3 n (L59_2 n m1) m
  | 0 => by funext coins0 most1 many7 s8 out5; kernel_rfl
  | m + 1 => by
    have ih := DL59_3_eq n hn m1 m
    funext coins0 most1 many7 s8 out5; refine (L59_3_eq n m1 m coins0 most1 many7 s8 out5).trans ?_
    rw [DL59_3_succ]
    unfold DF59_3
    (try simp only [ih, DL59_5_eq n hn, DL59_4_eq n hn]) <;> first | with_reducible rfl | rfl
noncomputable def DF59_2 (n : Nat × Nat) (f1 : List Int → Int → Int → List Int → Option R59) (coins0 : List Int) (most1 : Int) (many7 : Int) (out5 : List Int) : Option R59 :=
    (bif decide (many7 ≤ most1) then DL59_3 n f1 n.1 coins0 most1 many7 0 out5
    else some out5)
noncomputable def DL59_2 (n : Nat × Nat) (m : Nat) : List Int → Int → Int → List Int → Option R59 := Nat.rec (motive := fun _ => List Int → Int → Int → List Int → Option R59) (fun _ _ _ _ => none) (fun _ ih => DF59_2 n ih) m
theorem DL59_2_succ (n : Nat × Nat) (m : Nat) : DL59_2 n (m + 1) = DF59_2 n (DL59_2 n m) := rfl
theorem DL59_2_eq (n : Nat × Nat) (hn : n.2 = 1) : ∀ m, L59_2 n m = DL59_2 n m
  | 0 => by funext coins0 most1 many7 out5; kernel_rfl
  | m + 1 => by
    have ih := DL59_2_eq n hn m
    funext coins0 most1 many7 out5; refine (L59_2_eq n m coins0 most1 many7 out5).trans ?_
    rw [DL59_2_succ]
    unfold DF59_2
    (try simp only [ih, DL59_5_eq n hn, DL59_4_eq n hn, DL59_3_eq n hn]) <;> first | with_reducible rfl | rfl
noncomputable def DF59_1 (n : Nat × Nat) (f1 : List Int → Int → Int → List Int → Option R59) (coins0 : List Int) (most1 : Int) (s6 : Int) (out5 : List Int) : Option R59 :=
    (bif decide (s6 ≤ most1) then (bif inB s6 out5.length then (idx out5 s6).bind fun x1' =>
        f1 coins0 most1 (wr .i64 (s6 + 1)) (out5.set (Int.toNat s6) (-1))
      else none)
    else DL59_2 n n.1 coins0 most1 0 out5)
noncomputable def DL59_1 (n : Nat × Nat) (m : Nat) : List Int → Int → Int → List Int → Option R59 := Nat.rec (motive := fun _ => List Int → Int → Int → List Int → Option R59) (fun _ _ _ _ => none) (fun _ ih => DF59_1 n ih) m
theorem DL59_1_succ (n : Nat × Nat) (m : Nat) : DL59_1 n (m + 1) = DF59_1 n (DL59_1 n m) := rfl
theorem DL59_1_eq (n : Nat × Nat) (hn : n.2 = 1) : ∀ m, L59_1 n m = DL59_1 n m
  | 0 => by funext coins0 most1 s6 out5; kernel_rfl
  | m + 1 => by
    have ih := DL59_1_eq n hn m
    funext coins0 most1 s6 out5; refine (L59_1_eq n m coins0 most1 s6 out5).trans ?_
    rw [DL59_1_succ]
    unfold DF59_1
    (try simp only [ih, DL59_5_eq n hn, DL59_4_eq n hn, DL59_3_eq n hn, DL59_2_eq n hn]) <;> first | with_reducible rfl | rfl
noncomputable def D59 (n : Nat × Nat) (coins0 : List Int) (most1 : Int) : Option R59 :=
    (bif decide (0 ≤ wr .i64 (most1 + 1)) && decide (wr .i64 (most1 + 1) ≤ wr .i64 (most1 + 1)) && decide (wr .i64 (most1 + 1) ≤ lim) then DL59_1 n n.1 coins0 most1 1 (List.replicate (Int.toNat (wr .i64 (most1 + 1))) (0 : Int))
    else none)
theorem S59_D (n : Nat × Nat) (hn : n.2 = 1) : S59 n = D59 n := by
  funext coins0 most1; refine (S59_eq n coins0 most1).trans ?_
  unfold D59
  (try simp only [DL59_5_eq n hn, DL59_4_eq n hn, DL59_3_eq n hn, DL59_2_eq n hn, DL59_1_eq n hn]) <;> first | with_reducible rfl | rfl
end Go.Proofs.Ytjgmfdgpgdaclaa
set_option linter.unusedVariables false
set_option linter.unusedSimpArgs false
set_option maxRecDepth 100000
namespace Go.Proofs.Ytjgmfdgpgdaclaa
open Go.Vi
/- headword/headwordref12.greatest -/
abbrev R64 := List Int
noncomputable def c64 : Code := bodyOf Try.f64
noncomputable def an64 : Ann := (.s .l (.s .l (.s (.s .l (.j [5] (.j [0, 1, 5, 6] (.s (.s .l (.j [0, 1, 5, 6] .l .l)) (.s (.j [0, 1, 5, 6] .l .l) .l)) .l) .l)) .l)))
def pk64 : List PK := [.c (.sl (.int .i64)), .c (.int .i64)]
def rk64 : List RK := [.own (.int .i64) 4]
noncomputable def rt64 (st : St) : Option R64 := rtG rk64 st
noncomputable def E64 (n : Nat × Nat) : Env := { T := tab, phi := noPhi, eff := fun _ => false, fuel := n.1, hold := n.2 }
noncomputable def kq64_1 (n : Nat × Nat) : St → Option R64 := run (E64 n) (cB (cB (cB c64))) (Ann.snd (Ann.snd (Ann.snd an64))) rt64 (fun _ _ => none) rt64
noncomputable def kc64_2 (n : Nat × Nat) : St → Option R64 := fun s => normC [5] s (kq64_1 n)
noncomputable def xb64_3 (n : Nat × Nat) : Nat → St → Option R64 := fun j s => bif Nat.beq j 0 then normC [5] s (kq64_1 n) else (fun _ _ => none) j s
noncomputable def F64_4 (n : Nat × Nat) : (St → Option R64) → St → Option R64 := fun K s => run (E64 n) (cA (cA (cB (cA (cB (cB c64)))))) (Ann.fst (Ann.fst (Ann.snd (Ann.fst (Ann.snd (Ann.snd an64)))))) (fun s => normC [0, 1, 5, 6] s K) (xb64_3 n) rt64 s
noncomputable def kq64_5 (n : Nat × Nat) (m1 : Nat) : St → Option R64 := run (E64 n) (cB (cA (cA (cB (cA (cB (cB c64))))))) (Ann.snd (Ann.fst (Ann.fst (Ann.snd (Ann.fst (Ann.snd (Ann.snd an64))))))) (fun s => normC [0, 1, 5, 6] s (loopN (F64_4 n) m1)) (xb64_3 n) rt64
noncomputable def kc64_6 (n : Nat × Nat) (m1 : Nat) : St → Option R64 := fun s => normC [0, 1, 5, 6] s (kq64_5 n m1)
noncomputable def kq64_7 (n : Nat × Nat) (m1 : Nat) : St → Option R64 := run (E64 n) (cB (cB (cA (cA (cB (cA (cB (cB c64)))))))) (Ann.snd (Ann.snd (Ann.fst (Ann.fst (Ann.snd (Ann.fst (Ann.snd (Ann.snd an64)))))))) (fun s => normC [0, 1, 5, 6] s (loopN (F64_4 n) m1)) (xb64_3 n) rt64
noncomputable def kc64_8 (n : Nat × Nat) (m1 : Nat) : St → Option R64 := fun s => normC [0, 1, 5, 6] s (kq64_7 n m1)
noncomputable def xb64_9 (n : Nat × Nat) (m1 : Nat) : Nat → St → Option R64 := fun j s => bif Nat.beq j 1 then normC [0, 1, 5, 6] s (kq64_7 n m1) else (xb64_3 n) j s
noncomputable def L64_1 (n : Nat × Nat) (m : Nat) (coins0 : List Int) (sum1 : Int) (i6 : Int) (out5 : List Int) : Option R64 := loopN (F64_4 n) m { tm := [.c (.sl (.int .i64) coins0 false), .c (.int .i64 sum1), uu, uu, uu, .own 5 none false, .c (.int .i64 i6), uu, uu, uu, uu, uu, uu, uu, uu, uu, uu, uu, uu, uu, uu, uu, uu, uu, uu, uu, uu, uu, uu, uu, uu, uu, uu], hp := (upd emp 5 (.arr (.int .i64) out5 false)) }
theorem L64_1_eq (n : Nat × Nat) (m1 : Nat) (coins0 : List Int) (sum1 : Int) (i6 : Int) (out5 : List Int) : L64_1 n (m1 + 1) coins0 sum1 i6 out5 =
    (bif decide (i6 ≥ 0) then (idx coins0 i6).bind fun x1' =>
      (bif x1' == 0 then none
      else (bif inB i6 out5.length then (idx out5 i6).bind fun x2' =>
          (idx coins0 i6).bind fun x3' =>
          (bif x3' == 0 then none
          else L64_1 n m1 coins0 (Int.tmod sum1 x3') (wr .i64 (i6 - 1)) (out5.set (Int.toNat i6) (wr .i64 (Int.tdiv sum1 x1'))))
        else none))
    else some out5) := by kernel_rfl
noncomputable def S64 (n : Nat × Nat) (coins0 : List Int) (sum1 : Int) : Option R64 := run (E64 n) c64 an64 rt64 (fun _ _ => none) rt64 { tm := [.c (.sl (.int .i64) coins0 false), .c (.int .i64 sum1), uu, uu, uu, uu, uu, uu, uu, uu, uu, uu, uu, uu, uu, uu, uu, uu, uu, uu, uu, uu, uu, uu, uu, uu, uu, uu, uu, uu, uu, uu, uu], hp := emp }
theorem S64_eq (n : Nat × Nat) (coins0 : List Int) (sum1 : Int) : S64 n coins0 sum1 =
    (bif decide (0 ≤ (coins0.length : Int)) && decide ((coins0.length : Int) ≤ (coins0.length : Int)) && decide ((coins0.length : Int) ≤ lim) then L64_1 n n.1 coins0 sum1 (wr .i64 ((coins0.length : Int) - 1)) (List.replicate (Int.toNat (coins0.length : Int)) (0 : Int))
    else none) := by kernel_rfl
theorem S64_run (n : Nat × Nat) (xs : pksDen pk64) : S64 n xs.1 xs.2.1 = runG (E64 n) noScope c64 an64 (rtG rk64) (fun _ _ => none) (rtG rk64) (st0 pk64 xs Try.f64.ntmps) := by kernel_rfl
noncomputable def P64 (n : Nat × Nat) := phiOf pk64 rk64 (fun xs => S64 n xs.1 xs.2.1)
theorem call64 : CallOK Try.prog 64 := callOK_of Try.func64 (by kernel_rfl) (by kernel_rfl)
theorem env64 (n : Nat × Nat) : EnvOK Try.prog (E64 n) := envOK0 noPhi_ok rfl rfl
theorem par64 (n : Nat × Nat) : EnvPar (E64 n) := envPar0 noPhi_par rfl
theorem FC64 (n : Nat × Nat) : FCs Try.prog 64 (P64 n) := phiOf_FCs fun xs r h vs hv => FC.of_runG tabOK eqsOK (env64 n) (par64 n) mixed (fun _ => noScope_ok) Try.func64 (c := c64) (an := an64) (pks := pk64) (rks := rk64) (by kernel_rfl) (by kernel_rfl) hv ((S64_run n xs).symm.trans h)
end Go.Proofs.Ytjgmfdgpgdaclaa
set_option linter.unusedVariables false
set_option linter.unusedSimpArgs false
set_option maxRecDepth 100000
namespace Go.Proofs.Ytjgmfdgpgdaclaa
open Go.Vi
/-D 64 -/
noncomputable def DF64_1 (n : Nat × Nat) (f1 : List Int → Int → Int → List Int → Option R64) (coins0 : List Int) (sum1 : Int) (i6 : Int) (out5 : List Int) : Option R64 :=
    (bif decide (i6 ≥ 0) then (idx coins0 i6).bind fun x1' =>
      (bif x1' == 0 then none
      else (bif inB i6 out5.length then (idx out5 i6).bind fun x2' =>
          (idx coins0 i6).bind fun x3' =>
          (bif x3' == 0 then none
          else f1 coins0 (Int.tmod sum1 x3') (wr .i64 (i6 - 1)) (out5.set (Int.toNat i6) (wr .i64 (Int.tdiv sum1 x1'))))
        else none))
    else some out5)
noncomputable def DL64_1 (n : Nat × Nat) (m : Nat) : List Int → Int → Int → List Int → Option R64 := Nat.rec (motive := fun _ => List Int → Int → Int → List Int → Option R64) (fun _ _ _ _ => none) (fun _ ih => DF64_1 n ih) m
theorem DL64_1_succ (n : Nat × Nat) (m : Nat) : DL64_1 n (m + 1) = DF64_1 n (DL64_1 n m) := rfl
theorem DL64_1_eq (n : Nat × Nat) (hn : n.2 = 1) : ∀ m, L64_1 n m = DL64_1 n m
  | 0 => by funext coins0 sum1 i6 out5; kernel_rfl
  | m + 1 => by
    have ih := DL64_1_eq n hn m
    funext coins0 sum1 i6 out5; refine (L64_1_eq n m coins0 sum1 i6 out5).trans ?_
    rw [DL64_1_succ]
    unfold DF64_1
    (try simp only [ih]) <;> first | with_reducible rfl | rfl
noncomputable def D64 (n : Nat × Nat) (coins0 : List Int) (sum1 : Int) : Option R64 :=
    (bif decide (0 ≤ (coins0.length : Int)) && decide ((coins0.length : Int) ≤ (coins0.length : Int)) && decide ((coins0.length : Int) ≤ lim) then DL64_1 n n.1 coins0 sum1 (wr .i64 ((coins0.length : Int) - 1)) (List.replicate (Int.toNat (coins0.length : Int)) (0 : Int))
    else none)
theorem S64_D (n : Nat × Nat) (hn : n.2 = 1) : S64 n = D64 n := by
  funext coins0 sum1; refine (S64_eq n coins0 sum1).trans ?_
  unfold D64
  (try simp only [DL64_1_eq n hn]) <;> first | with_reducible rfl | rfl
end Go.Proofs.Ytjgmfdgpgdaclaa
set_option linter.unusedVariables false
set_option linter.unusedSimpArgs false
set_option maxRecDepth 100000
namespace Go.Proofs.Ytjgmfdgpgdaclaa
open Go.Vi
/- headword/headwordref12.total -/
abbrev R70 := Int
noncomputable def c70 : Code := bodyOf Try.f70
noncomputable def an70 : Ann := (.s .l (.s .l (.s (.s .l (.j [3] (.j [0, 3, 4] (.s (.s .l (.j [0, 3, 4] .l .l)) (.s (.j [0, 3, 4] .l .l) .l)) .l) .l)) .l)))
def pk70 : List PK := [.c (.sl (.int .i64))]
def rk70 : List RK := [.c (.int .i64) 2]
noncomputable def rt70 (st : St) : Option R70 := rtG rk70 st
noncomputable def E70 (n : Nat × Nat) : Env := { T := tab, phi := noPhi, eff := fun _ => false, fuel := n.1, hold := n.2 }
noncomputable def kq70_1 (n : Nat × Nat) : St → Option R70 := run (E70 n) (cB (cB (cB c70))) (Ann.snd (Ann.snd (Ann.snd an70))) rt70 (fun _ _ => none) rt70
noncomputable def kc70_2 (n : Nat × Nat) : St → Option R70 := fun s => normC [3] s (kq70_1 n)
noncomputable def xb70_3 (n : Nat × Nat) : Nat → St → Option R70 := fun j s => bif Nat.beq j 0 then normC [3] s (kq70_1 n) else (fun _ _ => none) j s
noncomputable def F70_4 (n : Nat × Nat) : (St → Option R70) → St → Option R70 := fun K s => run (E70 n) (cA (cA (cB (cA (cB (cB c70)))))) (Ann.fst (Ann.fst (Ann.snd (Ann.fst (Ann.snd (Ann.snd an70)))))) (fun s => normC [0, 3, 4] s K) (xb70_3 n) rt70 s
noncomputable def kq70_5 (n : Nat × Nat) (m1 : Nat) : St → Option R70 := run (E70 n) (cB (cA (cA (cB (cA (cB (cB c70))))))) (Ann.snd (Ann.fst (Ann.fst (Ann.snd (Ann.fst (Ann.snd (Ann.snd an70))))))) (fun s => normC [0, 3, 4] s (loopN (F70_4 n) m1)) (xb70_3 n) rt70
noncomputable def kc70_6 (n : Nat × Nat) (m1 : Nat) : St → Option R70 := fun s => normC [0, 3, 4] s (kq70_5 n m1)
noncomputable def kq70_7 (n : Nat × Nat) (m1 : Nat) : St → Option R70 := run (E70 n) (cB (cB (cA (cA (cB (cA (cB (cB c70)))))))) (Ann.snd (Ann.snd (Ann.fst (Ann.fst (Ann.snd (Ann.fst (Ann.snd (Ann.snd an70)))))))) (fun s => normC [0, 3, 4] s (loopN (F70_4 n) m1)) (xb70_3 n) rt70
noncomputable def kc70_8 (n : Nat × Nat) (m1 : Nat) : St → Option R70 := fun s => normC [0, 3, 4] s (kq70_7 n m1)
noncomputable def xb70_9 (n : Nat × Nat) (m1 : Nat) : Nat → St → Option R70 := fun j s => bif Nat.beq j 1 then normC [0, 3, 4] s (kq70_7 n m1) else (xb70_3 n) j s
noncomputable def L70_1 (n : Nat × Nat) (m : Nat) (l0 : List Int) (v3 : Int) (i4 : Int) : Option R70 := loopN (F70_4 n) m { tm := [.c (.sl (.int .i64) l0 false), uu, uu, .c (.int .i64 v3), .c (.int .i64 i4), uu, uu, uu, uu, uu, uu, uu, uu, uu, uu, uu, uu, uu], hp := emp }
theorem L70_1_eq (n : Nat × Nat) (m1 : Nat) (l0 : List Int) (v3 : Int) (i4 : Int) : L70_1 n (m1 + 1) l0 v3 i4 =
    (bif decide (i4 < (l0.length : Int)) then (idx l0 i4).bind fun x1' =>
      L70_1 n m1 l0 (wr .i64 (v3 + x1')) (wr .i64 (i4 + 1))
    else some v3) := by kernel_rfl
noncomputable def S70 (n : Nat × Nat) (l0 : List Int) : Option R70 := run (E70 n) c70 an70 rt70 (fun _ _ => none) rt70 { tm := [.c (.sl (.int .i64) l0 false), uu, uu, uu, uu, uu, uu, uu, uu, uu, uu, uu, uu, uu, uu, uu, uu, uu], hp := emp }
theorem S70_eq (n : Nat × Nat) (l0 : List Int) : S70 n l0 =
    L70_1 n n.1 l0 0 0 := by kernel_rfl
theorem S70_run (n : Nat × Nat) (xs : pksDen pk70) : S70 n xs.1 = runG (E70 n) noScope c70 an70 (rtG rk70) (fun _ _ => none) (rtG rk70) (st0 pk70 xs Try.f70.ntmps) := by kernel_rfl
noncomputable def P70 (n : Nat × Nat) := phiOf pk70 rk70 (fun xs => S70 n xs.1)
theorem call70 : CallOK Try.prog 70 := callOK_of Try.func70 (by kernel_rfl) (by kernel_rfl)
theorem env70 (n : Nat × Nat) : EnvOK Try.prog (E70 n) := envOK0 noPhi_ok rfl rfl
theorem par70 (n : Nat × Nat) : EnvPar (E70 n) := envPar0 noPhi_par rfl
theorem FC70 (n : Nat × Nat) : FCs Try.prog 70 (P70 n) := phiOf_FCs fun xs r h vs hv => FC.of_runG tabOK eqsOK (env70 n) (par70 n) mixed (fun _ => noScope_ok) Try.func70 (c := c70) (an := an70) (pks := pk70) (rks := rk70) (by kernel_rfl) (by kernel_rfl) hv ((S70_run n xs).symm.trans h)
end Go.Proofs.Ytjgmfdgpgdaclaa
set_option linter.unusedVariables false
set_option linter.unusedSimpArgs false
set_option maxRecDepth 100000
namespace Go.Proofs.Ytjgmfdgpgdaclaa
open Go.Vi
/- headword/headwordref12.bad -/
abbrev R67 := Int
noncomputable def c67 : Code := bodyOf Try.f67
noncomputable def an67 : Ann := (.s .l (.s (.s .l (.j [0] .l .l)) (.s .l (.s .l (.s (.s .l (.j [] (.j [0, 3, 4, 5] (.s (.s .l (.j [0, 3, 4, 5] .l .l)) (.s (.j [0, 3, 4, 5] (.s .l (.j [0, 3, 4, 5] .l .l)) .l) .l)) .l) .l)) .l)))))
def pk67 : List PK := [.c (.sl (.int .i64))]
def rk67 : List RK := [.c (.int .i64) 2]
noncomputable def rt67 (st : St) : Option R67 := rtG rk67 st
noncomputable def E67 (n : Nat × Nat) : Env := { T := tab, phi := (consPhi 59 (fun _ => true) (P59 n) (consPhi 64 (fun _ => true) (P64 n) (consPhi 70 (fun _ => true) (P70 n) noPhi))), eff := fun _ => false, fuel := n.1, hold := n.2 }
noncomputable def kq67_1 (n : Nat × Nat) : St → Option R67 := run (E67 n) (cB (cB c67)) (Ann.snd (Ann.snd an67)) rt67 (fun _ _ => none) rt67
noncomputable def kc67_2 (n : Nat × Nat) : St → Option R67 := fun s => normC [0] s (kq67_1 n)
noncomputable def kq67_3 (n : Nat × Nat) : St → Option R67 := run (E67 n) (cB (cB (cB (cB (cB c67))))) (Ann.snd (Ann.snd (Ann.snd (Ann.snd (Ann.snd an67))))) rt67 (fun _ _ => none) rt67
noncomputable def kc67_4 (n : Nat × Nat) : St → Option R67 := fun s => normC [] s (kq67_3 n)
noncomputable def xb67_5 (n : Nat × Nat) : Nat → St → Option R67 := fun j s => bif Nat.beq j 0 then normC [] s (kq67_3 n) else (fun _ _ => none) j s
noncomputable def F67_6 (n : Nat × Nat) : (St → Option R67) → St → Option R67 := fun K s => run (E67 n) (cA (cA (cB (cA (cB (cB (cB (cB c67)))))))) (Ann.fst (Ann.fst (Ann.snd (Ann.fst (Ann.snd (Ann.snd (Ann.snd (Ann.snd an67)))))))) (fun s => normC [0, 3, 4, 5] s K) (xb67_5 n) rt67 s
noncomputable def kq67_7 (n : Nat × Nat) (m1 : Nat) : St → Option R67 := run (E67 n) (cB (cA (cA (cB (cA (cB (cB (cB (cB c67))))))))) (Ann.snd (Ann.fst (Ann.fst (Ann.snd (Ann.fst (Ann.snd (Ann.snd (Ann.snd (Ann.snd an67))))))))) (fun s => normC [0, 3, 4, 5] s (loopN (F67_6 n) m1)) (xb67_5 n) rt67
noncomputable def kc67_8 (n : Nat × Nat) (m1 : Nat) : St → Option R67 := fun s => normC [0, 3, 4, 5] s (kq67_7 n m1)
noncomputable def kq67_9 (n : Nat × Nat) (m1 : Nat) : St → Option R67 := run (E67 n) (cB (cB (cA (cA (cB (cA (cB (cB (cB (cB c67)))))))))) (Ann.snd (Ann.snd (Ann.fst (Ann.fst (Ann.snd (Ann.fst (Ann.snd (Ann.snd (Ann.snd (Ann.snd an67)))))))))) (fun s => normC [0, 3, 4, 5] s (loopN (F67_6 n) m1)) (xb67_5 n) rt67
noncomputable def kc67_10 (n : Nat × Nat) (m1 : Nat) : St → Option R67 := fun s => normC [0, 3, 4, 5] s (kq67_9 n m1)
noncomputable def xb67_11 (n : Nat × Nat) (m1 : Nat) : Nat → St → Option R67 := fun j s => bif Nat.beq j 1 then normC [0, 3, 4, 5] s (kq67_9 n m1) else (xb67_5 n) j s
noncomputable def kc67_12 (n : Nat × Nat) (m1 : Nat) : St → Option R67 := fun s => normC [0, 3, 4, 5] s (kc67_10 n m1)
noncomputable def L67_1 (n : Nat × Nat) (m : Nat) (coins0 : List Int) (most3 : Int) (s5 : Int) (l4 : List Int) : Option R67 := loopN (F67_6 n) m { tm := [.c (.sl (.int .i64) coins0 false), uu, uu, .c (.int .i64 most3), .own 4 none false, .c (.int .i64 s5), uu, uu, uu, uu, uu, uu, uu, uu, uu, uu, uu, uu, uu, uu, uu, uu, uu, uu, uu, uu, uu, uu, uu, uu, uu, uu, uu, uu, uu, uu, uu, uu, uu, uu], hp := (upd emp 4 (.arr (.int .i64) l4 false)) }
theorem L67_1_eq (n : Nat × Nat) (m1 : Nat) (coins0 : List Int) (most3 : Int) (s5 : Int) (l4 : List Int) : L67_1 n (m1 + 1) coins0 most3 s5 l4 =
    (bif decide (s5 < most3) then (S64 n coins0 s5).bind fun r4' =>
      (S70 n r4').bind fun r5' =>
      (bif inB s5 l4.length then (idx l4 s5).bind fun x6' =>
        (bif decide (r5' > x6') then some s5
        else L67_1 n m1 coins0 most3 (wr .i64 (s5 + 1)) l4)
      else none)
    else some 0) := by kernel_rfl
noncomputable def S67 (n : Nat × Nat) (coins0 : List Int) : Option R67 := run (E67 n) c67 an67 rt67 (fun _ _ => none) rt67 { tm := [.c (.sl (.int .i64) coins0 false), uu, uu, uu, uu, uu, uu, uu, uu, uu, uu, uu, uu, uu, uu, uu, uu, uu, uu, uu, uu, uu, uu, uu, uu, uu, uu, uu, uu, uu, uu, uu, uu, uu, uu, uu, uu, uu, uu, uu], hp := emp }
theorem S67_eq (n : Nat × Nat) (coins0 : List Int) : S67 n coins0 =
    (bif decide ((coins0.length : Int) < 3) then some 0
    else (idx coins0 (wr .i64 ((coins0.length : Int) - 1))).bind fun x1' =>
      (idx coins0 (wr .i64 ((coins0.length : Int) - 2))).bind fun x2' =>
      (S59 n coins0 (wr .i64 (x1' + x2'))).bind fun r3' =>
      L67_1 n n.1 coins0 (wr .i64 (x1' + x2')) 1 r3') := by kernel_rfl
theorem S67_run (n : Nat × Nat) (xs : pksDen pk67) : S67 n xs.1 = runG (E67 n) noScope c67 an67 (rtG rk67) (fun _ _ => none) (rtG rk67) (st0 pk67 xs Try.f67.ntmps) := by kernel_rfl
noncomputable def P67 (n : Nat × Nat) := phiOf pk67 rk67 (fun xs => S67 n xs.1)
theorem call67 : CallOK Try.prog 67 := callOK_of Try.func67 (by kernel_rfl) (by kernel_rfl)
theorem env67 (n : Nat × Nat) : EnvOK Try.prog (E67 n) := envOK0 (consPhi_ok (FC59 n) call59 (consPhi_ok (FC64 n) call64 (consPhi_ok (FC70 n) call70 noPhi_ok))) rfl rfl
theorem par67 (n : Nat × Nat) : EnvPar (E67 n) := envPar0 (consPhi_par phiOf_Par1 (consPhi_par phiOf_Par1 (consPhi_par phiOf_Par1 noPhi_par))) rfl
theorem FC67 (n : Nat × Nat) : FCs Try.prog 67 (P67 n) := phiOf_FCs fun xs r h vs hv => FC.of_runG tabOK eqsOK (env67 n) (par67 n) mixed (fun _ => noScope_ok) Try.func67 (c := c67) (an := an67) (pks := pk67) (rks := rk67) (by kernel_rfl) (by kernel_rfl) hv ((S67_run n xs).symm.trans h)
end Go.Proofs.Ytjgmfdgpgdaclaa
set_option linter.unusedVariables false
set_option linter.unusedSimpArgs false
set_option maxRecDepth 100000
namespace Go.Proofs.Ytjgmfdgpgdaclaa
open Go.Vi
/- headword/headwordref12.Good -/
abbrev R28 := Bool × Int
noncomputable def c28 : Code := bodyOf Try.f28
noncomputable def an28 : Ann := (.s .l (.s .l (.s (.s .l (.j [0] .l .l)) .l)))
def pk28 : List PK := [.c (.sl (.int .i64))]
def rk28 : List RK := [.c .bool 2, .c (.int .i64) 3]
noncomputable def rt28 (st : St) : Option R28 := rtG rk28 st
noncomputable def E28 (n : Nat × Nat) : Env := { T := tab, phi := (consPhi 26 (fun _ => true) (P26 n) (consPhi 67 (fun _ => true) (P67 n) noPhi)), eff := fun _ => false, fuel := n.1, hold := n.2 }
noncomputable def kq28_1 (n : Nat × Nat) : St → Option R28 := run (E28 n) (cB (cB (cB c28))) (Ann.snd (Ann.snd (Ann.snd an28))) rt28 (fun _ _ => none) rt28
noncomputable def kc28_2 (n : Nat × Nat) : St → Option R28 := fun s => normC [0] s (kq28_1 n)
noncomputable def S28 (n : Nat × Nat) (coins0 : List Int) : Option R28 := run (E28 n) c28 an28 rt28 (fun _ _ => none) rt28 { tm := [.c (.sl (.int .i64) coins0 false), uu, uu, uu, uu, uu, uu, uu, uu, uu, uu, uu, uu], hp := emp }
theorem S28_eq (n : Nat × Nat) (coins0 : List Int) : S28 n coins0 =
    (S26 n coins0).bind fun r1' =>
    (bif (r1' != 0) then some (false, r1')
    else (S67 n coins0).bind fun r2' =>
      some ((r2' == 0), 0)) := by kernel_rfl
theorem S28_run (n : Nat × Nat) (xs : pksDen pk28) : S28 n xs.1 = runG (E28 n) noScope c28 an28 (rtG rk28) (fun _ _ => none) (rtG rk28) (st0 pk28 xs Try.f28.ntmps) := by kernel_rfl
noncomputable def P28 (n : Nat × Nat) := phiOf pk28 rk28 (fun xs => S28 n xs.1)
theorem call28 : CallOK Try.prog 28 := callOK_of Try.func28 (by kernel_rfl) (by kernel_rfl)
theorem env28 (n : Nat × Nat) : EnvOK Try.prog (E28 n) := envOK0 (consPhi_ok (FC26 n) call26 (consPhi_ok (FC67 n) call67 noPhi_ok)) rfl rfl
theorem par28 (n : Nat × Nat) : EnvPar (E28 n) := envPar0 (consPhi_par phiOf_Par1 (consPhi_par phiOf_Par1 noPhi_par)) rfl
theorem FC28 (n : Nat × Nat) : FCs Try.prog 28 (P28 n) := phiOf_FCs fun xs r h vs hv => FC.of_runG tabOK eqsOK (env28 n) (par28 n) mixed (fun _ => noScope_ok) Try.func28 (c := c28) (an := an28) (pks := pk28) (rks := rk28) (by kernel_rfl) (by kernel_rfl) hv ((S28_run n xs).symm.trans h)
end Go.Proofs.Ytjgmfdgpgdaclaa
set_option linter.unusedVariables false
set_option linter.unusedSimpArgs false
set_option maxRecDepth 100000
namespace Go.Proofs.Ytjgmfdgpgdaclaa
open Go.Vi
/-D 70 -/
noncomputable def DF70_1 (n : Nat × Nat) (f1 : List Int → Int → Int → Option R70) (l0 : List Int) (v3 : Int) (i4 : Int) : Option R70 :=
    (bif decide (i4 < (l0.length : Int)) then (idx l0 i4).bind fun x1' =>
      f1 l0 (wr .i64 (v3 + x1')) (wr .i64 (i4 + 1))
    else some v3)
noncomputable def DL70_1 (n : Nat × Nat) (m : Nat) : List Int → Int → Int → Option R70 := Nat.rec (motive := fun _ => List Int → Int → Int → Option R70) (fun _ _ _ => none) (fun _ ih => DF70_1 n ih) m
theorem DL70_1_succ (n : Nat × Nat) (m : Nat) : DL70_1 n (m + 1) = DF70_1 n (DL70_1 n m) := rfl
theorem DL70_1_eq (n : Nat × Nat) (hn : n.2 = 1) : ∀ m, L70_1 n m = DL70_1 n m
  | 0 => by funext l0 v3 i4; kernel_rfl
  | m + 1 => by
    have ih := DL70_1_eq n hn m
    funext l0 v3 i4; refine (L70_1_eq n m l0 v3 i4).trans ?_
    rw [DL70_1_succ]
    unfold DF70_1
    (try simp only [ih]) <;> first | with_reducible rfl | rfl
noncomputable def D70 (n : Nat × Nat) (l0 : List Int) : Option R70 :=
    DL70_1 n n.1 l0 0 0
theorem S70_D (n : Nat × Nat) (hn : n.2 = 1) : S70 n = D70 n := by
  funext l0; refine (S70_eq n l0).trans ?_
  unfold D70
  (try simp only [DL70_1_eq n hn]) <;> first | with_reducible rfl | rfl
end Go.Proofs.Ytjgmfdgpgdaclaa
set_option linter.unusedVariables false
set_option linter.unusedSimpArgs false
set_option maxRecDepth 100000
namespace Go.Proofs.Ytjgmfdgpgdaclaa
open Go.Vi
/-D 67 -/
noncomputable def DF67_1 (n : Nat × Nat) (f1 : List Int → Int → Int → List Int → Option R67) (coins0 : List Int) (most3 : Int) (s5 : Int) (l4 : List Int) : Option R67 :=
    (bif decide (s5 < most3) then (D64 n coins0 s5).bind fun r4' =>
      (D70 n r4').bind fun r5' =>
      (bif inB s5 l4.length then (idx l4 s5).bind fun x6' =>
        (bif decide (r5' > x6') then some s5
        else f1 coins0 most3 (wr .i64 (s5 + 1)) l4)
      else none)
    else some 0)
noncomputable def DL67_1 (n : Nat × Nat) (m : Nat) : List Int → Int → Int → List Int → Option R67 := Nat.rec (motive := fun _ => List Int → Int → Int → List Int → Option R67) (fun _ _ _ _ => none) (fun _ ih => DF67_1 n ih) m
theorem DL67_1_succ (n : Nat × Nat) (m : Nat) : DL67_1 n (m + 1) = DF67_1 n (DL67_1 n m) := rfl
theorem DL67_1_eq (n : Nat × Nat) (hn : n.2 = 1) : ∀ m, L67_1 n m = DL67_1 n m
  | 0 => by funext coins0 most3 s5 l4; kernel_rfl
  | m + 1 => by
    have ih := DL67_1_eq n hn m
    funext coins0 most3 s5 l4; refine (L67_1_eq n m coins0 most3 s5 l4).trans ?_
    rw [DL67_1_succ]
    unfold DF67_1
    (try simp only [ih, S59_D n hn, S64_D n hn, S70_D n hn]) <;> first | with_reducible rfl | rfl
noncomputable def D67 (n : Nat × Nat) (coins0 : List Int) : Option R67 :=
    (bif decide ((coins0.length : Int) < 3) then some 0
    else (idx coins0 (wr .i64 ((coins0.length : Int) - 1))).bind fun x1' =>
      (idx coins0 (wr .i64 ((coins0.length : Int) - 2))).bind fun x2' =>
      (D59 n coins0 (wr .i64 (x1' + x2'))).bind fun r3' =>
      DL67_1 n n.1 coins0 (wr .i64 (x1' + x2')) 1 r3')
theorem S67_D (n : Nat × Nat) (hn : n.2 = 1) : S67 n = D67 n := by
  funext coins0; refine (S67_eq n coins0).trans ?_
  unfold D67
  (try simp only [DL67_1_eq n hn, S59_D n hn, S64_D n hn, S70_D n hn]) <;> first | with_reducible rfl | rfl
end Go.Proofs.Ytjgmfdgpgdaclaa
set_option linter.unusedVariables false
set_option linter.unusedSimpArgs false
set_option maxRecDepth 100000
namespace Go.Proofs.Ytjgmfdgpgdaclaa
open Go.Vi
/-D 28 -/
noncomputable def D28 (n : Nat × Nat) (coins0 : List Int) : Option R28 :=
    (D26 n coins0).bind fun r1' =>
    (bif (r1' != 0) then some (false, r1')
    else (D67 n coins0).bind fun r2' =>
      some ((r2' == 0), 0))
theorem S28_D (n : Nat × Nat) (hn : n.2 = 1) : S28 n = D28 n := by
  funext coins0; refine (S28_eq n coins0).trans ?_
  unfold D28
  (try simp only [S26_D n hn, S67_D n hn]) <;> first | with_reducible rfl | rfl
end Go.Proofs.Ytjgmfdgpgdaclaa
set_option linter.unusedVariables false
set_option linter.unusedSimpArgs false
set_option maxRecDepth 100000
namespace Go.Proofs.Ytjgmfdgpgdaclaa
open Go.Vi
/- headword/headwordref12.Why -/
abbrev R30 := Int × Int
noncomputable def c30 : Code := bodyOf Try.f30
noncomputable def an30 : Ann := (.s .l (.s .l (.s (.s .l (.j [0, 4] .l .l)) (.s (.s .l (.j [0] .l .l)) .l))))
def pk30 : List PK := [.c (.sl (.int .i64))]
def rk30 : List RK := [.c (.int .i64) 2, .c (.int .i64) 3]
noncomputable def rt30 (st : St) : Option R30 := rtG rk30 st
noncomputable def E30 (n : Nat × Nat) : Env := { T := tab, phi := (consPhi 26 (fun _ => true) (P26 n) (consPhi 67 (fun _ => true) (P67 n) noPhi)), eff := fun _ => false, fuel := n.1, hold := n.2 }
noncomputable def kq30_1 (n : Nat × Nat) : St → Option R30 := run (E30 n) (cB (cB (cB c30))) (Ann.snd (Ann.snd (Ann.snd an30))) rt30 (fun _ _ => none) rt30
noncomputable def kc30_2 (n : Nat × Nat) : St → Option R30 := fun s => normC [0, 4] s (kq30_1 n)
noncomputable def kq30_3 (n : Nat × Nat) : St → Option R30 := run (E30 n) (cB (cB (cB (cB c30)))) (Ann.snd (Ann.snd (Ann.snd (Ann.snd an30)))) rt30 (fun _ _ => none) rt30
noncomputable def kc30_4 (n : Nat × Nat) : St → Option R30 := fun s => normC [0] s (kq30_3 n)
noncomputable def S30 (n : Nat × Nat) (coins0 : List Int) : Option R30 := run (E30 n) c30 an30 rt30 (fun _ _ => none) rt30 { tm := [.c (.sl (.int .i64) coins0 false), uu, uu, uu, uu, uu, uu, uu, uu, uu, uu, uu, uu, uu, uu, uu, uu, uu, uu], hp := emp }
theorem S30_eq (n : Nat × Nat) (coins0 : List Int) : S30 n coins0 =
    (S26 n coins0).bind fun r1' =>
    ((bif ((r1' == 0) == true) then (S67 n coins0).bind fun r2' =>
        some (r2' == 0)
      else some false)).bind fun b3' =>
    (bif b3' then (bif (13 != 0) then some (0, 13)
      else (S67 n coins0).bind fun r4' =>
        some (r4', 0))
    else (bif (r1' != 0) then some (0, r1')
      else (S67 n coins0).bind fun r5' =>
        some (r5', 0))) := by kernel_rfl
theorem S30_run (n : Nat × Nat) (xs : pksDen pk30) : S30 n xs.1 = runG (E30 n) noScope c30 an30 (rtG rk30) (fun _ _ => none) (rtG rk30) (st0 pk30 xs Try.f30.ntmps) := by kernel_rfl
noncomputable def P30 (n : Nat × Nat) := phiOf pk30 rk30 (fun xs => S30 n xs.1)
theorem call30 : CallOK Try.prog 30 := callOK_of Try.func30 (by kernel_rfl) (by kernel_rfl)
theorem env30 (n : Nat × Nat) : EnvOK Try.prog (E30 n) := envOK0 (consPhi_ok (FC26 n) call26 (consPhi_ok (FC67 n) call67 noPhi_ok)) rfl rfl
theorem par30 (n : Nat × Nat) : EnvPar (E30 n) := envPar0 (consPhi_par phiOf_Par1 (consPhi_par phiOf_Par1 noPhi_par)) rfl
theorem FC30 (n : Nat × Nat) : FCs Try.prog 30 (P30 n) := phiOf_FCs fun xs r h vs hv => FC.of_runG tabOK eqsOK (env30 n) (par30 n) mixed (fun _ => noScope_ok) Try.func30 (c := c30) (an := an30) (pks := pk30) (rks := rk30) (by kernel_rfl) (by kernel_rfl) hv ((S30_run n xs).symm.trans h)
end Go.Proofs.Ytjgmfdgpgdaclaa
set_option linter.unusedVariables false
set_option linter.unusedSimpArgs false
set_option maxRecDepth 100000
namespace Go.Proofs.Ytjgmfdgpgdaclaa
open Go.Vi
/-D 30 -/
noncomputable def D30 (n : Nat × Nat) (coins0 : List Int) : Option R30 :=
    (D26 n coins0).bind fun r1' =>
    ((bif ((r1' == 0) == true) then (D67 n coins0).bind fun r2' =>
        some (r2' == 0)
      else some false)).bind fun b3' =>
    (bif b3' then (bif (13 != 0) then some (0, 13)
      else (D67 n coins0).bind fun r4' =>
        some (r4', 0))
    else (bif (r1' != 0) then some (0, r1')
      else (D67 n coins0).bind fun r5' =>
        some (r5', 0)))
theorem S30_D (n : Nat × Nat) (hn : n.2 = 1) : S30 n = D30 n := by
  funext coins0; refine (S30_eq n coins0).trans ?_
  unfold D30
  (try simp only [S26_D n hn, S67_D n hn]) <;> first | with_reducible rfl | rfl
end Go.Proofs.Ytjgmfdgpgdaclaa
set_option linter.unusedVariables false
set_option linter.unusedSimpArgs false
set_option maxRecDepth 100000
namespace Go.Proofs.Ytjgmfdgpgdaclaa
open Go.Vi
/- headword/headwordref12.counted -/
abbrev R69 := Int
noncomputable def c69 : Code := bodyOf Try.f69
noncomputable def an69 : Ann := (.s .l (.s (.s .l (.j [1] .l .l)) (.s (.s .l (.j [] (.j [1, 5] (.s (.s .l (.j [1, 5] .l .l)) (.s (.j [1, 5] (.s .l (.j [1, 5] .l .l)) .l) .l)) .l) .l)) .l)))
def pk69 : List PK := [.c (.sl (.int .i64)), .c (.sl (.int .i64))]
def rk69 : List RK := [.c (.int .i64) 4]
noncomputable def rt69 (st : St) : Option R69 := rtG rk69 st
noncomputable def E69 (n : Nat × Nat) : Env := { T := tab, phi := (consPhi 65 (fun _ => true) (P65 n) noPhi), eff := fun _ => false, fuel := n.1, hold := n.2 }
noncomputable def kq69_1 (n : Nat × Nat) : St → Option R69 := run (E69 n) (cB (cB c69)) (Ann.snd (Ann.snd an69)) rt69 (fun _ _ => none) rt69
noncomputable def kc69_2 (n : Nat × Nat) : St → Option R69 := fun s => normC [1] s (kq69_1 n)
noncomputable def kq69_3 (n : Nat × Nat) : St → Option R69 := run (E69 n) (cB (cB (cB c69))) (Ann.snd (Ann.snd (Ann.snd an69))) rt69 (fun _ _ => none) rt69
noncomputable def kc69_4 (n : Nat × Nat) : St → Option R69 := fun s => normC [] s (kq69_3 n)
noncomputable def xb69_5 (n : Nat × Nat) : Nat → St → Option R69 := fun j s => bif Nat.beq j 0 then normC [] s (kq69_3 n) else (fun _ _ => none) j s
noncomputable def F69_6 (n : Nat × Nat) : (St → Option R69) → St → Option R69 := fun K s => run (E69 n) (cA (cA (cB (cA (cB (cB c69)))))) (Ann.fst (Ann.fst (Ann.snd (Ann.fst (Ann.snd (Ann.snd an69)))))) (fun s => normC [1, 5] s K) (xb69_5 n) rt69 s
noncomputable def kq69_7 (n : Nat × Nat) (m1 : Nat) : St → Option R69 := run (E69 n) (cB (cA (cA (cB (cA (cB (cB c69))))))) (Ann.snd (Ann.fst (Ann.fst (Ann.snd (Ann.fst (Ann.snd (Ann.snd an69))))))) (fun s => normC [1, 5] s (loopN (F69_6 n) m1)) (xb69_5 n) rt69
noncomputable def kc69_8 (n : Nat × Nat) (m1 : Nat) : St → Option R69 := fun s => normC [1, 5] s (kq69_7 n m1)
noncomputable def kq69_9 (n : Nat × Nat) (m1 : Nat) : St → Option R69 := run (E69 n) (cB (cB (cA (cA (cB (cA (cB (cB c69)))))))) (Ann.snd (Ann.snd (Ann.fst (Ann.fst (Ann.snd (Ann.fst (Ann.snd (Ann.snd an69)))))))) (fun s => normC [1, 5] s (loopN (F69_6 n) m1)) (xb69_5 n) rt69
noncomputable def kc69_10 (n : Nat × Nat) (m1 : Nat) : St → Option R69 := fun s => normC [1, 5] s (kq69_9 n m1)
noncomputable def xb69_11 (n : Nat × Nat) (m1 : Nat) : Nat → St → Option R69 := fun j s => bif Nat.beq j 1 then normC [1, 5] s (kq69_9 n m1) else (xb69_5 n) j s
noncomputable def kc69_12 (n : Nat × Nat) (m1 : Nat) : St → Option R69 := fun s => normC [1, 5] s (kc69_10 n m1)
noncomputable def L69_1 (n : Nat × Nat) (m : Nat) (l1 : List Int) (i5 : Int) : Option R69 := loopN (F69_6 n) m { tm := [uu, .c (.sl (.int .i64) l1 false), uu, uu, uu, .c (.int .i64 i5), uu, uu, uu, uu, uu, uu, uu, uu, uu, uu, uu, uu, uu, uu, uu, uu, uu], hp := emp }
theorem L69_1_eq (n : Nat × Nat) (m1 : Nat) (l1 : List Int) (i5 : Int) : L69_1 n (m1 + 1) l1 i5 =
    (bif decide (i5 < (l1.length : Int)) then (idx l1 i5).bind fun x1' =>
      (S65 n x1' 0 200).bind fun r2' =>
      (bif (!r2') then some 1
      else L69_1 n m1 l1 (wr .i64 (i5 + 1)))
    else some 0) := by kernel_rfl
noncomputable def S69 (n : Nat × Nat) (coins0 : List Int) (l1 : List Int) : Option R69 := run (E69 n) c69 an69 rt69 (fun _ _ => none) rt69 { tm := [.c (.sl (.int .i64) coins0 false), .c (.sl (.int .i64) l1 false), uu, uu, uu, uu, uu, uu, uu, uu, uu, uu, uu, uu, uu, uu, uu, uu, uu, uu, uu, uu, uu], hp := emp }
theorem S69_eq (n : Nat × Nat) (coins0 : List Int) (l1 : List Int) : S69 n coins0 l1 =
    (bif ((l1.length : Int) != (coins0.length : Int)) then some 5
    else L69_1 n n.1 l1 0) := by kernel_rfl
theorem S69_run (n : Nat × Nat) (xs : pksDen pk69) : S69 n xs.1 xs.2.1 = runG (E69 n) noScope c69 an69 (rtG rk69) (fun _ _ => none) (rtG rk69) (st0 pk69 xs Try.f69.ntmps) := by kernel_rfl
noncomputable def P69 (n : Nat × Nat) := phiOf pk69 rk69 (fun xs => S69 n xs.1 xs.2.1)
theorem call69 : CallOK Try.prog 69 := callOK_of Try.func69 (by kernel_rfl) (by kernel_rfl)
theorem env69 (n : Nat × Nat) : EnvOK Try.prog (E69 n) := envOK0 (consPhi_ok (FC65 n) call65 noPhi_ok) rfl rfl
theorem par69 (n : Nat × Nat) : EnvPar (E69 n) := envPar0 (consPhi_par phiOf_Par1 noPhi_par) rfl
theorem FC69 (n : Nat × Nat) : FCs Try.prog 69 (P69 n) := phiOf_FCs fun xs r h vs hv => FC.of_runG tabOK eqsOK (env69 n) (par69 n) mixed (fun _ => noScope_ok) Try.func69 (c := c69) (an := an69) (pks := pk69) (rks := rk69) (by kernel_rfl) (by kernel_rfl) hv ((S69_run n xs).symm.trans h)
end Go.Proofs.Ytjgmfdgpgdaclaa
set_option linter.unusedVariables false
set_option linter.unusedSimpArgs false
set_option maxRecDepth 100000
namespace Go.Proofs.Ytjgmfdgpgdaclaa
open Go.Vi
/- headword/headwordref12.Proves -/
abbrev R32 := Int
noncomputable def c32 : Code := bodyOf Try.f32
noncomputable def an32 : Ann := (.s .l (.s .l (.s (.s .l (.j [0, 1, 2, 7] .l .l)) (.s (.s .l (.j [0, 1, 2] .l .l)) (.s .l (.s (.s .l (.j [0, 1, 2, 8] (.j [0, 1, 2, 8, 9] (.s (.s .l (.j [0, 1, 2, 8, 9] .l .l)) (.s (.j [0, 1, 2, 8, 9] .l .l) .l)) .l) .l)) (.s (.s .l (.j [0, 1, 2] .l .l)) (.s (.s .l (.j [] .l .l)) .l))))))))
def pk32 : List PK := [.c (.sl (.int .i64)), .c (.int .i64), .c (.sl (.int .i64))]
def rk32 : List RK := [.c (.int .i64) 6]
noncomputable def rt32 (st : St) : Option R32 := rtG rk32 st
noncomputable def E32 (n : Nat × Nat) : Env := { T := tab, phi := (consPhi 58 (fun _ => true) (P58 n) (consPhi 64 (fun _ => true) (P64 n) (consPhi 69 (fun _ => true) (P69 n) (consPhi 70 (fun _ => true) (P70 n) noPhi)))), eff := fun _ => false, fuel := n.1, hold := n.2 }
noncomputable def kq32_1 (n : Nat × Nat) : St → Option R32 := run (E32 n) (cB (cB (cB c32))) (Ann.snd (Ann.snd (Ann.snd an32))) rt32 (fun _ _ => none) rt32
noncomputable def kc32_2 (n : Nat × Nat) : St → Option R32 := fun s => normC [0, 1, 2, 7] s (kq32_1 n)
noncomputable def kq32_3 (n : Nat × Nat) : St → Option R32 := run (E32 n) (cB (cB (cB (cB c32)))) (Ann.snd (Ann.snd (Ann.snd (Ann.snd an32)))) rt32 (fun _ _ => none) rt32
noncomputable def kc32_4 (n : Nat × Nat) : St → Option R32 := fun s => normC [0, 1, 2] s (kq32_3 n)
noncomputable def kq32_5 (n : Nat × Nat) : St → Option R32 := run (E32 n) (cB (cB (cB (cB (cB (cB c32)))))) (Ann.snd (Ann.snd (Ann.snd (Ann.snd (Ann.snd (Ann.snd an32)))))) rt32 (fun _ _ => none) rt32
noncomputable def kc32_6 (n : Nat × Nat) : St → Option R32 := fun s => normC [0, 1, 2, 8] s (kq32_5 n)
noncomputable def xb32_7 (n : Nat × Nat) : Nat → St → Option R32 := fun j s => bif Nat.beq j 0 then normC [0, 1, 2, 8] s (kq32_5 n) else (fun _ _ => none) j s
noncomputable def F32_8 (n : Nat × Nat) : (St → Option R32) → St → Option R32 := fun K s => run (E32 n) (cA (cA (cB (cA (cB (cB (cB (cB (cB c32))))))))) (Ann.fst (Ann.fst (Ann.snd (Ann.fst (Ann.snd (Ann.snd (Ann.snd (Ann.snd (Ann.snd an32))))))))) (fun s => normC [0, 1, 2, 8, 9] s K) (xb32_7 n) rt32 s
noncomputable def kq32_9 (n : Nat × Nat) (m1 : Nat) : St → Option R32 := run (E32 n) (cB (cA (cA (cB (cA (cB (cB (cB (cB (cB c32)))))))))) (Ann.snd (Ann.fst (Ann.fst (Ann.snd (Ann.fst (Ann.snd (Ann.snd (Ann.snd (Ann.snd (Ann.snd an32)))))))))) (fun s => normC [0, 1, 2, 8, 9] s (loopN (F32_8 n) m1)) (xb32_7 n) rt32
noncomputable def kc32_10 (n : Nat × Nat) (m1 : Nat) : St → Option R32 := fun s => normC [0, 1, 2, 8, 9] s (kq32_9 n m1)
noncomputable def kq32_11 (n : Nat × Nat) (m1 : Nat) : St → Option R32 := run (E32 n) (cB (cB (cA (cA (cB (cA (cB (cB (cB (cB (cB c32))))))))))) (Ann.snd (Ann.snd (Ann.fst (Ann.fst (Ann.snd (Ann.fst (Ann.snd (Ann.snd (Ann.snd (Ann.snd (Ann.snd an32))))))))))) (fun s => normC [0, 1, 2, 8, 9] s (loopN (F32_8 n) m1)) (xb32_7 n) rt32
noncomputable def kc32_12 (n : Nat × Nat) (m1 : Nat) : St → Option R32 := fun s => normC [0, 1, 2, 8, 9] s (kq32_11 n m1)
noncomputable def xb32_13 (n : Nat × Nat) (m1 : Nat) : Nat → St → Option R32 := fun j s => bif Nat.beq j 1 then normC [0, 1, 2, 8, 9] s (kq32_11 n m1) else (xb32_7 n) j s
noncomputable def kq32_14 (n : Nat × Nat) : St → Option R32 := run (E32 n) (cB (cB (cB (cB (cB (cB (cB c32))))))) (Ann.snd (Ann.snd (Ann.snd (Ann.snd (Ann.snd (Ann.snd (Ann.snd an32))))))) rt32 (fun _ _ => none) rt32
noncomputable def kc32_15 (n : Nat × Nat) : St → Option R32 := fun s => normC [0, 1, 2] s (kq32_14 n)
noncomputable def kq32_16 (n : Nat × Nat) : St → Option R32 := run (E32 n) (cB (cB (cB (cB (cB (cB (cB (cB c32)))))))) (Ann.snd (Ann.snd (Ann.snd (Ann.snd (Ann.snd (Ann.snd (Ann.snd (Ann.snd an32)))))))) rt32 (fun _ _ => none) rt32
noncomputable def kc32_17 (n : Nat × Nat) : St → Option R32 := fun s => normC [] s (kq32_16 n)
noncomputable def L32_1 (n : Nat × Nat) (m : Nat) (coins0 : List Int) (sum1 : Int) (payment2 : List Int) (v8 : Int) (i9 : Int) : Option R32 := loopN (F32_8 n) m { tm := [.c (.sl (.int .i64) coins0 false), .c (.int .i64 sum1), .c (.sl (.int .i64) payment2 false), uu, uu, uu, uu, uu, .c (.int .i64 v8), .c (.int .i64 i9), uu, uu, uu, uu, uu, uu, uu, uu, uu, uu, uu, uu, uu, uu, uu, uu, uu, uu, uu, uu, uu, uu, uu, uu, uu, uu, uu, uu, uu, uu, uu, uu, uu, uu, uu, uu, uu, uu], hp := emp }
theorem L32_1_eq (n : Nat × Nat) (m1 : Nat) (coins0 : List Int) (sum1 : Int) (payment2 : List Int) (v8 : Int) (i9 : Int) : L32_1 n (m1 + 1) coins0 sum1 payment2 v8 i9 =
    (bif decide (i9 < (coins0.length : Int)) then (idx coins0 i9).bind fun x3' =>
      (idx payment2 i9).bind fun x4' =>
      L32_1 n m1 coins0 sum1 payment2 (wr .i64 (v8 + (wr .i64 (x3' * x4')))) (wr .i64 (i9 + 1))
    else (bif (v8 != sum1) then some 17
      else (S70 n payment2).bind fun r5' =>
        (S64 n coins0 sum1).bind fun r6' =>
        (S70 n r6').bind fun r7' =>
        (bif decide (r5' ≥ r7') then some 14
        else some 0))) := by kernel_rfl
noncomputable def S32 (n : Nat × Nat) (coins0 : List Int) (sum1 : Int) (payment2 : List Int) : Option R32 := run (E32 n) c32 an32 rt32 (fun _ _ => none) rt32 { tm := [.c (.sl (.int .i64) coins0 false), .c (.int .i64 sum1), .c (.sl (.int .i64) payment2 false), uu, uu, uu, uu, uu, uu, uu, uu, uu, uu, uu, uu, uu, uu, uu, uu, uu, uu, uu, uu, uu, uu, uu, uu, uu, uu, uu, uu, uu, uu, uu, uu, uu, uu, uu, uu, uu, uu, uu, uu, uu, uu, uu, uu, uu], hp := emp }
theorem S32_eq (n : Nat × Nat) (coins0 : List Int) (sum1 : Int) (payment2 : List Int) : S32 n coins0 sum1 payment2 =
    (S58 n coins0 sum1).bind fun r1' =>
    (bif (r1' == 0) then (S69 n coins0 payment2).bind fun r2' =>
      (bif (r2' != 0) then some r2'
      else L32_1 n n.1 coins0 sum1 payment2 0 0)
    else (bif (r1' != 0) then some r1'
      else L32_1 n n.1 coins0 sum1 payment2 0 0)) := by kernel_rfl
theorem S32_run (n : Nat × Nat) (xs : pksDen pk32) : S32 n xs.1 xs.2.1 xs.2.2.1 = runG (E32 n) noScope c32 an32 (rtG rk32) (fun _ _ => none) (rtG rk32) (st0 pk32 xs Try.f32.ntmps) := by kernel_rfl
noncomputable def P32 (n : Nat × Nat) := phiOf pk32 rk32 (fun xs => S32 n xs.1 xs.2.1 xs.2.2.1)
theorem call32 : CallOK Try.prog 32 := callOK_of Try.func32 (by kernel_rfl) (by kernel_rfl)
theorem env32 (n : Nat × Nat) : EnvOK Try.prog (E32 n) := envOK0 (consPhi_ok (FC58 n) call58 (consPhi_ok (FC64 n) call64 (consPhi_ok (FC69 n) call69 (consPhi_ok (FC70 n) call70 noPhi_ok)))) rfl rfl
theorem par32 (n : Nat × Nat) : EnvPar (E32 n) := envPar0 (consPhi_par phiOf_Par1 (consPhi_par phiOf_Par1 (consPhi_par phiOf_Par1 (consPhi_par phiOf_Par1 noPhi_par)))) rfl
theorem FC32 (n : Nat × Nat) : FCs Try.prog 32 (P32 n) := phiOf_FCs fun xs r h vs hv => FC.of_runG tabOK eqsOK (env32 n) (par32 n) mixed (fun _ => noScope_ok) Try.func32 (c := c32) (an := an32) (pks := pk32) (rks := rk32) (by kernel_rfl) (by kernel_rfl) hv ((S32_run n xs).symm.trans h)
end Go.Proofs.Ytjgmfdgpgdaclaa
set_option linter.unusedVariables false
set_option linter.unusedSimpArgs false
set_option maxRecDepth 100000
namespace Go.Proofs.Ytjgmfdgpgdaclaa
open Go.Vi
/-D 69 -/
noncomputable def DF69_1 (n : Nat × Nat) (f1 : List Int → Int → Option R69) (l1 : List Int) (i5 : Int) : Option R69 :=
    (bif decide (i5 < (l1.length : Int)) then (idx l1 i5).bind fun x1' =>
      (D65 n x1' 0 200).bind fun r2' =>
      (bif (!r2') then some 1
      else f1 l1 (wr .i64 (i5 + 1)))
    else some 0)
noncomputable def DL69_1 (n : Nat × Nat) (m : Nat) : List Int → Int → Option R69 := Nat.rec (motive := fun _ => List Int → Int → Option R69) (fun _ _ => none) (fun _ ih => DF69_1 n ih) m
theorem DL69_1_succ (n : Nat × Nat) (m : Nat) : DL69_1 n (m + 1) = DF69_1 n (DL69_1 n m) := rfl
theorem DL69_1_eq (n : Nat × Nat) (hn : n.2 = 1) : ∀ m, L69_1 n m = DL69_1 n m
  | 0 => by funext l1 i5; kernel_rfl
  | m + 1 => by
    have ih := DL69_1_eq n hn m
    funext l1 i5; refine (L69_1_eq n m l1 i5).trans ?_
    rw [DL69_1_succ]
    unfold DF69_1
    (try simp only [ih, S65_D n hn]) <;> first | with_reducible rfl | rfl
noncomputable def D69 (n : Nat × Nat) (coins0 : List Int) (l1 : List Int) : Option R69 :=
    (bif ((l1.length : Int) != (coins0.length : Int)) then some 5
    else DL69_1 n n.1 l1 0)
theorem S69_D (n : Nat × Nat) (hn : n.2 = 1) : S69 n = D69 n := by
  funext coins0 l1; refine (S69_eq n coins0 l1).trans ?_
  unfold D69
  (try simp only [DL69_1_eq n hn, S65_D n hn]) <;> first | with_reducible rfl | rfl
end Go.Proofs.Ytjgmfdgpgdaclaa
set_option linter.unusedVariables false
set_option linter.unusedSimpArgs false
set_option maxRecDepth 100000
namespace Go.Proofs.Ytjgmfdgpgdaclaa
open Go.Vi
/-D 32 -/
noncomputable def DF32_1 (n : Nat × Nat) (f1 : List Int → Int → List Int → Int → Int → Option R32) (coins0 : List Int) (sum1 : Int) (payment2 : List Int) (v8 : Int) (i9 : Int) : Option R32 :=
    (bif decide (i9 < (coins0.length : Int)) then (idx coins0 i9).bind fun x3' =>
      (idx payment2 i9).bind fun x4' =>
      f1 coins0 sum1 payment2 (wr .i64 (v8 + (wr .i64 (x3' * x4')))) (wr .i64 (i9 + 1))
    else (bif (v8 != sum1) then some 17
      else (D70 n payment2).bind fun r5' =>
        (D64 n coins0 sum1).bind fun r6' =>
        (D70 n r6').bind fun r7' =>
        (bif decide (r5' ≥ r7') then some 14
        else some 0)))
noncomputable def DL32_1 (n : Nat × Nat) (m : Nat) : List Int → Int → List Int → Int → Int → Option R32 := Nat.rec (motive := fun _ => List Int → Int → List Int → Int → Int → Option R32) (fun _ _ _ _ _ => none) (fun _ ih => DF32_1 n ih) m
theorem DL32_1_succ (n : Nat × Nat) (m : Nat) : DL32_1 n (m + 1) = DF32_1 n (DL32_1 n m) := rfl
theorem DL32_1_eq (n : Nat × Nat) (hn : n.2 = 1) : ∀ m, L32_1 n m = DL32_1 n m
  | 0 => by funext coins0 sum1 payment2 v8 i9; kernel_rfl
  | m + 1 => by
    have ih := DL32_1_eq n hn m
    funext coins0 sum1 payment2 v8 i9; refine (L32_1_eq n m coins0 sum1 payment2 v8 i9).trans ?_
    rw [DL32_1_succ]
    unfold DF32_1
    (try simp only [ih, S58_D n hn, S64_D n hn, S69_D n hn, S70_D n hn]) <;> first | with_reducible rfl | rfl
noncomputable def D32 (n : Nat × Nat) (coins0 : List Int) (sum1 : Int) (payment2 : List Int) : Option R32 :=
    (D58 n coins0 sum1).bind fun r1' =>
    (bif (r1' == 0) then (D69 n coins0 payment2).bind fun r2' =>
      (bif (r2' != 0) then some r2'
      else DL32_1 n n.1 coins0 sum1 payment2 0 0)
    else (bif (r1' != 0) then some r1'
      else DL32_1 n n.1 coins0 sum1 payment2 0 0))
theorem S32_D (n : Nat × Nat) (hn : n.2 = 1) : S32 n = D32 n := by
  funext coins0 sum1 payment2; refine (S32_eq n coins0 sum1 payment2).trans ?_
  unfold D32
  (try simp only [DL32_1_eq n hn, S58_D n hn, S64_D n hn, S69_D n hn, S70_D n hn]) <;> first | with_reducible rfl | rfl
end Go.Proofs.Ytjgmfdgpgdaclaa
set_option linter.unusedVariables false
set_option linter.unusedSimpArgs false
set_option maxRecDepth 100000
namespace Go.Proofs.Ytjgmfdgpgdaclaa
open Go.Vi
/- headword/headwordref12.With -/
abbrev R34 := Bool × Int
noncomputable def c34 : Code := bodyOf Try.f34
noncomputable def an34 : Ann := (.s .l (.s .l (.s (.s .l (.j [0, 1, 6, 19, 20, 25, 26, 27, 28, 29, 30, 31, 32, 37, 38, 39] .l .l)) (.s (.s .l (.j [0, 1, 6, 25, 26, 27, 28, 29, 30, 31, 32, 37, 38, 39] .l .l)) (.s (.s .l (.j [0, 1, 6, 37, 38, 39] .l .l)) (.s (.s .l (.j [0, 1, 6] .l .l)) (.s (.s .l (.j [0, 1] .l .l)) .l)))))))
def pk34 : List PK := [.c (.sl (.int .i64)), .c (.int .i64)]
def rk34 : List RK := [.c .bool 4, .c (.int .i64) 5]
noncomputable def rt34 (st : St) : Option R34 := rtG rk34 st
noncomputable def E34 (n : Nat × Nat) : Env := { T := tab, phi := (consPhi 26 (fun _ => true) (P26 n) (consPhi 67 (fun _ => true) (P67 n) noPhi)), eff := fun _ => false, fuel := n.1, hold := n.2 }
noncomputable def kq34_1 (n : Nat × Nat) : St → Option R34 := run (E34 n) (cB (cB (cB c34))) (Ann.snd (Ann.snd (Ann.snd an34))) rt34 (fun _ _ => none) rt34
noncomputable def kc34_2 (n : Nat × Nat) : St → Option R34 := fun s => normC [0, 1, 6, 19, 20, 25, 26, 27, 28, 29, 30, 31, 32, 37, 38, 39] s (kq34_1 n)
noncomputable def kq34_3 (n : Nat × Nat) : St → Option R34 := run (E34 n) (cB (cB (cB (cB c34)))) (Ann.snd (Ann.snd (Ann.snd (Ann.snd an34)))) rt34 (fun _ _ => none) rt34
noncomputable def kc34_4 (n : Nat × Nat) : St → Option R34 := fun s => normC [0, 1, 6, 25, 26, 27, 28, 29, 30, 31, 32, 37, 38, 39] s (kq34_3 n)
noncomputable def kq34_5 (n : Nat × Nat) : St → Option R34 := run (E34 n) (cB (cB (cB (cB (cB c34))))) (Ann.snd (Ann.snd (Ann.snd (Ann.snd (Ann.snd an34))))) rt34 (fun _ _ => none) rt34
noncomputable def kc34_6 (n : Nat × Nat) : St → Option R34 := fun s => normC [0, 1, 6, 37, 38, 39] s (kq34_5 n)
noncomputable def kq34_7 (n : Nat × Nat) : St → Option R34 := run (E34 n) (cB (cB (cB (cB (cB (cB c34)))))) (Ann.snd (Ann.snd (Ann.snd (Ann.snd (Ann.snd (Ann.snd an34)))))) rt34 (fun _ _ => none) rt34
noncomputable def kc34_8 (n : Nat × Nat) : St → Option R34 := fun s => normC [0, 1, 6] s (kq34_7 n)
noncomputable def kq34_9 (n : Nat × Nat) : St → Option R34 := run (E34 n) (cB (cB (cB (cB (cB (cB (cB c34))))))) (Ann.snd (Ann.snd (Ann.snd (Ann.snd (Ann.snd (Ann.snd (Ann.snd an34))))))) rt34 (fun _ _ => none) rt34
noncomputable def kc34_10 (n : Nat × Nat) : St → Option R34 := fun s => normC [0, 1] s (kq34_9 n)
noncomputable def S34 (n : Nat × Nat) (coins0 : List Int) (coin1 : Int) : Option R34 := run (E34 n) c34 an34 rt34 (fun _ _ => none) rt34 { tm := [.c (.sl (.int .i64) coins0 false), .c (.int .i64 coin1), uu, uu, uu, uu, uu, uu, uu, uu, uu, uu, uu, uu, uu, uu, uu, uu, uu, uu, uu, uu, uu, uu, uu, uu, uu, uu, uu, uu, uu, uu, uu, uu, uu, uu, uu, uu, uu, uu, uu, uu, uu, uu, uu, uu, uu, uu, uu, uu, uu, uu], hp := emp }
theorem S34_eq (n : Nat × Nat) (coins0 : List Int) (coin1 : Int) : S34 n coins0 coin1 =
    (S26 n coins0).bind fun r1' =>
    ((bif ((r1' == 0) == true) then some ((coins0.length : Int) == 6)
      else some false)).bind fun b2' =>
    (bif b2' then ((bif ((3 == 0) == true) then some (decide (coin1 > 40))
        else some false)).bind fun b3' =>
      (bif b3' then ((bif ((1 == 0) == true) then (idx coins0 (wr .i64 ((coins0.length : Int) - 1))).bind fun x4' =>
            some (decide (coin1 ≤ x4'))
          else some false)).bind fun b5' =>
        (bif b5' then ((bif ((7 == 0) == true) then (S67 n coins0).bind fun r6' =>
              some (decide (r6' > 0))
            else some false)).bind fun b7' =>
          (bif b7' then (bif (13 != 0) then some (false, 13)
            else (bif decide (([] : List Int).length + coins0.length ≤ lim) then (bif decide (([] ++ coins0).length + [coin1].length ≤ lim) then (S67 n (([] ++ coins0) ++ [coin1])).bind fun r8' =>
                  some ((r8' == 0), 0)
                else none)
              else none))
          else (bif (7 != 0) then some (false, 7)
            else (bif decide (([] : List Int).length + coins0.length ≤ lim) then (bif decide (([] ++ coins0).length + [coin1].length ≤ lim) then (S67 n (([] ++ coins0) ++ [coin1])).bind fun r9' =>
                  some ((r9' == 0), 0)
                else none)
              else none)))
        else ((bif ((1 == 0) == true) then (S67 n coins0).bind fun r10' =>
              some (decide (r10' > 0))
            else some false)).bind fun b11' =>
          (bif b11' then (bif (13 != 0) then some (false, 13)
            else (bif decide (([] : List Int).length + coins0.length ≤ lim) then (bif decide (([] ++ coins0).length + [coin1].length ≤ lim) then (S67 n (([] ++ coins0) ++ [coin1])).bind fun r12' =>
                  some ((r12' == 0), 0)
                else none)
              else none))
          else (bif (1 != 0) then some (false, 1)
            else (bif decide (([] : List Int).length + coins0.length ≤ lim) then (bif decide (([] ++ coins0).length + [coin1].length ≤ lim) then (S67 n (([] ++ coins0) ++ [coin1])).bind fun r13' =>
                  some ((r13' == 0), 0)
                else none)
              else none))))
      else ((bif ((3 == 0) == true) then (idx coins0 (wr .i64 ((coins0.length : Int) - 1))).bind fun x14' =>
            some (decide (coin1 ≤ x14'))
          else some false)).bind fun b15' =>
        (bif b15' then ((bif ((7 == 0) == true) then (S67 n coins0).bind fun r16' =>
              some (decide (r16' > 0))
            else some false)).bind fun b17' =>
          (bif b17' then (bif (13 != 0) then some (false, 13)
            else (bif decide (([] : List Int).length + coins0.length ≤ lim) then (bif decide (([] ++ coins0).length + [coin1].length ≤ lim) then (S67 n (([] ++ coins0) ++ [coin1])).bind fun r18' =>
                  some ((r18' == 0), 0)
                else none)
              else none))
          else (bif (7 != 0) then some (false, 7)
            else (bif decide (([] : List Int).length + coins0.length ≤ lim) then (bif decide (([] ++ coins0).length + [coin1].length ≤ lim) then (S67 n (([] ++ coins0) ++ [coin1])).bind fun r19' =>
                  some ((r19' == 0), 0)
                else none)
              else none)))
        else ((bif ((3 == 0) == true) then (S67 n coins0).bind fun r20' =>
              some (decide (r20' > 0))
            else some false)).bind fun b21' =>
          (bif b21' then (bif (13 != 0) then some (false, 13)
            else (bif decide (([] : List Int).length + coins0.length ≤ lim) then (bif decide (([] ++ coins0).length + [coin1].length ≤ lim) then (S67 n (([] ++ coins0) ++ [coin1])).bind fun r22' =>
                  some ((r22' == 0), 0)
                else none)
              else none))
          else (bif (3 != 0) then some (false, 3)
            else (bif decide (([] : List Int).length + coins0.length ≤ lim) then (bif decide (([] ++ coins0).length + [coin1].length ≤ lim) then (S67 n (([] ++ coins0) ++ [coin1])).bind fun r23' =>
                  some ((r23' == 0), 0)
                else none)
              else none)))))
    else ((bif ((r1' == 0) == true) then some (decide (coin1 > 40))
        else some false)).bind fun b24' =>
      (bif b24' then ((bif ((1 == 0) == true) then (idx coins0 (wr .i64 ((coins0.length : Int) - 1))).bind fun x25' =>
            some (decide (coin1 ≤ x25'))
          else some false)).bind fun b26' =>
        (bif b26' then ((bif ((7 == 0) == true) then (S67 n coins0).bind fun r27' =>
              some (decide (r27' > 0))
            else some false)).bind fun b28' =>
          (bif b28' then (bif (13 != 0) then some (false, 13)
            else (bif decide (([] : List Int).length + coins0.length ≤ lim) then (bif decide (([] ++ coins0).length + [coin1].length ≤ lim) then (S67 n (([] ++ coins0) ++ [coin1])).bind fun r29' =>
                  some ((r29' == 0), 0)
                else none)
              else none))
          else (bif (7 != 0) then some (false, 7)
            else (bif decide (([] : List Int).length + coins0.length ≤ lim) then (bif decide (([] ++ coins0).length + [coin1].length ≤ lim) then (S67 n (([] ++ coins0) ++ [coin1])).bind fun r30' =>
                  some ((r30' == 0), 0)
                else none)
              else none)))
        else ((bif ((1 == 0) == true) then (S67 n coins0).bind fun r31' =>
              some (decide (r31' > 0))
            else some false)).bind fun b32' =>
          (bif b32' then (bif (13 != 0) then some (false, 13)
            else (bif decide (([] : List Int).length + coins0.length ≤ lim) then (bif decide (([] ++ coins0).length + [coin1].length ≤ lim) then (S67 n (([] ++ coins0) ++ [coin1])).bind fun r33' =>
                  some ((r33' == 0), 0)
                else none)
              else none))
          else (bif (1 != 0) then some (false, 1)
            else (bif decide (([] : List Int).length + coins0.length ≤ lim) then (bif decide (([] ++ coins0).length + [coin1].length ≤ lim) then (S67 n (([] ++ coins0) ++ [coin1])).bind fun r34' =>
                  some ((r34' == 0), 0)
                else none)
              else none))))
      else ((bif ((r1' == 0) == true) then (idx coins0 (wr .i64 ((coins0.length : Int) - 1))).bind fun x35' =>
            some (decide (coin1 ≤ x35'))
          else some false)).bind fun b36' =>
        (bif b36' then ((bif ((7 == 0) == true) then (S67 n coins0).bind fun r37' =>
              some (decide (r37' > 0))
            else some false)).bind fun b38' =>
          (bif b38' then (bif (13 != 0) then some (false, 13)
            else (bif decide (([] : List Int).length + coins0.length ≤ lim) then (bif decide (([] ++ coins0).length + [coin1].length ≤ lim) then (S67 n (([] ++ coins0) ++ [coin1])).bind fun r39' =>
                  some ((r39' == 0), 0)
                else none)
              else none))
          else (bif (7 != 0) then some (false, 7)
            else (bif decide (([] : List Int).length + coins0.length ≤ lim) then (bif decide (([] ++ coins0).length + [coin1].length ≤ lim) then (S67 n (([] ++ coins0) ++ [coin1])).bind fun r40' =>
                  some ((r40' == 0), 0)
                else none)
              else none)))
        else ((bif ((r1' == 0) == true) then (S67 n coins0).bind fun r41' =>
              some (decide (r41' > 0))
            else some false)).bind fun b42' =>
          (bif b42' then (bif (13 != 0) then some (false, 13)
            else (bif decide (([] : List Int).length + coins0.length ≤ lim) then (bif decide (([] ++ coins0).length + [coin1].length ≤ lim) then (S67 n (([] ++ coins0) ++ [coin1])).bind fun r43' =>
                  some ((r43' == 0), 0)
                else none)
              else none))
          else (bif (r1' != 0) then some (false, r1')
            else (bif decide (([] : List Int).length + coins0.length ≤ lim) then (bif decide (([] ++ coins0).length + [coin1].length ≤ lim) then (S67 n (([] ++ coins0) ++ [coin1])).bind fun r44' =>
                  some ((r44' == 0), 0)
                else none)
              else none)))))) := by kernel_rfl
theorem S34_run (n : Nat × Nat) (xs : pksDen pk34) : S34 n xs.1 xs.2.1 = runG (E34 n) noScope c34 an34 (rtG rk34) (fun _ _ => none) (rtG rk34) (st0 pk34 xs Try.f34.ntmps) := by kernel_rfl
noncomputable def P34 (n : Nat × Nat) := phiOf pk34 rk34 (fun xs => S34 n xs.1 xs.2.1)
theorem call34 : CallOK Try.prog 34 := callOK_of Try.func34 (by kernel_rfl) (by kernel_rfl)
theorem env34 (n : Nat × Nat) : EnvOK Try.prog (E34 n) := envOK0 (consPhi_ok (FC26 n) call26 (consPhi_ok (FC67 n) call67 noPhi_ok)) rfl rfl
theorem par34 (n : Nat × Nat) : EnvPar (E34 n) := envPar0 (consPhi_par phiOf_Par1 (consPhi_par phiOf_Par1 noPhi_par)) rfl
theorem FC34 (n : Nat × Nat) : FCs Try.prog 34 (P34 n) := phiOf_FCs fun xs r h vs hv => FC.of_runG tabOK eqsOK (env34 n) (par34 n) mixed (fun _ => noScope_ok) Try.func34 (c := c34) (an := an34) (pks := pk34) (rks := rk34) (by kernel_rfl) (by kernel_rfl) hv ((S34_run n xs).symm.trans h)
end Go.Proofs.Ytjgmfdgpgdaclaa
set_option linter.unusedVariables false
set_option linter.unusedSimpArgs false
set_option maxRecDepth 100000
namespace Go.Proofs.Ytjgmfdgpgdaclaa
open Go.Vi
/-D 34 -/
noncomputable def D34 (n : Nat × Nat) (coins0 : List Int) (coin1 : Int) : Option R34 :=
    (D26 n coins0).bind fun r1' =>
    ((bif ((r1' == 0) == true) then some ((coins0.length : Int) == 6)
      else some false)).bind fun b2' =>
    (bif b2' then ((bif ((3 == 0) == true) then some (decide (coin1 > 40))
        else some false)).bind fun b3' =>
      (bif b3' then ((bif ((1 == 0) == true) then (idx coins0 (wr .i64 ((coins0.length : Int) - 1))).bind fun x4' =>
            some (decide (coin1 ≤ x4'))
          else some false)).bind fun b5' =>
        (bif b5' then ((bif ((7 == 0) == true) then (D67 n coins0).bind fun r6' =>
              some (decide (r6' > 0))
            else some false)).bind fun b7' =>
          (bif b7' then (bif (13 != 0) then some (false, 13)
            else (bif decide (([] : List Int).length + coins0.length ≤ lim) then (bif decide (([] ++ coins0).length + [coin1].length ≤ lim) then (D67 n (([] ++ coins0) ++ [coin1])).bind fun r8' =>
                  some ((r8' == 0), 0)
                else none)
              else none))
          else (bif (7 != 0) then some (false, 7)
            else (bif decide (([] : List Int).length + coins0.length ≤ lim) then (bif decide (([] ++ coins0).length + [coin1].length ≤ lim) then (D67 n (([] ++ coins0) ++ [coin1])).bind fun r9' =>
                  some ((r9' == 0), 0)
                else none)
              else none)))
        else ((bif ((1 == 0) == true) then (D67 n coins0).bind fun r10' =>
              some (decide (r10' > 0))
            else some false)).bind fun b11' =>
          (bif b11' then (bif (13 != 0) then some (false, 13)
            else (bif decide (([] : List Int).length + coins0.length ≤ lim) then (bif decide (([] ++ coins0).length + [coin1].length ≤ lim) then (D67 n (([] ++ coins0) ++ [coin1])).bind fun r12' =>
                  some ((r12' == 0), 0)
                else none)
              else none))
          else (bif (1 != 0) then some (false, 1)
            else (bif decide (([] : List Int).length + coins0.length ≤ lim) then (bif decide (([] ++ coins0).length + [coin1].length ≤ lim) then (D67 n (([] ++ coins0) ++ [coin1])).bind fun r13' =>
                  some ((r13' == 0), 0)
                else none)
              else none))))
      else ((bif ((3 == 0) == true) then (idx coins0 (wr .i64 ((coins0.length : Int) - 1))).bind fun x14' =>
            some (decide (coin1 ≤ x14'))
          else some false)).bind fun b15' =>
        (bif b15' then ((bif ((7 == 0) == true) then (D67 n coins0).bind fun r16' =>
              some (decide (r16' > 0))
            else some false)).bind fun b17' =>
          (bif b17' then (bif (13 != 0) then some (false, 13)
            else (bif decide (([] : List Int).length + coins0.length ≤ lim) then (bif decide (([] ++ coins0).length + [coin1].length ≤ lim) then (D67 n (([] ++ coins0) ++ [coin1])).bind fun r18' =>
                  some ((r18' == 0), 0)
                else none)
              else none))
          else (bif (7 != 0) then some (false, 7)
            else (bif decide (([] : List Int).length + coins0.length ≤ lim) then (bif decide (([] ++ coins0).length + [coin1].length ≤ lim) then (D67 n (([] ++ coins0) ++ [coin1])).bind fun r19' =>
                  some ((r19' == 0), 0)
                else none)
              else none)))
        else ((bif ((3 == 0) == true) then (D67 n coins0).bind fun r20' =>
              some (decide (r20' > 0))
            else some false)).bind fun b21' =>
          (bif b21' then (bif (13 != 0) then some (false, 13)
            else (bif decide (([] : List Int).length + coins0.length ≤ lim) then (bif decide (([] ++ coins0).length + [coin1].length ≤ lim) then (D67 n (([] ++ coins0) ++ [coin1])).bind fun r22' =>
                  some ((r22' == 0), 0)
                else none)
              else none))
          else (bif (3 != 0) then some (false, 3)
            else (bif decide (([] : List Int).length + coins0.length ≤ lim) then (bif decide (([] ++ coins0).length + [coin1].length ≤ lim) then (D67 n (([] ++ coins0) ++ [coin1])).bind fun r23' =>
                  some ((r23' == 0), 0)
                else none)
              else none)))))
    else ((bif ((r1' == 0) == true) then some (decide (coin1 > 40))
        else some false)).bind fun b24' =>
      (bif b24' then ((bif ((1 == 0) == true) then (idx coins0 (wr .i64 ((coins0.length : Int) - 1))).bind fun x25' =>
            some (decide (coin1 ≤ x25'))
          else some false)).bind fun b26' =>
        (bif b26' then ((bif ((7 == 0) == true) then (D67 n coins0).bind fun r27' =>
              some (decide (r27' > 0))
            else some false)).bind fun b28' =>
          (bif b28' then (bif (13 != 0) then some (false, 13)
            else (bif decide (([] : List Int).length + coins0.length ≤ lim) then (bif decide (([] ++ coins0).length + [coin1].length ≤ lim) then (D67 n (([] ++ coins0) ++ [coin1])).bind fun r29' =>
                  some ((r29' == 0), 0)
                else none)
              else none))
          else (bif (7 != 0) then some (false, 7)
            else (bif decide (([] : List Int).length + coins0.length ≤ lim) then (bif decide (([] ++ coins0).length + [coin1].length ≤ lim) then (D67 n (([] ++ coins0) ++ [coin1])).bind fun r30' =>
                  some ((r30' == 0), 0)
                else none)
              else none)))
        else ((bif ((1 == 0) == true) then (D67 n coins0).bind fun r31' =>
              some (decide (r31' > 0))
            else some false)).bind fun b32' =>
          (bif b32' then (bif (13 != 0) then some (false, 13)
            else (bif decide (([] : List Int).length + coins0.length ≤ lim) then (bif decide (([] ++ coins0).length + [coin1].length ≤ lim) then (D67 n (([] ++ coins0) ++ [coin1])).bind fun r33' =>
                  some ((r33' == 0), 0)
                else none)
              else none))
          else (bif (1 != 0) then some (false, 1)
            else (bif decide (([] : List Int).length + coins0.length ≤ lim) then (bif decide (([] ++ coins0).length + [coin1].length ≤ lim) then (D67 n (([] ++ coins0) ++ [coin1])).bind fun r34' =>
                  some ((r34' == 0), 0)
                else none)
              else none))))
      else ((bif ((r1' == 0) == true) then (idx coins0 (wr .i64 ((coins0.length : Int) - 1))).bind fun x35' =>
            some (decide (coin1 ≤ x35'))
          else some false)).bind fun b36' =>
        (bif b36' then ((bif ((7 == 0) == true) then (D67 n coins0).bind fun r37' =>
              some (decide (r37' > 0))
            else some false)).bind fun b38' =>
          (bif b38' then (bif (13 != 0) then some (false, 13)
            else (bif decide (([] : List Int).length + coins0.length ≤ lim) then (bif decide (([] ++ coins0).length + [coin1].length ≤ lim) then (D67 n (([] ++ coins0) ++ [coin1])).bind fun r39' =>
                  some ((r39' == 0), 0)
                else none)
              else none))
          else (bif (7 != 0) then some (false, 7)
            else (bif decide (([] : List Int).length + coins0.length ≤ lim) then (bif decide (([] ++ coins0).length + [coin1].length ≤ lim) then (D67 n (([] ++ coins0) ++ [coin1])).bind fun r40' =>
                  some ((r40' == 0), 0)
                else none)
              else none)))
        else ((bif ((r1' == 0) == true) then (D67 n coins0).bind fun r41' =>
              some (decide (r41' > 0))
            else some false)).bind fun b42' =>
          (bif b42' then (bif (13 != 0) then some (false, 13)
            else (bif decide (([] : List Int).length + coins0.length ≤ lim) then (bif decide (([] ++ coins0).length + [coin1].length ≤ lim) then (D67 n (([] ++ coins0) ++ [coin1])).bind fun r43' =>
                  some ((r43' == 0), 0)
                else none)
              else none))
          else (bif (r1' != 0) then some (false, r1')
            else (bif decide (([] : List Int).length + coins0.length ≤ lim) then (bif decide (([] ++ coins0).length + [coin1].length ≤ lim) then (D67 n (([] ++ coins0) ++ [coin1])).bind fun r44' =>
                  some ((r44' == 0), 0)
                else none)
              else none))))))
theorem S34_D (n : Nat × Nat) (hn : n.2 = 1) : S34 n = D34 n := by
  funext coins0 coin1; refine (S34_eq n coins0 coin1).trans ?_
  unfold D34
  (try simp only [S26_D n hn, S67_D n hn]) <;> first | with_reducible rfl | rfl
end Go.Proofs.Ytjgmfdgpgdaclaa
set_option linter.unusedVariables false
set_option linter.unusedSimpArgs false
set_option maxRecDepth 100000
namespace Go.Proofs.Ytjgmfdgpgdaclaa
open Go.Vi
/- headword/headwordref12.Reach -/
abbrev R36 := Int × Int
noncomputable def c36 : Code := bodyOf Try.f36
noncomputable def an36 : Ann := (.s .l (.s .l (.s (.s .l (.j [0, 1, 6] .l .l)) (.s (.s .l (.j [0, 1] .l .l)) (.s .l (.s .l (.s (.j [8] (.j [1, 7, 8] (.s (.s .l (.j [1, 7, 8] .l .l)) (.j [1, 7, 8] .l .l)) .l) .l) .l)))))))
def pk36 : List PK := [.c (.sl (.int .i64)), .c (.int .i64)]
def rk36 : List RK := [.c (.int .i64) 4, .c (.int .i64) 5]
noncomputable def rt36 (st : St) : Option R36 := rtG rk36 st
noncomputable def E36 (n : Nat × Nat) : Env := { T := tab, phi := (consPhi 26 (fun _ => true) (P26 n) (consPhi 59 (fun _ => true) (P59 n) (consPhi 65 (fun _ => true) (P65 n) noPhi))), eff := fun _ => false, fuel := n.1, hold := n.2 }
noncomputable def kq36_1 (n : Nat × Nat) : St → Option R36 := run (E36 n) (cB (cB (cB c36))) (Ann.snd (Ann.snd (Ann.snd an36))) rt36 (fun _ _ => none) rt36
noncomputable def kc36_2 (n : Nat × Nat) : St → Option R36 := fun s => normC [0, 1, 6] s (kq36_1 n)
noncomputable def kq36_3 (n : Nat × Nat) : St → Option R36 := run (E36 n) (cB (cB (cB (cB c36)))) (Ann.snd (Ann.snd (Ann.snd (Ann.snd an36)))) rt36 (fun _ _ => none) rt36
noncomputable def kc36_4 (n : Nat × Nat) : St → Option R36 := fun s => normC [0, 1] s (kq36_3 n)
noncomputable def kq36_5 (n : Nat × Nat) : St → Option R36 := run (E36 n) (cB (cB (cB (cB (cB (cB (cB c36))))))) (Ann.snd (Ann.snd (Ann.snd (Ann.snd (Ann.snd (Ann.snd (Ann.snd an36))))))) rt36 (fun _ _ => none) rt36
noncomputable def kc36_6 (n : Nat × Nat) : St → Option R36 := fun s => normC [8] s (kq36_5 n)
noncomputable def xb36_7 (n : Nat × Nat) : Nat → St → Option R36 := fun j s => bif Nat.beq j 0 then normC [8] s (kq36_5 n) else (fun _ _ => none) j s
noncomputable def F36_8 (n : Nat × Nat) : (St → Option R36) → St → Option R36 := fun K s => run (E36 n) (cA (cA (cA (cB (cB (cB (cB (cB (cB c36))))))))) (Ann.fst (Ann.fst (Ann.fst (Ann.snd (Ann.snd (Ann.snd (Ann.snd (Ann.snd (Ann.snd an36))))))))) (fun s => normC [1, 7, 8] s K) (xb36_7 n) rt36 s
noncomputable def kq36_9 (n : Nat × Nat) (m1 : Nat) : St → Option R36 := run (E36 n) (cB (cA (cA (cA (cB (cB (cB (cB (cB (cB c36)))))))))) (Ann.snd (Ann.fst (Ann.fst (Ann.fst (Ann.snd (Ann.snd (Ann.snd (Ann.snd (Ann.snd (Ann.snd an36)))))))))) (fun s => normC [1, 7, 8] s (loopN (F36_8 n) m1)) (xb36_7 n) rt36
noncomputable def kc36_10 (n : Nat × Nat) (m1 : Nat) : St → Option R36 := fun s => normC [1, 7, 8] s (kq36_9 n m1)
noncomputable def kc36_11 (n : Nat × Nat) (m1 : Nat) : St → Option R36 := fun s => normC [1, 7, 8] s (fun s => normC [1, 7, 8] s (loopN (F36_8 n) m1))
noncomputable def xb36_12 (n : Nat × Nat) (m1 : Nat) : Nat → St → Option R36 := fun j s => bif Nat.beq j 1 then normC [1, 7, 8] s (fun s => normC [1, 7, 8] s (loopN (F36_8 n) m1)) else (xb36_7 n) j s
noncomputable def L36_1 (n : Nat × Nat) (m : Nat) (many1 : Int) (s8 : Int) (l7 : List Int) : Option R36 := loopN (F36_8 n) m { tm := [uu, .c (.int .i64 many1), uu, uu, uu, uu, uu, .own 7 none false, .c (.int .i64 s8), uu, uu, uu, uu, uu, uu, uu, uu, uu, uu, uu, uu, uu, uu, uu, uu, uu, uu, uu, uu, uu, uu, uu, uu], hp := (upd emp 7 (.arr (.int .i64) l7 false)) }
theorem L36_1_eq (n : Nat × Nat) (m1 : Nat) (many1 : Int) (s8 : Int) (l7 : List Int) : L36_1 n (m1 + 1) many1 s8 l7 =
    (bif inB (wr .i64 (s8 + 1)) l7.length then (idx l7 (wr .i64 (s8 + 1))).bind fun x6' =>
      (bif decide (x6' ≤ many1) then L36_1 n m1 many1 (wr .i64 (s8 + 1)) l7
      else some (s8, 0))
    else none) := by kernel_rfl
noncomputable def S36 (n : Nat × Nat) (coins0 : List Int) (many1 : Int) : Option R36 := run (E36 n) c36 an36 rt36 (fun _ _ => none) rt36 { tm := [.c (.sl (.int .i64) coins0 false), .c (.int .i64 many1), uu, uu, uu, uu, uu, uu, uu, uu, uu, uu, uu, uu, uu, uu, uu, uu, uu, uu, uu, uu, uu, uu, uu, uu, uu, uu, uu, uu, uu, uu, uu], hp := emp }
theorem S36_eq (n : Nat × Nat) (coins0 : List Int) (many1 : Int) : S36 n coins0 many1 =
    (S26 n coins0).bind fun r1' =>
    ((bif ((r1' == 0) == true) then (S65 n many1 0 5).bind fun r2' =>
        some (!r2')
      else some false)).bind fun b3' =>
    (bif b3' then (bif (1 != 0) then some (0, 1)
      else (S59 n coins0 201).bind fun r4' =>
        L36_1 n n.1 many1 0 r4')
    else (bif (r1' != 0) then some (0, r1')
      else (S59 n coins0 201).bind fun r5' =>
        L36_1 n n.1 many1 0 r5')) := by kernel_rfl
theorem S36_run (n : Nat × Nat) (xs : pksDen pk36) : S36 n xs.1 xs.2.1 = runG (E36 n) noScope c36 an36 (rtG rk36) (fun _ _ => none) (rtG rk36) (st0 pk36 xs Try.f36.ntmps) := by kernel_rfl
noncomputable def P36 (n : Nat × Nat) := phiOf pk36 rk36 (fun xs => S36 n xs.1 xs.2.1)
theorem call36 : CallOK Try.prog 36 := callOK_of Try.func36 (by kernel_rfl) (by kernel_rfl)
theorem env36 (n : Nat × Nat) : EnvOK Try.prog (E36 n) := envOK0 (consPhi_ok (FC26 n) call26 (consPhi_ok (FC59 n) call59 (consPhi_ok (FC65 n) call65 noPhi_ok))) rfl rfl
theorem par36 (n : Nat × Nat) : EnvPar (E36 n) := envPar0 (consPhi_par phiOf_Par1 (consPhi_par phiOf_Par1 (consPhi_par phiOf_Par1 noPhi_par))) rfl
theorem FC36 (n : Nat × Nat) : FCs Try.prog 36 (P36 n) := phiOf_FCs fun xs r h vs hv => FC.of_runG tabOK eqsOK (env36 n) (par36 n) mixed (fun _ => noScope_ok) Try.func36 (c := c36) (an := an36) (pks := pk36) (rks := rk36) (by kernel_rfl) (by kernel_rfl) hv ((S36_run n xs).symm.trans h)
end Go.Proofs.Ytjgmfdgpgdaclaa
set_option linter.unusedVariables false
set_option linter.unusedSimpArgs false
set_option maxRecDepth 100000
namespace Go.Proofs.Ytjgmfdgpgdaclaa
open Go.Vi
/-D 36 -/
noncomputable def DF36_1 (n : Nat × Nat) (f1 : Int → Int → List Int → Option R36) (many1 : Int) (s8 : Int) (l7 : List Int) : Option R36 :=
    (bif inB (wr .i64 (s8 + 1)) l7.length then (idx l7 (wr .i64 (s8 + 1))).bind fun x6' =>
      (bif decide (x6' ≤ many1) then f1 many1 (wr .i64 (s8 + 1)) l7
      else some (s8, 0))
    else none)
noncomputable def DL36_1 (n : Nat × Nat) (m : Nat) : Int → Int → List Int → Option R36 := Nat.rec (motive := fun _ => Int → Int → List Int → Option R36) (fun _ _ _ => none) (fun _ ih => DF36_1 n ih) m
theorem DL36_1_succ (n : Nat × Nat) (m : Nat) : DL36_1 n (m + 1) = DF36_1 n (DL36_1 n m) := rfl
theorem DL36_1_eq (n : Nat × Nat) (hn : n.2 = 1) : ∀ m, L36_1 n m = DL36_1 n m
  | 0 => by funext many1 s8 l7; kernel_rfl
  | m + 1 => by
    have ih := DL36_1_eq n hn m
    funext many1 s8 l7; refine (L36_1_eq n m many1 s8 l7).trans ?_
    rw [DL36_1_succ]
    unfold DF36_1
    (try simp only [ih, S26_D n hn, S59_D n hn, S65_D n hn]) <;> first | with_reducible rfl | rfl
noncomputable def D36 (n : Nat × Nat) (coins0 : List Int) (many1 : Int) : Option R36 :=
    (D26 n coins0).bind fun r1' =>
    ((bif ((r1' == 0) == true) then (D65 n many1 0 5).bind fun r2' =>
        some (!r2')
      else some false)).bind fun b3' =>
    (bif b3' then (bif (1 != 0) then some (0, 1)
      else (D59 n coins0 201).bind fun r4' =>
        DL36_1 n n.1 many1 0 r4')
    else (bif (r1' != 0) then some (0, r1')
      else (D59 n coins0 201).bind fun r5' =>
        DL36_1 n n.1 many1 0 r5'))
theorem S36_D (n : Nat × Nat) (hn : n.2 = 1) : S36 n = D36 n := by
  funext coins0 many1; refine (S36_eq n coins0 many1).trans ?_
  unfold D36
  (try simp only [DL36_1_eq n hn, S26_D n hn, S59_D n hn, S65_D n hn]) <;> first | with_reducible rfl | rfl
end Go.Proofs.Ytjgmfdgpgdaclaa
set_option linter.unusedVariables false
set_option linter.unusedSimpArgs false
set_option maxRecDepth 100000
namespace Go.Proofs.Ytjgmfdgpgdaclaa
open Go.Vi
/- headword/headwordref12.ways -/
abbrev R73 := Int
noncomputable def c73 : Code := bodyOf Try.f73
noncomputable def an73 : Ann := (.s .l (.s (.s .l (.j [0, 1] .l .l)) (.s .l (.s .l (.s (.j [6] (.j [0, 1, 5, 6] (.s (.s .l (.j [0, 1, 5, 6] .l .l)) (.j [0, 1, 5, 6] .l .l)) .l) .l) .l)))))
def pk73 : List PK := [.c (.sl (.int .i64)), .c (.int .i64)]
def rk73 : List RK := [.c (.int .i64) 4]
noncomputable def rt73 (st : St) : Option R73 := rtG rk73 st
noncomputable def E73 (n : Nat × Nat) (SS : List Int → Int → Option R73) : Env := { T := tab, phi := (consPhi 73 (fun _ => true) (phiOf pk73 rk73 (fun xs => SS xs.1 xs.2.1)) noPhi), eff := fun _ => false, fuel := n.1, hold := n.2 }
noncomputable def kq73_1 (n : Nat × Nat) (SS : List Int → Int → Option R73) : St → Option R73 := run (E73 n SS) (cB (cB c73)) (Ann.snd (Ann.snd an73)) rt73 (fun _ _ => none) rt73
noncomputable def kc73_2 (n : Nat × Nat) (SS : List Int → Int → Option R73) : St → Option R73 := fun s => normC [0, 1] s (kq73_1 n SS)
noncomputable def kq73_3 (n : Nat × Nat) (SS : List Int → Int → Option R73) : St → Option R73 := run (E73 n SS) (cB (cB (cB (cB (cB c73))))) (Ann.snd (Ann.snd (Ann.snd (Ann.snd (Ann.snd an73))))) rt73 (fun _ _ => none) rt73
noncomputable def kc73_4 (n : Nat × Nat) (SS : List Int → Int → Option R73) : St → Option R73 := fun s => normC [6] s (kq73_3 n SS)
noncomputable def xb73_5 (n : Nat × Nat) (SS : List Int → Int → Option R73) : Nat → St → Option R73 := fun j s => bif Nat.beq j 0 then normC [6] s (kq73_3 n SS) else (fun _ _ => none) j s
noncomputable def F73_6 (n : Nat × Nat) (SS : List Int → Int → Option R73) : (St → Option R73) → St → Option R73 := fun K s => run (E73 n SS) (cA (cA (cA (cB (cB (cB (cB c73))))))) (Ann.fst (Ann.fst (Ann.fst (Ann.snd (Ann.snd (Ann.snd (Ann.snd an73))))))) (fun s => normC [0, 1, 5, 6] s K) (xb73_5 n SS) rt73 s
noncomputable def kq73_7 (n : Nat × Nat) (SS : List Int → Int → Option R73) (m1 : Nat) : St → Option R73 := run (E73 n SS) (cB (cA (cA (cA (cB (cB (cB (cB c73)))))))) (Ann.snd (Ann.fst (Ann.fst (Ann.fst (Ann.snd (Ann.snd (Ann.snd (Ann.snd an73)))))))) (fun s => normC [0, 1, 5, 6] s (loopN (F73_6 n SS) m1)) (xb73_5 n SS) rt73
noncomputable def kc73_8 (n : Nat × Nat) (SS : List Int → Int → Option R73) (m1 : Nat) : St → Option R73 := fun s => normC [0, 1, 5, 6] s (kq73_7 n SS m1)
noncomputable def kc73_9 (n : Nat × Nat) (SS : List Int → Int → Option R73) (m1 : Nat) : St → Option R73 := fun s => normC [0, 1, 5, 6] s (fun s => normC [0, 1, 5, 6] s (loopN (F73_6 n SS) m1))
noncomputable def xb73_10 (n : Nat × Nat) (SS : List Int → Int → Option R73) (m1 : Nat) : Nat → St → Option R73 := fun j s => bif Nat.beq j 1 then normC [0, 1, 5, 6] s (fun s => normC [0, 1, 5, 6] s (loopN (F73_6 n SS) m1)) else (xb73_5 n SS) j s
noncomputable def L73_1 (n : Nat × Nat) (SS : List Int → Int → Option R73) (m : Nat) (coins0 : List Int) (sum1 : Int) (v5 : Int) (v6 : Int) : Option R73 := loopN (F73_6 n SS) m { tm := [.c (.sl (.int .i64) coins0 false), .c (.int .i64 sum1), uu, uu, uu, .c (.int .i64 v5), .c (.int .i64 v6), uu, uu, uu, uu, uu, uu, uu, uu, uu, uu, uu, uu, uu, uu, uu, uu, uu, uu, uu, uu, uu, uu], hp := emp }
theorem L73_1_eq (n : Nat × Nat) (SS : List Int → Int → Option R73) (m1 : Nat) (coins0 : List Int) (sum1 : Int) (v5 : Int) (v6 : Int) : L73_1 n SS (m1 + 1) coins0 sum1 v5 v6 =
    (bif decide (sum1 ≥ 0) then (bif bounds none (some v5) none coins0.length then (SS (coins0.take (Int.toNat v5)) sum1).bind fun r1' =>
        (idx coins0 v5).bind fun x2' =>
        L73_1 n SS m1 coins0 (wr .i64 (sum1 - x2')) v5 (wr .i64 (v6 + r1'))
      else none)
    else some v6) := by kernel_rfl
noncomputable def B73 (n : Nat × Nat) (SS : List Int → Int → Option R73) (coins0 : List Int) (sum1 : Int) : Option R73 := run (E73 n SS) c73 an73 rt73 (fun _ _ => none) rt73 { tm := [.c (.sl (.int .i64) coins0 false), .c (.int .i64 sum1), uu, uu, uu, uu, uu, uu, uu, uu, uu, uu, uu, uu, uu, uu, uu, uu, uu, uu, uu, uu, uu, uu, uu, uu, uu, uu, uu], hp := emp }
theorem B73_eq (n : Nat × Nat) (SS : List Int → Int → Option R73) (coins0 : List Int) (sum1 : Int) : B73 n SS coins0 sum1 =
    (bif ((coins0.length : Int) == 1) then some 1
    else L73_1 n SS n.1 coins0 sum1 (wr .i64 ((coins0.length : Int) - 1)) 0) := by kernel_rfl
noncomputable def T73 (n : Nat × Nat) : Nat → List Int → Int → Option R73
  | 0 => fun _ _ => none
  | d + 1 => B73 n (T73 n d)
theorem T73_eq (n : Nat × Nat) (d : Nat) (coins0 : List Int) (sum1 : Int) : T73 n (d + 1) coins0 sum1 = B73 n (T73 n d) coins0 sum1 := rfl
noncomputable def S73 (n : Nat × Nat) (coins0 : List Int) (sum1 : Int) : Option R73 := T73 n n.1 coins0 sum1
theorem B73_run (n : Nat × Nat) (SS : List Int → Int → Option R73) (xs : pksDen pk73) : B73 n SS xs.1 xs.2.1 = runG (E73 n SS) noScope c73 an73 (rtG rk73) (fun _ _ => none) (rtG rk73) (st0 pk73 xs Try.f73.ntmps) := by kernel_rfl
noncomputable def P73 (n : Nat × Nat) := phiOf pk73 rk73 (fun xs => S73 n xs.1 xs.2.1)
theorem call73 : CallOK Try.prog 73 := callOK_of Try.func73 (by kernel_rfl) (by kernel_rfl)
theorem env73 (n : Nat × Nat) (SS : List Int → Int → Option R73) (hSS : FCs Try.prog 73 (phiOf pk73 rk73 (fun xs => SS xs.1 xs.2.1))) : EnvOK Try.prog (E73 n SS) := envOK0 (consPhi_ok hSS call73 noPhi_ok) rfl rfl
theorem par73 (n : Nat × Nat) (SS : List Int → Int → Option R73) : EnvPar (E73 n SS) := envPar0 (consPhi_par phiOf_Par1 noPhi_par) rfl
theorem FCT73 (n : Nat × Nat) : ∀ d : Nat, FCs Try.prog 73 (phiOf pk73 rk73 (fun xs => T73 n d xs.1 xs.2.1))
  | 0 => phiOf_FCs fun xs r h => by cases h
  | d + 1 => phiOf_FCs fun xs r h vs hv => FC.of_runG tabOK eqsOK (env73 n (T73 n d) (FCT73 n d)) (par73 n (T73 n d)) mixed (fun _ => noScope_ok) Try.func73 (c := c73) (an := an73) (pks := pk73) (rks := rk73) (by kernel_rfl) (by kernel_rfl) hv ((B73_run n (T73 n d) xs).symm.trans h)
theorem FC73 (n : Nat × Nat) : FCs Try.prog 73 (P73 n) := FCT73 n n.1
end Go.Proofs.Ytjgmfdgpgdaclaa
set_option linter.unusedVariables false
set_option linter.unusedSimpArgs false
set_option maxRecDepth 100000
namespace Go.Proofs.Ytjgmfdgpgdaclaa
open Go.Vi
/- headword/headwordref12.Ways -/
abbrev R38 := Int × Int
noncomputable def c38 : Code := bodyOf Try.f38
noncomputable def an38 : Ann := (.s .l (.s .l (.s (.s .l (.j [0, 1] .l .l)) .l)))
def pk38 : List PK := [.c (.sl (.int .i64)), .c (.int .i64)]
def rk38 : List RK := [.c (.int .i64) 4, .c (.int .i64) 5]
noncomputable def rt38 (st : St) : Option R38 := rtG rk38 st
noncomputable def E38 (n : Nat × Nat) : Env := { T := tab, phi := (consPhi 58 (fun _ => true) (P58 n) (consPhi 73 (fun _ => true) (P73 n) noPhi)), eff := fun _ => false, fuel := n.1, hold := n.2 }
noncomputable def kq38_1 (n : Nat × Nat) : St → Option R38 := run (E38 n) (cB (cB (cB c38))) (Ann.snd (Ann.snd (Ann.snd an38))) rt38 (fun _ _ => none) rt38
noncomputable def kc38_2 (n : Nat × Nat) : St → Option R38 := fun s => normC [0, 1] s (kq38_1 n)
noncomputable def S38 (n : Nat × Nat) (coins0 : List Int) (sum1 : Int) : Option R38 := run (E38 n) c38 an38 rt38 (fun _ _ => none) rt38 { tm := [.c (.sl (.int .i64) coins0 false), .c (.int .i64 sum1), uu, uu, uu, uu, uu, uu, uu, uu, uu, uu, uu, uu, uu, uu], hp := emp }
theorem S38_eq (n : Nat × Nat) (coins0 : List Int) (sum1 : Int) : S38 n coins0 sum1 =
    (S58 n coins0 sum1).bind fun r1' =>
    (bif (r1' != 0) then some (0, r1')
    else (S73 n coins0 sum1).bind fun r2' =>
      some (r2', 0)) := by kernel_rfl
theorem S38_run (n : Nat × Nat) (xs : pksDen pk38) : S38 n xs.1 xs.2.1 = runG (E38 n) noScope c38 an38 (rtG rk38) (fun _ _ => none) (rtG rk38) (st0 pk38 xs Try.f38.ntmps) := by kernel_rfl
noncomputable def P38 (n : Nat × Nat) := phiOf pk38 rk38 (fun xs => S38 n xs.1 xs.2.1)
theorem call38 : CallOK Try.prog 38 := callOK_of Try.func38 (by kernel_rfl) (by kernel_rfl)
theorem env38 (n : Nat × Nat) : EnvOK Try.prog (E38 n) := envOK0 (consPhi_ok (FC58 n) call58 (consPhi_ok (FC73 n) call73 noPhi_ok)) rfl rfl
theorem par38 (n : Nat × Nat) : EnvPar (E38 n) := envPar0 (consPhi_par phiOf_Par1 (consPhi_par phiOf_Par1 noPhi_par)) rfl
theorem FC38 (n : Nat × Nat) : FCs Try.prog 38 (P38 n) := phiOf_FCs fun xs r h vs hv => FC.of_runG tabOK eqsOK (env38 n) (par38 n) mixed (fun _ => noScope_ok) Try.func38 (c := c38) (an := an38) (pks := pk38) (rks := rk38) (by kernel_rfl) (by kernel_rfl) hv ((S38_run n xs).symm.trans h)
end Go.Proofs.Ytjgmfdgpgdaclaa
set_option linter.unusedVariables false
set_option linter.unusedSimpArgs false
set_option maxRecDepth 100000
namespace Go.Proofs.Ytjgmfdgpgdaclaa
open Go.Vi
/-D 73 -/
noncomputable def DF73_1 (n : Nat × Nat) (SS : List Int → Int → Option R73) (f1 : List Int → Int → Int → Int → Option R73) (coins0 : List Int) (sum1 : Int) (v5 : Int) (v6 : Int) : Option R73 :=
    (bif decide (sum1 ≥ 0) then (bif bounds none (some v5) none coins0.length then (SS (coins0.take (Int.toNat v5)) sum1).bind fun r1' =>
        (idx coins0 v5).bind fun x2' =>
        f1 coins0 (wr .i64 (sum1 - x2')) v5 (wr .i64 (v6 + r1'))
      else none)
    else some v6)
noncomputable def DL73_1 (n : Nat × Nat) (SS : List Int → Int → Option R73) (m : Nat) : List Int → Int → Int → Int → Option R73 := Nat.rec (motive := fun _ => List Int → Int → Int → Int → Option R73) (fun _ _ _ _ => none) (fun _ ih => DF73_1 n SS ih) m
theorem DL73_1_succ (n : Nat × Nat) (SS : List Int → Int → Option R73) (m : Nat) : DL73_1 n SS (m + 1) = DF73_1 n SS (DL73_1 n SS m) := rfl
theorem DL73_1_eq (n : Nat × Nat) (hn : n.2 = 1) (SS : List Int → Int → Option R73) : ∀ m, L73_1 n SS m = DL73_1 n SS m
  | 0 => by funext coins0 sum1 v5 v6; kernel_rfl
  | m + 1 => by
    have ih := DL73_1_eq n hn SS m
    funext coins0 sum1 v5 v6; refine (L73_1_eq n SS m coins0 sum1 v5 v6).trans ?_
    rw [DL73_1_succ]
    unfold DF73_1
    (try simp only [ih]) <;> first | with_reducible rfl | rfl
noncomputable def DB73 (n : Nat × Nat) (SS : List Int → Int → Option R73) (coins0 : List Int) (sum1 : Int) : Option R73 :=
    (bif ((coins0.length : Int) == 1) then some 1
    else DL73_1 n SS n.1 coins0 sum1 (wr .i64 ((coins0.length : Int) - 1)) 0)
theorem DB73_eq (n : Nat × Nat) (hn : n.2 = 1) (SS : List Int → Int → Option R73) : B73 n SS = DB73 n SS := by
  funext coins0 sum1; refine (B73_eq n SS coins0 sum1).trans ?_
  unfold DB73
  (try simp only [DL73_1_eq n hn SS]) <;> first | with_reducible rfl | rfl
noncomputable def DT73 (n : Nat × Nat) (d : Nat) : List Int → Int → Option R73 := Nat.rec (motive := fun _ => List Int → Int → Option R73) (fun _ _ => none) (fun _ ih => DB73 n ih) d
theorem DT73_succ (n : Nat × Nat) (d : Nat) : DT73 n (d + 1) = DB73 n (DT73 n d) := rfl
theorem DT73_eq (n : Nat × Nat) (hn : n.2 = 1) : ∀ d, T73 n d = DT73 n d
  | 0 => rfl
  | d + 1 => by
    funext coins0 sum1
    rw [T73_eq, DT73_eq n hn d, DB73_eq n hn, DT73_succ]
noncomputable def D73 (n : Nat × Nat) (coins0 : List Int) (sum1 : Int) : Option R73 := DT73 n n.1 coins0 sum1
theorem S73_D (n : Nat × Nat) (hn : n.2 = 1) : S73 n = D73 n := by
  funext coins0 sum1; unfold S73 D73; rw [DT73_eq n hn]
end Go.Proofs.Ytjgmfdgpgdaclaa
set_option linter.unusedVariables false
set_option linter.unusedSimpArgs false
set_option maxRecDepth 100000
namespace Go.Proofs.Ytjgmfdgpgdaclaa
open Go.Vi
/-D 38 -/
noncomputable def D38 (n : Nat × Nat) (coins0 : List Int) (sum1 : Int) : Option R38 :=
    (D58 n coins0 sum1).bind fun r1' =>
    (bif (r1' != 0) then some (0, r1')
    else (D73 n coins0 sum1).bind fun r2' =>
      some (r2', 0))
theorem S38_D (n : Nat × Nat) (hn : n.2 = 1) : S38 n = D38 n := by
  funext coins0 sum1; refine (S38_eq n coins0 sum1).trans ?_
  unfold D38
  (try simp only [S58_D n hn, S73_D n hn]) <;> first | with_reducible rfl | rfl
end Go.Proofs.Ytjgmfdgpgdaclaa
