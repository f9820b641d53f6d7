/- The functions, step by step: written by program -/
import Derived.Test.YtombednapelokaaViS
import Derived.Test.YtombednapelokaaProg
import Derived.KernelRfl
import Derived.WalkKit
import Derived.Test.YtombednapelokaaDel
import Derived.Test.YtombednapelokaaGro
import Derived.Test.YtombednapelokaaCG3
import Derived.Test.YtombednapelokaaCD1
set_option linter.unusedVariables false
set_option linter.unusedSimpArgs false
set_option maxRecDepth 100000
namespace Go.Proofs.Ytombednapelokaa
open Go.Vi
variable (n : Nat × Nat)
/-D 69 -/
abbrev YCD21 := (List LP) → Int → (List LP) → Int → Int → Option R69
noncomputable def DL69_2 (n : Nat × Nat) (f1 : YCD21) (slices0 : List LP) (size3 : Int) (v9 : List LP) (v10 : Int) (v11 : Int) : Option R69 :=
    f1 slices0 size3 v9 v10 (wr .i64 (v11 + 1))
theorem DL69_2_eq (hn : n.2 = 1) (m1 : Nat) : L69_2 n m1 = DL69_2 n (L69_1 n m1) := by
  funext slices0 size3 v9 v10 v11; refine ((held_eq hn _).trans (L69_2_raw n m1 slices0 size3 v9 v10 v11)).trans ?_
  unfold DL69_2
  first | with_reducible rfl | rfl
abbrev YCD22 := (List LP) → Int → Int → LP → Option R69
noncomputable def DF69_3 (n : Nat × Nat) (f1 : YCD22) (v25 : List LP) (v26 : Int) (v27 : Int) (newslice6 : LP) : Option R69 :=
    (bif decide (v27 < v26) then (idx v25 v27).bind fun x2' =>
      (bif decide (newslice6.length + x2'.length ≤ lim) then f1 v25 v26 (wr .i64 (v27 + 1)) (newslice6 ++ x2')
      else none)
    else some newslice6)
noncomputable def DL69_3 (m : Nat) : YCD22 := Nat.rec (motive := fun _ => YCD22) (fun _ _ _ _ => none) (fun _ ih => DF69_3 n ih) m
theorem DL69_3_succ (m : Nat) : DL69_3 n (m + 1) = DF69_3 n (DL69_3 n m) := rfl
theorem DL69_3_eq (n : Nat × Nat) (hn : n.2 = 1) : ∀ m,L69_3 n m = DL69_3 n m
  | 0 => by funext v25 v26 v27 newslice6; kernel_rfl
  | m + 1 => by
    have ih := DL69_3_eq n hn m
    funext v25 v26 v27 newslice6; refine (L69_3_eq n m v25 v26 v27 newslice6).trans ?_
    rw [DL69_3_succ]
    unfold DF69_3
    (try simp only [ih,DL69_2_eq n hn]) <;> first | with_reducible rfl | rfl
noncomputable def DF69_1 (f1 : YCD21) (slices0 : List LP) (size3 : Int) (v9 : List LP) (v10 : Int) (v11 : Int) : Option R69 :=
    (bif decide (v11 < v10) then (idx v9 v11).bind fun x1' =>
      (bif decide (wr .i64 (size3 + (x1'.length : Int)) < 0) then none
      else DL69_2 n f1 slices0 (wr .i64 (size3 + (x1'.length : Int))) v9 v10 v11)
    else (bif decide (0 ≤ size3) && decide (size3 ≤ 1073741824) then DL69_3 n n.1 slices0 (slices0.length : Int) 0 []
      else none))
noncomputable def DL69_1 (m : Nat) : YCD21 := Nat.rec (motive := fun _ => YCD21) (fun _ _ _ _ _ => none) (fun _ ih => DF69_1 n ih) m
theorem DL69_1_succ (m : Nat) : DL69_1 n (m + 1) = DF69_1 n (DL69_1 n m) := rfl
theorem DL69_1_eq (n : Nat × Nat) (hn : n.2 = 1) : ∀ m,L69_1 n m = DL69_1 n m
  | 0 => by funext slices0 size3 v9 v10 v11; kernel_rfl
  | m + 1 => by
    have ih := DL69_1_eq n hn m
    funext slices0 size3 v9 v10 v11; refine (L69_1_eq n m slices0 size3 v9 v10 v11).trans ?_
    rw [DL69_1_succ]
    unfold DF69_1
    (try simp only [ih,DL69_2_eq n hn,DL69_3_eq n hn]) <;> first | with_reducible rfl | rfl
noncomputable def D69 (slices0 : List LP) : Option R69 :=
    DL69_1 n n.1 slices0 0 slices0 (slices0.length : Int) 0
theorem S69_D (hn : n.2 = 1) : S69 n = D69 n := by
  funext slices0; refine (S69_eq n slices0).trans ?_
  unfold D69
  (try simp only [DL69_2_eq n hn,DL69_3_eq n hn,DL69_1_eq n hn]) <;> first | with_reducible rfl | rfl
end Go.Proofs.Ytombednapelokaa
