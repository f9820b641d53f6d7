/- The law: written by program -/
import Derived.Test.YtombednapelokaaViS
import Derived.Test.YtombednapelokaaProg
import Derived.KernelRfl
import Derived.WalkKit
import Derived.Test.YtombednapelokaaCD1
set_option linter.unusedVariables false
set_option linter.unusedSimpArgs false
set_option maxRecDepth 100000
namespace Go.Proofs.Ytombednapelokaa
open Go.Vi
/- headword/headwordlaw08.ReignMore -/
abbrev R10 := Bool
noncomputable def c10 : Code := bodyOf Try.f10
noncomputable def an10 : Ann := (.s .l (.s .l (.s .l (.s .l (.s .l (.s .l (.s .l (.s (.s .l (.j [10, 12] .l .l)) (.s (.s .l (.j [] (.j [10, 12, 72, 73] (.s .l (.s (.j [10, 12, 72, 73] .l .l) (.s (.j [10, 12, 72, 73] (.s .l (.s .l (.j [10, 12, 72, 73] .l .l))) .l) .l))) .l) .l)) .l)))))))))
def pk10 : List PK := [.c (.pair (.int .u8) (.pair (.pair (.int .u8) (.pair (.int .u8) (.pair (.int .u8) (.pair (.int .u8) (.pair (.int .u8) (.pair (.int .u8) (.pair (.int .u8) (.int .u8)))))))) (.pair (.int .u8) (.pair (.int .u8) (.pair (.int .u8) (.pair (.int .u8) (.pair (.int .u8) (.pair (.int .u8) (.pair (.int .u8) (.int .u8)))))))))), .c (.int .u8), .c (.int .u8)]
def rk10 : List RK := [.c .bool 6]
noncomputable def rt10 (st : St) : Option R10 := rtG rk10 st
noncomputable def E10 (n : Nat × Nat) : Env := { T := tab, phi := (consPhi 18 (fun _ => true) (P18 n) (consPhi 30 (fun _ => true) (P30 n) (consPhi 47 (fun _ => true) (P47 n) (consPhi 48 (fun _ => true) (P48 n) (consPhi 61 (fun _ => true) (P61 n) (consPhi 62 (fun _ => true) (P62 n) noPhi)))))), eff := fun _ => false, fuel := n.1, hold := n.2 }
noncomputable def kq10_1 (n : Nat × Nat) : St → Option R10 := run (E10 n) (cB (cB (cB (cB (cB (cB (cB (cB c10)))))))) (Ann.snd (Ann.snd (Ann.snd (Ann.snd (Ann.snd (Ann.snd (Ann.snd (Ann.snd an10)))))))) rt10 (fun _ _ => none) rt10
noncomputable def kc10_2 (n : Nat × Nat) : St → Option R10 := fun s => normC [10, 12] s (kq10_1 n)
noncomputable def kq10_3 (n : Nat × Nat) : St → Option R10 := run (E10 n) (cB (cB (cB (cB (cB (cB (cB (cB (cB c10))))))))) (Ann.snd (Ann.snd (Ann.snd (Ann.snd (Ann.snd (Ann.snd (Ann.snd (Ann.snd (Ann.snd an10))))))))) rt10 (fun _ _ => none) rt10
noncomputable def kc10_4 (n : Nat × Nat) : St → Option R10 := fun s => normC [] s (kq10_3 n)
noncomputable def xb10_5 (n : Nat × Nat) : Nat → St → Option R10 := fun j s => bif Nat.beq j 0 then normC [] s (kq10_3 n) else (fun _ _ => none) j s
noncomputable def F10_6 (n : Nat × Nat) : (St → Option R10) → St → Option R10 := fun K s => run (E10 n) (cA (cA (cB (cA (cB (cB (cB (cB (cB (cB (cB (cB c10)))))))))))) (Ann.fst (Ann.fst (Ann.snd (Ann.fst (Ann.snd (Ann.snd (Ann.snd (Ann.snd (Ann.snd (Ann.snd (Ann.snd (Ann.snd an10)))))))))))) (fun s => normC [10, 12, 72, 73] s K) (xb10_5 n) rt10 s
noncomputable def kq10_7 (n : Nat × Nat) (m1 : Nat) : St → Option R10 := run (E10 n) (cB (cB (cA (cA (cB (cA (cB (cB (cB (cB (cB (cB (cB (cB c10)))))))))))))) (Ann.snd (Ann.snd (Ann.fst (Ann.fst (Ann.snd (Ann.fst (Ann.snd (Ann.snd (Ann.snd (Ann.snd (Ann.snd (Ann.snd (Ann.snd (Ann.snd an10)))))))))))))) (fun s => normC [10, 12, 72, 73] s (loopN (F10_6 n) m1)) (xb10_5 n) rt10
noncomputable def kc10_8 (n : Nat × Nat) (m1 : Nat) : St → Option R10 := fun s => normC [10, 12, 72, 73] s (kq10_7 n m1)
noncomputable def kq10_9 (n : Nat × Nat) (m1 : Nat) : St → Option R10 := run (E10 n) (cB (cB (cB (cA (cA (cB (cA (cB (cB (cB (cB (cB (cB (cB (cB c10))))))))))))))) (Ann.snd (Ann.snd (Ann.snd (Ann.fst (Ann.fst (Ann.snd (Ann.fst (Ann.snd (Ann.snd (Ann.snd (Ann.snd (Ann.snd (Ann.snd (Ann.snd (Ann.snd an10))))))))))))))) (fun s => normC [10, 12, 72, 73] s (loopN (F10_6 n) m1)) (xb10_5 n) rt10
noncomputable def kc10_10 (n : Nat × Nat) (m1 : Nat) : St → Option R10 := fun s => normC [10, 12, 72, 73] s (kq10_9 n m1)
noncomputable def xb10_11 (n : Nat × Nat) (m1 : Nat) : Nat → St → Option R10 := fun j s => bif Nat.beq j 1 then normC [10, 12, 72, 73] s (kq10_9 n m1) else (xb10_5 n) j s
noncomputable def kc10_12 (n : Nat × Nat) (m1 : Nat) : St → Option R10 := fun s => normC [10, 12, 72, 73] s (kc10_10 n m1)
noncomputable def L10_1 (n : Nat × Nat) (m : Nat) (v72 : Int) (v73 : Int) (v10 : List (Int × Int)) (w12 : List (Int × Int)) : Option R10 := loopN (F10_6 n) m { tm := [.undef, .undef, .undef, .undef, .undef, .undef, .undef, .undef, .undef, .undef, .own 10 none false, .undef, .own 12 none false, .undef, .undef, .undef, .undef, .undef, .undef, .undef, .undef, .undef, .undef, .undef, .undef, .undef, .undef, .undef, .undef, .undef, .undef, .undef, .undef, .undef, .undef, .undef, .undef, .undef, .undef, .undef, .undef, .undef, .undef, .undef, .undef, .undef, .undef, .undef, .undef, .undef, .undef, .undef, .undef, .undef, .undef, .undef, .undef, .undef, .undef, .undef, .undef, .undef, .undef, .undef, .undef, .undef, .undef, .undef, .undef, .undef, .undef, .undef, .c (.int .i64 v72), .c (.int .i64 v73), .undef, .undef, .undef, .undef, .undef, .undef, .undef, .undef, .undef, .undef, .undef, .undef, .undef, .undef], hp := (upd (upd emp 12 (.arr (.pair (.int .i64) (.int .i64)) w12 false)) 10 (.arr (.pair (.int .i64) (.int .i64)) v10 false)) }
theorem L10_1_eq (n : Nat × Nat) (m1 : Nat) (v72 : Int) (v73 : Int) (v10 : List (Int × Int)) (w12 : List (Int × Int)) : L10_1 n (m1 + 1) v72 v73 v10 w12 =
    (bif decide (v73 < v72) then (bif inB v73 w12.length then (idx w12 v73).bind fun x13' =>
        (bif inB v73 v10.length then (idx v10 v73).bind fun x14' =>
          (S62 n x13' x14').bind fun r15' =>
          (bif decide (r15' < 0) then some false
          else L10_1 n m1 v72 (wr .i64 (v73 + 1)) v10 w12)
        else none)
      else none)
    else (S18 n).bind fun r16' =>
      some r16') := by kernel_rfl
noncomputable def S10 (n : Nat × Nat) (a0 : Int × (Int × Int × Int × Int × Int × Int × Int × Int) × Int × Int × Int × Int × Int × Int × Int × Int) (one1 : Int) (v2 : Int) : Option R10 := run (E10 n) c10 an10 rt10 (fun _ _ => none) rt10 { tm := [.agg [.int .u8 a0.1, .int .u8 a0.2.1.1, .int .u8 a0.2.1.2.1, .int .u8 a0.2.1.2.2.1, .int .u8 a0.2.1.2.2.2.1, .int .u8 a0.2.1.2.2.2.2.1, .int .u8 a0.2.1.2.2.2.2.2.1, .int .u8 a0.2.1.2.2.2.2.2.2.1, .int .u8 a0.2.1.2.2.2.2.2.2.2, .int .u8 a0.2.2.1, .int .u8 a0.2.2.2.1, .int .u8 a0.2.2.2.2.1, .int .u8 a0.2.2.2.2.2.1, .int .u8 a0.2.2.2.2.2.2.1, .int .u8 a0.2.2.2.2.2.2.2.1, .int .u8 a0.2.2.2.2.2.2.2.2.1, .int .u8 a0.2.2.2.2.2.2.2.2.2], .c (.int .u8 one1), .c (.int .u8 v2), .undef, .undef, .undef, .undef, .undef, .undef, .undef, .undef, .undef, .undef, .undef, .undef, .undef, .undef, .undef, .undef, .undef, .undef, .undef, .undef, .undef, .undef, .undef, .undef, .undef, .undef, .undef, .undef, .undef, .undef, .undef, .undef, .undef, .undef, .undef, .undef, .undef, .undef, .undef, .undef, .undef, .undef, .undef, .undef, .undef, .undef, .undef, .undef, .undef, .undef, .undef, .undef, .undef, .undef, .undef, .undef, .undef, .undef, .undef, .undef, .undef, .undef, .undef, .undef, .undef, .undef, .undef, .undef, .undef, .undef, .undef, .undef, .undef, .undef, .undef, .undef, .undef, .undef, .undef, .undef, .undef, .undef, .undef, .undef, .undef], hp := emp }
theorem S10_eq (n : Nat × Nat) (a0 : Int × (Int × Int × Int × Int × Int × Int × Int × Int) × Int × Int × Int × Int × Int × Int × Int × Int) (one1 : Int) (v2 : Int) : S10 n a0 one1 v2 =
    (S47 n a0 8 100).bind fun r1' =>
    (bif (r1'.length : Int) == 0 then none
    else (S61 n r1').bind fun r2' =>
      (bif inB (Int.tmod (wr .i64 one1) (r1'.length : Int)) r2'.length then (idx r2' (Int.tmod (wr .i64 one1) (r1'.length : Int))).bind fun x3' =>
        (bif inB (Int.tmod (wr .i64 one1) (r1'.length : Int)) r2'.length then (idx r2' (Int.tmod (wr .i64 one1) (r1'.length : Int))).bind fun x4' =>
          (bif (wr .i64 (101 - x4'.1)) == 0 then none
          else (bif inB (Int.tmod (wr .i64 one1) (r1'.length : Int)) r2'.length then (idx r2' (Int.tmod (wr .i64 one1) (r1'.length : Int))).bind fun x5' =>
              (S30 n r1').bind fun r6' =>
              (S30 n (r2'.set (Int.toNat (Int.tmod (wr .i64 one1) (r1'.length : Int))) (wr .i64 (x3'.1 + (Int.tmod (wr .i64 v2) (wr .i64 (101 - x4'.1)))), x5'.2))).bind fun r7' =>
              ((bif ((r6'.2 != 0) == false) then some (r7'.2 != 0)
                else some true)).bind fun b8' =>
              ((bif (b8' == false) then (S48 n r6'.1 (r1'.length : Int)).bind fun r9' =>
                  some (!r9')
                else some true)).bind fun b10' =>
              ((bif (b10' == false) then (S48 n r7'.1 (r1'.length : Int)).bind fun r11' =>
                  some (!r11')
                else some true)).bind fun b12' =>
              (bif b12' then some false
              else L10_1 n n.1 (r6'.1.length : Int) 0 r6'.1 r7'.1)
            else none))
        else none)
      else none)) := by kernel_rfl
theorem S10_run (n : Nat × Nat) (xs : pksDen pk10) : S10 n xs.1 xs.2.1 xs.2.2.1 = runG (E10 n) noScope c10 an10 (rtG rk10) (fun _ _ => none) (rtG rk10) (st0 pk10 xs Try.f10.ntmps) := by kernel_rfl
noncomputable def P10 (n : Nat × Nat) := phiOf pk10 rk10 (fun xs => S10 n xs.1 xs.2.1 xs.2.2.1)
theorem call10 : CallOK Try.prog 10 := callOK_of Try.func10 (by kernel_rfl) (by kernel_rfl)
theorem env10 (n : Nat × Nat) : EnvOK Try.prog (E10 n) := envOK0 (consPhi_ok (FC18 n) call18 (consPhi_ok (FC30 n) call30 (consPhi_ok (FC47 n) call47 (consPhi_ok (FC48 n) call48 (consPhi_ok (FC61 n) call61 (consPhi_ok (FC62 n) call62 noPhi_ok)))))) rfl rfl
theorem par10 (n : Nat × Nat) : EnvPar (E10 n) := envPar0 (consPhi_par phiOf_Par1 (consPhi_par phiOf_Par1 (consPhi_par phiOf_Par1 (consPhi_par phiOf_Par1 (consPhi_par phiOf_Par1 (consPhi_par phiOf_Par1 noPhi_par)))))) rfl
theorem FC10 (n : Nat × Nat) : FCs Try.prog 10 (P10 n) := phiOf_FCs fun xs r h vs hv => FC.of_runG tabOK eqsOK (env10 n) (par10 n) mixed (fun _ => noScope_ok) Try.func10 (c := c10) (an := an10) (pks := pk10) (rks := rk10) (by kernel_rfl) (by kernel_rfl) hv ((S10_run n xs).symm.trans h)
/-D 10 -/
noncomputable def DF10_1 (n : Nat × Nat) (f1 : Int → Int → (List (Int × Int)) → (List (Int × Int)) → Option R10) (v72 : Int) (v73 : Int) (v10 : List (Int × Int)) (w12 : List (Int × Int)) : Option R10 :=
    (bif decide (v73 < v72) then (bif inB v73 w12.length then (idx w12 v73).bind fun x13' =>
        (bif inB v73 v10.length then (idx v10 v73).bind fun x14' =>
          (D62 n x13' x14').bind fun r15' =>
          (bif decide (r15' < 0) then some false
          else f1 v72 (wr .i64 (v73 + 1)) v10 w12)
        else none)
      else none)
    else (D18 n).bind fun r16' =>
      some r16')
noncomputable def DL10_1 (n : Nat × Nat) (m : Nat) : Int → Int → (List (Int × Int)) → (List (Int × Int)) → Option R10 := Nat.rec (motive := fun _ => Int → Int → (List (Int × Int)) → (List (Int × Int)) → Option R10) (fun _ _ _ _ => none) (fun _ ih => DF10_1 n ih) m
theorem DL10_1_succ (n : Nat × Nat) (m : Nat) : DL10_1 n (m + 1) = DF10_1 n (DL10_1 n m) := rfl
theorem DL10_1_eq (n : Nat × Nat) (hn : n.2 = 1) : ∀ m, L10_1 n m = DL10_1 n m
  | 0 => by funext v72 v73 v10 w12; kernel_rfl
  | m + 1 => by
    have ih := DL10_1_eq n hn m
    funext v72 v73 v10 w12; refine (L10_1_eq n m v72 v73 v10 w12).trans ?_
    rw [DL10_1_succ]
    unfold DF10_1
    first | (simp only [ih, S18_D n hn, S30_D n hn, S47_D n hn, S48_D n hn, S61_D n hn, S62_D n hn]; done) | (simp only [ih, S18_D n hn, S30_D n hn, S47_D n hn, S48_D n hn, S61_D n hn, S62_D n hn]; with_reducible rfl) | with_reducible rfl | rfl
noncomputable def D10 (n : Nat × Nat) (a0 : Int × (Int × Int × Int × Int × Int × Int × Int × Int) × Int × Int × Int × Int × Int × Int × Int × Int) (one1 : Int) (v2 : Int) : Option R10 :=
    (D47 n a0 8 100).bind fun r1' =>
    (bif (r1'.length : Int) == 0 then none
    else (D61 n r1').bind fun r2' =>
      (bif inB (Int.tmod (wr .i64 one1) (r1'.length : Int)) r2'.length then (idx r2' (Int.tmod (wr .i64 one1) (r1'.length : Int))).bind fun x3' =>
        (bif inB (Int.tmod (wr .i64 one1) (r1'.length : Int)) r2'.length then (idx r2' (Int.tmod (wr .i64 one1) (r1'.length : Int))).bind fun x4' =>
          (bif (wr .i64 (101 - x4'.1)) == 0 then none
          else (bif inB (Int.tmod (wr .i64 one1) (r1'.length : Int)) r2'.length then (idx r2' (Int.tmod (wr .i64 one1) (r1'.length : Int))).bind fun x5' =>
              (D30 n r1').bind fun r6' =>
              (D30 n (r2'.set (Int.toNat (Int.tmod (wr .i64 one1) (r1'.length : Int))) (wr .i64 (x3'.1 + (Int.tmod (wr .i64 v2) (wr .i64 (101 - x4'.1)))), x5'.2))).bind fun r7' =>
              ((bif ((r6'.2 != 0) == false) then some (r7'.2 != 0)
                else some true)).bind fun b8' =>
              ((bif (b8' == false) then (D48 n r6'.1 (r1'.length : Int)).bind fun r9' =>
                  some (!r9')
                else some true)).bind fun b10' =>
              ((bif (b10' == false) then (D48 n r7'.1 (r1'.length : Int)).bind fun r11' =>
                  some (!r11')
                else some true)).bind fun b12' =>
              (bif b12' then some false
              else DL10_1 n n.1 (r6'.1.length : Int) 0 r6'.1 r7'.1)
            else none))
        else none)
      else none))
theorem S10_D (n : Nat × Nat) (hn : n.2 = 1) : S10 n = D10 n := by
  funext a0 one1 v2; refine (S10_eq n a0 one1 v2).trans ?_
  unfold D10
  first | (simp only [DL10_1_eq n hn, S18_D n hn, S30_D n hn, S47_D n hn, S48_D n hn, S61_D n hn, S62_D n hn]; done) | (simp only [DL10_1_eq n hn, S18_D n hn, S30_D n hn, S47_D n hn, S48_D n hn, S61_D n hn, S62_D n hn]; with_reducible rfl) | with_reducible rfl | rfl
noncomputable def PD10 (n : Nat × Nat) := phiOf pk10 rk10 (fun xs => D10 n xs.1 xs.2.1 xs.2.2.1)
theorem P10_D (n : Nat × Nat) (hn : n.2 = 1) : P10 n = PD10 n := by unfold P10 PD10; rw [S10_D n hn]
end Go.Proofs.Ytombednapelokaa
