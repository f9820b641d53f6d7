/- The law: written by program -/
import Derived.Test.YtombednapelokaaViS
import Derived.Test.YtombednapelokaaProg
import Derived.KernelRfl
import Derived.WalkKit
import Derived.Test.YtombednapelokaaDel
import Derived.Test.YtombednapelokaaCD1
set_option linter.unusedVariables false
set_option linter.unusedSimpArgs false
set_option maxRecDepth 100000
namespace Go.Proofs.Ytombednapelokaa
open Go.Vi
variable (n : Nat × Nat)
abbrev R11 := Bool
abbrev K11 := St → Option R11
noncomputable def c11 : Code := bodyOf Try.f11
noncomputable def an11 : Ann := (.s .l (.s .l (.s .l (.s .l (.s (.s .l (.j [3,4,63,64,67,68,71,72,75,76,77,78,79,82,83,84,85,86,89,90,91,132,133,136,137,138,139,140,143] (.j [3,4,25,26,63,64,67,68,71,72,75,76,77,78,79,82,83,84,85,86,89,90,91,132,133,136,137,138,139,140,143] (.s .l (.s (.j [3,4,25,26,63,64,67,68,71,72,75,76,77,78,79,82,83,84,85,86,89,90,91,132,133,136,137,138,139,140,143] .l .l) (.s (.j [3,4,25,26,63,64,67,68,71,72,75,76,77,78,79,82,83,84,85,86,89,90,91,132,133,136,137,138,139,140,143] .l .l) .l))) .l) .l)) (.s .l (.s .l (.s .l (.s .l (.s (.s .l (.j [3,4,6,8,132,133,136,137,138,139,140,143] .l .l)) (.s (.s .l (.j [3,4,132,133,136,137,138,139,140,143] (.j [3,4,8,93,94,95,132,133,136,137,138,139,140,143] (.s .l (.s (.j [3,4,8,93,94,95,132,133,136,137,138,139,140,143] .l .l) (.s (.j [3,4,8,93,94,95,132,133,136,137,138,139,140,143] (.s .l (.s .l (.j [3,4,8,93,94,95,132,133,136,137,138,139,140,143] .l .l))) .l) .l))) .l) .l)) .l)))))))))))
def pk11 : List PK := [.c (.pair (.int .u8) (.pair (.pair (.int .u8) (.pair (.int .u8) (.pair (.int .u8) (.pair (.int .u8) (.pair (.int .u8) (.pair (.int .u8) (.pair (.int .u8) (.int .u8)))))))) (.pair (.int .u8) (.pair (.int .u8) (.pair (.int .u8) (.pair (.int .u8) (.pair (.int .u8) (.pair (.int .u8) (.pair (.int .u8) (.int .u8))))))))))]
def rk11 : List RK := [.c .bool 2]
noncomputable def rt11 (st : St) : Option R11 := rtG rk11 st
noncomputable def io11 : List IoE := [⟨63,(fun _ => true),pk63io1.map QK.flag,P63io1 n⟩]
noncomputable def E11 : Env := { T := tab,phi := (consPhi 18 (fun _ => true) (P18 n) (consPhi 30 (fun _ => true) (P30 n) (consPhi 35 (fun _ => true) (P35 n) (consPhi 44 (fun _ => true) (P44 n) (consPhi 47 (fun _ => true) (P47 n) (consPhi 48 (fun _ => true) (P48 n) (consPhi 52 (fun _ => true) (P52 n) (consPhi 61 (fun _ => true) (P61 n) noPhi)))))))),eff := fun _ => false,fuel := n.1,hold := n.2,phio := phioL (io11 n),iop := iopL (io11 n) }
noncomputable def kq11_1 : K11 := run (E11 n) (cB (cB (cB (cB (cB c11))))) an11.snd.snd.snd.snd.snd rt11 (fun _ _ => none) rt11
noncomputable def kc11_2 : K11 := fun s => normC [3,4,63,64,67,68,71,72,75,76,77,78,79,82,83,84,85,86,89,90,91,132,133,136,137,138,139,140,143] s (kq11_1 n)
noncomputable def xb11_3 : Nat → K11 := fun j s => bif Nat.beq j 0 then normC [3,4,63,64,67,68,71,72,75,76,77,78,79,82,83,84,85,86,89,90,91,132,133,136,137,138,139,140,143] s (kq11_1 n) else (fun _ _ => none) j s
noncomputable def F11_4 : (K11) → K11 := fun K s => run (E11 n) (cA (cA (cB (cA (cB (cB (cB (cB c11)))))))) an11.snd.snd.snd.snd.fst.snd.fst.fst (fun s => normC [3,4,25,26,63,64,67,68,71,72,75,76,77,78,79,82,83,84,85,86,89,90,91,132,133,136,137,138,139,140,143] s K) (xb11_3 n) rt11 s
noncomputable def kq11_5 (m1 : Nat) : K11 := run (E11 n) (cB (cB (cA (cA (cB (cA (cB (cB (cB (cB c11)))))))))) an11.snd.snd.snd.snd.fst.snd.fst.fst.snd.snd (fun s => normC [3,4,25,26,63,64,67,68,71,72,75,76,77,78,79,82,83,84,85,86,89,90,91,132,133,136,137,138,139,140,143] s (loopN (F11_4 n) m1)) (xb11_3 n) rt11
noncomputable def kc11_6 (m1 : Nat) : K11 := fun s => normC [3,4,25,26,63,64,67,68,71,72,75,76,77,78,79,82,83,84,85,86,89,90,91,132,133,136,137,138,139,140,143] s (kq11_5 n m1)
noncomputable def kq11_7 (m1 : Nat) : K11 := run (E11 n) (cB (cB (cB (cA (cA (cB (cA (cB (cB (cB (cB c11))))))))))) an11.snd.snd.snd.snd.fst.snd.fst.fst.snd.snd.snd (fun s => normC [3,4,25,26,63,64,67,68,71,72,75,76,77,78,79,82,83,84,85,86,89,90,91,132,133,136,137,138,139,140,143] s (loopN (F11_4 n) m1)) (xb11_3 n) rt11
noncomputable def kc11_8 (m1 : Nat) : K11 := fun s => normC [3,4,25,26,63,64,67,68,71,72,75,76,77,78,79,82,83,84,85,86,89,90,91,132,133,136,137,138,139,140,143] s (kq11_7 n m1)
noncomputable def xb11_9 (m1 : Nat) : Nat → K11 := fun j s => bif Nat.beq j 1 then normC [3,4,25,26,63,64,67,68,71,72,75,76,77,78,79,82,83,84,85,86,89,90,91,132,133,136,137,138,139,140,143] s (kq11_7 n m1) else (xb11_3 n) j s
noncomputable def kq11_10 : K11 := run (E11 n) (cB (cB (cB (cB (cB (cB (cB (cB (cB (cB c11)))))))))) an11.snd.snd.snd.snd.snd.snd.snd.snd.snd.snd rt11 (fun _ _ => none) rt11
noncomputable def kc11_11 : K11 := fun s => normC [3,4,6,8,132,133,136,137,138,139,140,143] s (kq11_10 n)
noncomputable def kq11_12 : K11 := run (E11 n) (cB (cB (cB (cB (cB (cB (cB (cB (cB (cB (cB c11))))))))))) an11.snd.snd.snd.snd.snd.snd.snd.snd.snd.snd.snd rt11 (fun _ _ => none) rt11
noncomputable def kc11_13 : K11 := fun s => normC [3,4,132,133,136,137,138,139,140,143] s (kq11_12 n)
noncomputable def xb11_14 : Nat → K11 := fun j s => bif Nat.beq j 2 then normC [3,4,132,133,136,137,138,139,140,143] s (kq11_12 n) else (fun _ _ => none) j s
noncomputable def F11_15 : (K11) → K11 := fun K s => run (E11 n) (cA (cA (cB (cA (cB (cB (cB (cB (cB (cB (cB (cB (cB (cB c11)))))))))))))) an11.snd.snd.snd.snd.snd.snd.snd.snd.snd.snd.fst.snd.fst.fst (fun s => normC [3,4,8,93,94,95,132,133,136,137,138,139,140,143] s K) (xb11_14 n) rt11 s
noncomputable def kq11_16 (m1 : Nat) : K11 := run (E11 n) (cB (cB (cA (cA (cB (cA (cB (cB (cB (cB (cB (cB (cB (cB (cB (cB c11)))))))))))))))) an11.snd.snd.snd.snd.snd.snd.snd.snd.snd.snd.fst.snd.fst.fst.snd.snd (fun s => normC [3,4,8,93,94,95,132,133,136,137,138,139,140,143] s (loopN (F11_15 n) m1)) (xb11_14 n) rt11
noncomputable def kc11_17 (m1 : Nat) : K11 := fun s => normC [3,4,8,93,94,95,132,133,136,137,138,139,140,143] s (kq11_16 n m1)
noncomputable def kq11_18 (m1 : Nat) : K11 := run (E11 n) (cB (cB (cB (cA (cA (cB (cA (cB (cB (cB (cB (cB (cB (cB (cB (cB (cB c11))))))))))))))))) an11.snd.snd.snd.snd.snd.snd.snd.snd.snd.snd.fst.snd.fst.fst.snd.snd.snd (fun s => normC [3,4,8,93,94,95,132,133,136,137,138,139,140,143] s (loopN (F11_15 n) m1)) (xb11_14 n) rt11
noncomputable def kc11_19 (m1 : Nat) : K11 := fun s => normC [3,4,8,93,94,95,132,133,136,137,138,139,140,143] s (kq11_18 n m1)
noncomputable def xb11_20 (m1 : Nat) : Nat → K11 := fun j s => bif Nat.beq j 3 then normC [3,4,8,93,94,95,132,133,136,137,138,139,140,143] s (kq11_18 n m1) else (xb11_14 n) j s
noncomputable def kc11_21 (m1 : Nat) : K11 := fun s => normC [3,4,8,93,94,95,132,133,136,137,138,139,140,143] s (kc11_19 n m1)
noncomputable def L11_1 (m : Nat) (v25 : Int) (v26 : Int) (l3 : LP) (back4 : LP) : Option R11 := loopN (F11_4 n) m { tm := [uu,uu,uu,.own 3 none false,.own 4 none false,uu,uu,uu,uu,uu,uu,uu,uu,uu,uu,uu,uu,uu,uu,uu,uu,uu,uu,uu,uu,.c (.int .i64 v25),.c (.int .i64 v26),uu,uu,uu,uu,uu,uu,uu,uu,uu,uu,uu,uu,uu,uu,uu,uu,uu,uu,uu,uu,uu,uu,uu,uu,uu,uu,uu,uu,uu,uu,uu,uu,uu,uu,uu,uu,uu,uu,uu,uu,uu,uu,uu,uu,uu,uu,uu,uu,uu,uu,uu,uu,uu,uu,uu,uu,uu,uu,uu,uu,uu,uu,uu,uu,uu,uu,uu,uu,uu,uu,uu,uu,uu,uu,uu,uu,uu,uu,uu,uu,uu,uu,uu,uu,uu,uu,uu,uu,uu,uu,uu,uu,uu,uu,uu,uu,uu,uu,uu,uu,uu,uu,uu,uu,uu,uu,uu,uu,uu,uu,uu,uu,uu,uu,uu,uu,uu,uu],hp := (upd (upd emp 4 (.arr (.pair (.int .i64) (.int .i64)) back4 false)) 3 (.arr (.pair (.int .i64) (.int .i64)) l3 false)) }
noncomputable def L11_2 (m : Nat) (v94 : Int) (v95 : Int) (l3 : LP) (back4 : LP) (w8 : LP) (v93 : LP) : Option R11 := loopN (F11_15 n) m { tm := [uu,uu,uu,.own 3 none false,.own 4 none false,uu,uu,uu,.own 8 none false,uu,uu,uu,uu,uu,uu,uu,uu,uu,uu,uu,uu,uu,uu,uu,uu,uu,uu,uu,uu,uu,uu,uu,uu,uu,uu,uu,uu,uu,uu,uu,uu,uu,uu,uu,uu,uu,uu,uu,uu,uu,uu,uu,uu,uu,uu,uu,uu,uu,uu,uu,uu,uu,uu,uu,uu,uu,uu,uu,uu,uu,uu,uu,uu,uu,uu,uu,uu,uu,uu,uu,uu,uu,uu,uu,uu,uu,uu,uu,uu,uu,uu,uu,uu,.own 93 none false,.c (.int .i64 v94),.c (.int .i64 v95),uu,uu,uu,uu,uu,uu,uu,uu,uu,uu,uu,uu,uu,uu,uu,uu,uu,uu,uu,uu,uu,uu,uu,uu,uu,uu,uu,uu,uu,uu,uu,uu,uu,uu,uu,uu,uu,uu,uu,uu,uu,uu,uu,uu,uu,uu,uu,uu,uu],hp := (upd (upd (upd (upd emp 93 (.arr (.pair (.int .i64) (.int .i64)) v93 false)) 8 (.arr (.pair (.int .i64) (.int .i64)) w8 false)) 4 (.arr (.pair (.int .i64) (.int .i64)) back4 false)) 3 (.arr (.pair (.int .i64) (.int .i64)) l3 false)) }
theorem L11_1_eq (m1 : Nat) (v25 : Int) (v26 : Int) (l3 : LP) (back4 : LP) : L11_1 n (m1 + 1) v25 v26 l3 back4 =
    (bif decide (v26 < v25) then (bif inB v26 back4.length then (idx back4 v26).bind fun x4' =>
        (bif inB v26 back4.length then (idx back4 v26).bind fun x5' =>
          L11_1 n m1 v25 (wr .i64 (v26 + 1)) l3 (back4.set (Int.toNat v26) (wr .i64 (100 - x4'.1),x5'.2))
        else none)
      else none)
    else (S30 n l3).bind fun r6' =>
      (S30 n back4).bind fun r7' =>
      (S35 n l3).bind fun r8' =>
      (S35 n back4).bind fun r9' =>
      ((bif ((r6'.2 != 0) == false) then some (r7'.2 != 0)
        else some true)).bind fun b10' =>
      ((bif (b10' == false) then some (r8'.2 != 0)
        else some true)).bind fun b11' =>
      ((bif (b11' == false) then some (r9'.2 != 0)
        else some true)).bind fun b12' =>
      ((bif (b12' == false) then (S48 n r6'.1 (l3.length : Int)).bind fun r13' =>
          some (!r13')
        else some true)).bind fun b14' =>
      ((bif (b14' == false) then some ((r7'.1.length : Int) != (l3.length : Int))
        else some true)).bind fun b15' =>
      ((bif (b15' == false) then some (!((r8'.1.1 == r9'.1.1) && ((r8'.1.2 == r9'.1.2) && true)))
        else some true)).bind fun b16' =>
      (bif b16' then some false
      else L11_2 n n.1 (r6'.1.length : Int) 0 l3 back4 r7'.1 r6'.1)) := by kernel_rfl
theorem L11_2_eq (m1 : Nat) (v94 : Int) (v95 : Int) (l3 : LP) (back4 : LP) (w8 : LP) (v93 : LP) : L11_2 n (m1 + 1) v94 v95 l3 back4 w8 v93 =
    (bif decide (v95 < v94) then (bif inB v95 v93.length then (idx v93 v95).bind fun x17' =>
        (bif inB (wr .i64 ((wr .i64 ((l3.length : Int) - 1)) - v95)) w8.length then (idx w8 (wr .i64 ((wr .i64 ((l3.length : Int) - 1)) - v95))).bind fun x18' =>
          (S52 n (wr .i64 ((wr .i64 (100 * x17'.2)) - x17'.1)) x17'.2).bind fun r19' =>
          (bif (!((x18'.1 == r19'.1) && ((x18'.2 == r19'.2) && true))) then some false
          else L11_2 n m1 v94 (wr .i64 (v95 + 1)) l3 back4 w8 v93)
        else none)
      else none)
    else (S44 n l3).bind fun r20' =>
      (S44 n back4).bind fun r21' =>
      ((bif ((r20'.2 == 0) == true) then some (r21'.2 == 0)
        else some false)).bind fun b22' =>
      ((bif (b22' == true) then some ((r20'.1.length : Int) == (r21'.1.length : Int))
        else some false)).bind fun b23' =>
      ((bif (b23' == true) then (S18 n).bind fun r24' =>
          some r24'
        else some false)).bind fun b25' =>
      some b25') := by kernel_rfl
noncomputable def S11 (a0 : Int × (Int × Int × Int × Int × Int × Int × Int × Int) × Int × Int × Int × Int × Int × Int × Int × Int) : Option R11 := run (E11 n) c11 an11 rt11 (fun _ _ => none) rt11 { tm := [.agg [.int .u8 a0.1,.int .u8 a0.2.1.1,.int .u8 a0.2.1.2.1,.int .u8 a0.2.1.2.2.1,.int .u8 a0.2.1.2.2.2.1,.int .u8 a0.2.1.2.2.2.2.1,.int .u8 a0.2.1.2.2.2.2.2.1,.int .u8 a0.2.1.2.2.2.2.2.2.1,.int .u8 a0.2.1.2.2.2.2.2.2.2,.int .u8 a0.2.2.1,.int .u8 a0.2.2.2.1,.int .u8 a0.2.2.2.2.1,.int .u8 a0.2.2.2.2.2.1,.int .u8 a0.2.2.2.2.2.2.1,.int .u8 a0.2.2.2.2.2.2.2.1,.int .u8 a0.2.2.2.2.2.2.2.2.1,.int .u8 a0.2.2.2.2.2.2.2.2.2],uu,uu,uu,uu,uu,uu,uu,uu,uu,uu,uu,uu,uu,uu,uu,uu,uu,uu,uu,uu,uu,uu,uu,uu,uu,uu,uu,uu,uu,uu,uu,uu,uu,uu,uu,uu,uu,uu,uu,uu,uu,uu,uu,uu,uu,uu,uu,uu,uu,uu,uu,uu,uu,uu,uu,uu,uu,uu,uu,uu,uu,uu,uu,uu,uu,uu,uu,uu,uu,uu,uu,uu,uu,uu,uu,uu,uu,uu,uu,uu,uu,uu,uu,uu,uu,uu,uu,uu,uu,uu,uu,uu,uu,uu,uu,uu,uu,uu,uu,uu,uu,uu,uu,uu,uu,uu,uu,uu,uu,uu,uu,uu,uu,uu,uu,uu,uu,uu,uu,uu,uu,uu,uu,uu,uu,uu,uu,uu,uu,uu,uu,uu,uu,uu,uu,uu,uu,uu,uu,uu,uu,uu,uu,uu],hp := emp }
theorem S11_eq (a0 : Int × (Int × Int × Int × Int × Int × Int × Int × Int) × Int × Int × Int × Int × Int × Int × Int × Int) : S11 n a0 =
    (S47 n a0 8 100).bind fun r1' =>
    (S61 n r1').bind fun r2' =>
    (S63io1 n r2').bind fun r3' =>
    (bif Nat.beq r3'.2.1.length r2'.length then L11_1 n n.1 (r3'.2.1.length : Int) 0 r1' r3'.2.1
    else none) := by kernel_rfl
theorem S11_run (xs : pksDen pk11) : S11 n xs.1 = runG (E11 n) noScope c11 an11 (rtG rk11) (fun _ _ => none) (rtG rk11) (st0 pk11 xs Try.f11.ntmps) := by kernel_rfl
noncomputable def P11 := phiOf pk11 rk11 (fun xs => S11 n xs.1)
theorem call11 : CallOK Try.prog 11 := callOK_of Try.func11 (by kernel_rfl) (by kernel_rfl)
theorem env11 : EnvOK Try.prog (E11 n) := envOK (l := io11 n) (consPhi_ok (FC18 n) call18 (consPhi_ok (FC30 n) call30 (consPhi_ok (FC35 n) call35 (consPhi_ok (FC44 n) call44 (consPhi_ok (FC47 n) call47 (consPhi_ok (FC48 n) call48 (consPhi_ok (FC52 n) call52 (consPhi_ok (FC61 n) call61 noPhi_ok)))))))) rfl rfl (by kernel_rfl) ⟨FC63io1 n,call63,trivial⟩
theorem par11 : EnvPar (E11 n) := envPar (l := io11 n) (consPhi_par phiOf_Par1 (consPhi_par phiOf_Par1 (consPhi_par phiOf_Par1 (consPhi_par phiOf_Par1 (consPhi_par phiOf_Par1 (consPhi_par phiOf_Par1 (consPhi_par phiOf_Par1 (consPhi_par phiOf_Par1 noPhi_par)))))))) rfl ⟨phioOf_Pario1,trivial⟩
theorem FC11 : FCs Try.prog 11 (P11 n) := phiOf_FCs fun xs r h vs hv => FC.of_runG tabOK eqsOK (env11 n) (par11 n) mixed (fun _ => noScope_ok) Try.func11 (c := c11) (an := an11) (pks := pk11) (rks := rk11) (by kernel_rfl) (by kernel_rfl) hv ((S11_run n xs).symm.trans h)
/-D 11 -/
abbrev YLG111 := Int → Int → LP → LP → LP → LP → Option R11
noncomputable def DF11_2 (f1 : YLG111) (v94 : Int) (v95 : Int) (l3 : LP) (back4 : LP) (w8 : LP) (v93 : LP) : Option R11 :=
    (bif decide (v95 < v94) then (bif inB v95 v93.length then (idx v93 v95).bind fun x17' =>
        (bif inB (wr .i64 ((wr .i64 ((l3.length : Int) - 1)) - v95)) w8.length then (idx w8 (wr .i64 ((wr .i64 ((l3.length : Int) - 1)) - v95))).bind fun x18' =>
          (D52 n (wr .i64 ((wr .i64 (100 * x17'.2)) - x17'.1)) x17'.2).bind fun r19' =>
          (bif (!((x18'.1 == r19'.1) && ((x18'.2 == r19'.2) && true))) then some false
          else f1 v94 (wr .i64 (v95 + 1)) l3 back4 w8 v93)
        else none)
      else none)
    else (D44 n l3).bind fun r20' =>
      (D44 n back4).bind fun r21' =>
      ((bif ((r20'.2 == 0) == true) then some (r21'.2 == 0)
        else some false)).bind fun b22' =>
      ((bif (b22' == true) then some ((r20'.1.length : Int) == (r21'.1.length : Int))
        else some false)).bind fun b23' =>
      ((bif (b23' == true) then (D18 n).bind fun r24' =>
          some r24'
        else some false)).bind fun b25' =>
      some b25')
noncomputable def DL11_2 (m : Nat) : YLG111 := Nat.rec (motive := fun _ => YLG111) (fun _ _ _ _ _ _ => none) (fun _ ih => DF11_2 n ih) m
theorem DL11_2_succ (m : Nat) : DL11_2 n (m + 1) = DF11_2 n (DL11_2 n m) := rfl
theorem DL11_2_eq (n : Nat × Nat) (hn : n.2 = 1) : ∀ m,L11_2 n m = DL11_2 n m
  | 0 => by funext v94 v95 l3 back4 w8 v93; kernel_rfl
  | m + 1 => by
    have ih := DL11_2_eq n hn m
    funext v94 v95 l3 back4 w8 v93; refine (L11_2_eq n m v94 v95 l3 back4 w8 v93).trans ?_
    rw [DL11_2_succ]
    unfold DF11_2
    (try simp only [ih,S18_D n hn,S30_D n hn,S35_D n hn,S44_D n hn,S47_D n hn,S48_D n hn,S52_D n hn,S61_D n hn,S63io1_D n hn]) <;> first | with_reducible rfl | rfl
abbrev YLG112 := Int → Int → LP → LP → Option R11
noncomputable def DF11_1 (f1 : YLG112) (v25 : Int) (v26 : Int) (l3 : LP) (back4 : LP) : Option R11 :=
    (bif decide (v26 < v25) then (bif inB v26 back4.length then (idx back4 v26).bind fun x4' =>
        (bif inB v26 back4.length then (idx back4 v26).bind fun x5' =>
          f1 v25 (wr .i64 (v26 + 1)) l3 (back4.set (Int.toNat v26) (wr .i64 (100 - x4'.1),x5'.2))
        else none)
      else none)
    else (D30 n l3).bind fun r6' =>
      (D30 n back4).bind fun r7' =>
      (D35 n l3).bind fun r8' =>
      (D35 n back4).bind fun r9' =>
      ((bif ((r6'.2 != 0) == false) then some (r7'.2 != 0)
        else some true)).bind fun b10' =>
      ((bif (b10' == false) then some (r8'.2 != 0)
        else some true)).bind fun b11' =>
      ((bif (b11' == false) then some (r9'.2 != 0)
        else some true)).bind fun b12' =>
      ((bif (b12' == false) then (D48 n r6'.1 (l3.length : Int)).bind fun r13' =>
          some (!r13')
        else some true)).bind fun b14' =>
      ((bif (b14' == false) then some ((r7'.1.length : Int) != (l3.length : Int))
        else some true)).bind fun b15' =>
      ((bif (b15' == false) then some (!((r8'.1.1 == r9'.1.1) && ((r8'.1.2 == r9'.1.2) && true)))
        else some true)).bind fun b16' =>
      (bif b16' then some false
      else DL11_2 n n.1 (r6'.1.length : Int) 0 l3 back4 r7'.1 r6'.1))
noncomputable def DL11_1 (m : Nat) : YLG112 := Nat.rec (motive := fun _ => YLG112) (fun _ _ _ _ => none) (fun _ ih => DF11_1 n ih) m
theorem DL11_1_succ (m : Nat) : DL11_1 n (m + 1) = DF11_1 n (DL11_1 n m) := rfl
theorem DL11_1_eq (n : Nat × Nat) (hn : n.2 = 1) : ∀ m,L11_1 n m = DL11_1 n m
  | 0 => by funext v25 v26 l3 back4; kernel_rfl
  | m + 1 => by
    have ih := DL11_1_eq n hn m
    funext v25 v26 l3 back4; refine (L11_1_eq n m v25 v26 l3 back4).trans ?_
    rw [DL11_1_succ]
    unfold DF11_1
    (try simp only [ih,DL11_2_eq n hn,S18_D n hn,S30_D n hn,S35_D n hn,S44_D n hn,S47_D n hn,S48_D n hn,S52_D n hn,S61_D n hn,S63io1_D n hn]) <;> first | with_reducible rfl | rfl
noncomputable def D11 (a0 : Int × (Int × Int × Int × Int × Int × Int × Int × Int) × Int × Int × Int × Int × Int × Int × Int × Int) : Option R11 :=
    (D47 n a0 8 100).bind fun r1' =>
    (D61 n r1').bind fun r2' =>
    (D63io1 n r2').bind fun r3' =>
    (bif Nat.beq r3'.2.1.length r2'.length then DL11_1 n n.1 (r3'.2.1.length : Int) 0 r1' r3'.2.1
    else none)
theorem S11_D (hn : n.2 = 1) : S11 n = D11 n := by
  funext a0; refine (S11_eq n a0).trans ?_
  unfold D11
  (try simp only [DL11_2_eq n hn,DL11_1_eq n hn,S18_D n hn,S30_D n hn,S35_D n hn,S44_D n hn,S47_D n hn,S48_D n hn,S52_D n hn,S61_D n hn,S63io1_D n hn]) <;> first | with_reducible rfl | rfl

end Go.Proofs.Ytombednapelokaa
