/- The law: written by program -/
import Derived.Test.YtombednapelokaaViS
import Derived.Test.YtombednapelokaaProg
import Derived.KernelRfl
import Derived.WalkKit
import Derived.Test.YtombednapelokaaDel
import Derived.Test.YtombednapelokaaCD1
set_option linter.unusedVariables false
set_option linter.unusedSimpArgs false
set_option maxRecDepth 100000
namespace Go.Proofs.Ytombednapelokaa
open Go.Vi
variable (n : Nat × Nat)
abbrev R15 := Bool
abbrev K15 := St → Option R15
noncomputable def c15 : Code := bodyOf Try.f15
noncomputable def an15 : Ann := (.s .l (.s .l (.s .l (.s .l (.s (.j [7,8,9,10,11,106,107,108,111] (.s .l (.j [7,8,9,10,11,106,107,108,111] .l (.s .l (.j [7,8,9,10,11,106,107,108,111] .l .l)))) .l) (.s .l (.s (.s .l (.j [10,11,12,106,107,108,111] (.j [8,9,10,11,12,72,73,74,106,107,108,111] (.s .l (.s (.j [8,9,10,11,12,72,73,74,106,107,108,111] .l .l) (.s (.j [8,9,10,11,12,72,73,74,106,107,108,111] (.s .l (.j [] (.j [8,9,10,11,12,14,72,73,74,106,107,108,111] (.s .l (.j [8,9,10,11,12,14,72,73,74,106,107,108,111] .l (.s .l (.j [8,9,10,11,12,14,72,73,74,106,107,108,111] .l .l)))) .l) .l)) .l) .l))) .l) .l)) .l)))))))
def pk15 : List PK := [.c (.pair (.int .u8) (.pair (.pair (.int .u8) (.pair (.int .u8) (.pair (.int .u8) (.pair (.int .u8) (.pair (.int .u8) (.pair (.int .u8) (.pair (.int .u8) (.int .u8)))))))) (.pair (.int .u8) (.pair (.int .u8) (.pair (.int .u8) (.pair (.int .u8) (.pair (.int .u8) (.pair (.int .u8) (.pair (.int .u8) (.int .u8)))))))))),.c (.int .u8),.c (.int .u8)]
def rk15 : List RK := [.c .bool 6]
noncomputable def rt15 (st : St) : Option R15 := rtG rk15 st
noncomputable def E15 : Env := { T := tab,phi := (consPhi 18 (fun _ => true) (P18 n) (consPhi 42 (fun _ => true) (P42 n) (consPhi 47 (fun _ => true) (P47 n) (consPhi 51 (fun _ => true) (P51 n) (consPhi 52 (fun _ => true) (P52 n) (consPhi 65 (fun _ => true) (P65 n) noPhi)))))),eff := fun _ => false,fuel := n.1,hold := n.2 }
noncomputable def kq15_1 : K15 := run (E15 n) (cB (cB (cB (cB (cB c15))))) an15.snd.snd.snd.snd.snd rt15 (fun _ _ => none) rt15
noncomputable def kc15_2 : K15 := fun s => normC [7,8,9,10,11,106,107,108,111] s (kq15_1 n)
noncomputable def xb15_3 : Nat → K15 := fun j s => bif Nat.beq j 0 then normC [7,8,9,10,11,106,107,108,111] s (kq15_1 n) else (fun _ _ => none) j s
noncomputable def kc15_4 : K15 := fun s => normC [7,8,9,10,11,106,107,108,111] s (kc15_2 n)
noncomputable def kc15_5 : K15 := fun s => normC [7,8,9,10,11,106,107,108,111] s (kc15_4 n)
noncomputable def kq15_6 : K15 := run (E15 n) (cB (cB (cB (cB (cB (cB (cB c15))))))) an15.snd.snd.snd.snd.snd.snd.snd rt15 (fun _ _ => none) rt15
noncomputable def kc15_7 : K15 := fun s => normC [10,11,12,106,107,108,111] s (kq15_6 n)
noncomputable def xb15_8 : Nat → K15 := fun j s => bif Nat.beq j 1 then normC [10,11,12,106,107,108,111] s (kq15_6 n) else (fun _ _ => none) j s
noncomputable def F15_9 : (K15) → K15 := fun K s => run (E15 n) (cA (cA (cB (cA (cB (cB (cB (cB (cB (cB c15)))))))))) an15.snd.snd.snd.snd.snd.snd.fst.snd.fst.fst (fun s => normC [8,9,10,11,12,72,73,74,106,107,108,111] s K) (xb15_8 n) rt15 s
noncomputable def kq15_10 (m1 : Nat) : K15 := run (E15 n) (cB (cB (cA (cA (cB (cA (cB (cB (cB (cB (cB (cB c15)))))))))))) an15.snd.snd.snd.snd.snd.snd.fst.snd.fst.fst.snd.snd (fun s => normC [8,9,10,11,12,72,73,74,106,107,108,111] s (loopN (F15_9 n) m1)) (xb15_8 n) rt15
noncomputable def kc15_11 (m1 : Nat) : K15 := fun s => normC [8,9,10,11,12,72,73,74,106,107,108,111] s (kq15_10 n m1)
noncomputable def kq15_12 (m1 : Nat) : K15 := run (E15 n) (cB (cB (cB (cA (cA (cB (cA (cB (cB (cB (cB (cB (cB c15))))))))))))) an15.snd.snd.snd.snd.snd.snd.fst.snd.fst.fst.snd.snd.snd (fun s => normC [8,9,10,11,12,72,73,74,106,107,108,111] s (loopN (F15_9 n) m1)) (xb15_8 n) rt15
noncomputable def kc15_13 (m1 : Nat) : K15 := fun s => normC [8,9,10,11,12,72,73,74,106,107,108,111] s (kq15_12 n m1)
noncomputable def xb15_14 (m1 : Nat) : Nat → K15 := fun j s => bif Nat.beq j 2 then normC [8,9,10,11,12,72,73,74,106,107,108,111] s (kq15_12 n m1) else (xb15_8 n) j s
noncomputable def kq15_15 (m1 : Nat) : K15 := run (E15 n) (cB (cB (cA (cA (cB (cB (cA (cA (cB (cA (cB (cB (cB (cB (cB (cB c15)))))))))))))))) an15.snd.snd.snd.snd.snd.snd.fst.snd.fst.fst.snd.snd.fst.fst.snd.snd (kc15_13 n m1) (xb15_14 n m1) rt15
noncomputable def kc15_16 (m1 : Nat) : K15 := fun s => normC [8,9,10,11,12,14,72,73,74,106,107,108,111] s (loopN (fun _ => (kq15_15 n m1)) n.2)
noncomputable def xb15_17 (m1 : Nat) : Nat → K15 := fun j s => bif Nat.beq j 3 then normC [8,9,10,11,12,14,72,73,74,106,107,108,111] s (loopN (fun _ => (kq15_15 n m1)) n.2) else (xb15_14 n m1) j s
noncomputable def kc15_18 (m1 : Nat) : K15 := fun s => normC [8,9,10,11,12,14,72,73,74,106,107,108,111] s (kc15_16 n m1)
noncomputable def kc15_19 (m1 : Nat) : K15 := fun s => normC [8,9,10,11,12,14,72,73,74,106,107,108,111] s (kc15_18 n m1)
noncomputable def L15_1 (m : Nat) (x8 : Int) (y9 : Int) (e11 : Int) (v73 : Int) (v74 : Int) (v10 : LP) (want12 : LP) (v72 : LP) : Option R15 := loopN (F15_9 n) m { tm := [uu,uu,uu,uu,uu,uu,uu,uu,.c (.int .i64 x8),.c (.int .i64 y9),.own 10 none false,.c (.int .i64 e11),.own 12 none false,uu,uu,uu,uu,uu,uu,uu,uu,uu,uu,uu,uu,uu,uu,uu,uu,uu,uu,uu,uu,uu,uu,uu,uu,uu,uu,uu,uu,uu,uu,uu,uu,uu,uu,uu,uu,uu,uu,uu,uu,uu,uu,uu,uu,uu,uu,uu,uu,uu,uu,uu,uu,uu,uu,uu,uu,uu,uu,uu,.own 72 none false,.c (.int .i64 v73),.c (.int .i64 v74),uu,uu,uu,uu,uu,uu,uu,uu,uu,uu,uu,uu,uu,uu,uu,uu,uu,uu,uu,uu,uu,uu,uu,uu,uu,uu,uu,uu,uu,uu,uu,uu,uu,uu,uu,uu,uu,uu],hp := (upd (upd (upd emp 72 (.arr (.pair (.int .i64) (.int .i64)) v72 false)) 12 (.arr (.pair (.int .i64) (.int .i64)) want12 true)) 10 (.arr (.pair (.int .i64) (.int .i64)) v10 false)) }
noncomputable def L15_2 (m1 : Nat) (x8 : Int) (y9 : Int) (e11 : Int) (v73 : Int) (v74 : Int) (v10 : LP) (want12 : LP) (f14_0 : Int) (f14_1 : Int) (v72 : LP) : Option R15 := loopN (fun _ => (kq15_15 n m1)) n.2 { tm := [uu,uu,uu,uu,uu,uu,uu,uu,.c (.int .i64 x8),.c (.int .i64 y9),.own 10 none false,.c (.int .i64 e11),.own 12 none false,uu,.ptr 14 0,uu,uu,uu,uu,uu,uu,uu,uu,uu,uu,uu,uu,uu,uu,uu,uu,uu,uu,uu,uu,uu,uu,uu,uu,uu,uu,uu,uu,uu,uu,uu,uu,uu,uu,uu,uu,uu,uu,uu,uu,uu,uu,uu,uu,uu,uu,uu,uu,uu,uu,uu,uu,uu,uu,uu,uu,uu,.own 72 none false,.c (.int .i64 v73),.c (.int .i64 v74),uu,uu,uu,uu,uu,uu,uu,uu,uu,uu,uu,uu,uu,uu,uu,uu,uu,uu,uu,uu,uu,uu,uu,uu,uu,uu,uu,uu,uu,uu,uu,uu,uu,uu,uu,uu,uu,uu],hp := (upd (upd (upd (upd emp 72 (.arr (.pair (.int .i64) (.int .i64)) v72 false)) 14 (.box [.int .i64 f14_0,.int .i64 f14_1])) 12 (.arr (.pair (.int .i64) (.int .i64)) want12 true)) 10 (.arr (.pair (.int .i64) (.int .i64)) v10 false)) }
theorem L15_1_eq (m1 : Nat) (x8 : Int) (y9 : Int) (e11 : Int) (v73 : Int) (v74 : Int) (v10 : LP) (want12 : LP) (v72 : LP) : L15_1 n (m1 + 1) x8 y9 e11 v73 v74 v10 want12 v72 =
    (bif decide (v74 < v73) then (bif inB v74 v72.length then (idx v72 v74).bind fun x13' =>
        (bif decide (x13'.1 < wr .i64 (x8 * x13'.2)) then (S52 n x8 1).bind fun r14' =>
          L15_2 n m1 x8 y9 e11 v73 v74 v10 want12 r14'.1 r14'.2 v72
        else (bif decide (x13'.1 > wr .i64 (y9 * x13'.2)) then (S52 n y9 1).bind fun r15' =>
            L15_2 n m1 x8 y9 e11 v73 v74 v10 want12 r15'.1 r15'.2 v72
          else L15_2 n m1 x8 y9 e11 v73 v74 v10 want12 x13'.1 x13'.2 v72))
      else none)
    else ((bif ((e11 == 0) == true) then (S51 n v10 want12).bind fun r16' =>
          some r16'
        else some false)).bind fun b17' =>
      ((bif (b17' == true) then (S18 n).bind fun r18' =>
          some r18'
        else some false)).bind fun b19' =>
      some b19') := by kernel_rfl
theorem L15_2_raw (m1 : Nat) (x8 : Int) (y9 : Int) (e11 : Int) (v73 : Int) (v74 : Int) (v10 : LP) (want12 : LP) (f14_0 : Int) (f14_1 : Int) (v72 : LP) : (kq15_15 n m1) { tm := [uu,uu,uu,uu,uu,uu,uu,uu,.c (.int .i64 x8),.c (.int .i64 y9),.own 10 none false,.c (.int .i64 e11),.own 12 none false,uu,.ptr 14 0,uu,uu,uu,uu,uu,uu,uu,uu,uu,uu,uu,uu,uu,uu,uu,uu,uu,uu,uu,uu,uu,uu,uu,uu,uu,uu,uu,uu,uu,uu,uu,uu,uu,uu,uu,uu,uu,uu,uu,uu,uu,uu,uu,uu,uu,uu,uu,uu,uu,uu,uu,uu,uu,uu,uu,uu,uu,.own 72 none false,.c (.int .i64 v73),.c (.int .i64 v74),uu,uu,uu,uu,uu,uu,uu,uu,uu,uu,uu,uu,uu,uu,uu,uu,uu,uu,uu,uu,uu,uu,uu,uu,uu,uu,uu,uu,uu,uu,uu,uu,uu,uu,uu,uu,uu,uu],hp := (upd (upd (upd (upd emp 72 (.arr (.pair (.int .i64) (.int .i64)) v72 false)) 14 (.box [.int .i64 f14_0,.int .i64 f14_1])) 12 (.arr (.pair (.int .i64) (.int .i64)) want12 true)) 10 (.arr (.pair (.int .i64) (.int .i64)) v10 false)) } =
    (bif decide (want12.length + [(f14_0,f14_1)].length ≤ lim) then L15_1 n m1 x8 y9 e11 v73 (wr .i64 (v74 + 1)) v10 (want12 ++ [(f14_0,f14_1)]) v72
    else none) := by kernel_rfl
noncomputable def S15 (a0 : Int × (Int × Int × Int × Int × Int × Int × Int × Int) × Int × Int × Int × Int × Int × Int × Int × Int) (low1 : Int) (high2 : Int) : Option R15 := run (E15 n) c15 an15 rt15 (fun _ _ => none) rt15 { tm := [.agg [.int .u8 a0.1,.int .u8 a0.2.1.1,.int .u8 a0.2.1.2.1,.int .u8 a0.2.1.2.2.1,.int .u8 a0.2.1.2.2.2.1,.int .u8 a0.2.1.2.2.2.2.1,.int .u8 a0.2.1.2.2.2.2.2.1,.int .u8 a0.2.1.2.2.2.2.2.2.1,.int .u8 a0.2.1.2.2.2.2.2.2.2,.int .u8 a0.2.2.1,.int .u8 a0.2.2.2.1,.int .u8 a0.2.2.2.2.1,.int .u8 a0.2.2.2.2.2.1,.int .u8 a0.2.2.2.2.2.2.1,.int .u8 a0.2.2.2.2.2.2.2.1,.int .u8 a0.2.2.2.2.2.2.2.2.1,.int .u8 a0.2.2.2.2.2.2.2.2.2],.c (.int .u8 low1),.c (.int .u8 high2),uu,uu,uu,uu,uu,uu,uu,uu,uu,uu,uu,uu,uu,uu,uu,uu,uu,uu,uu,uu,uu,uu,uu,uu,uu,uu,uu,uu,uu,uu,uu,uu,uu,uu,uu,uu,uu,uu,uu,uu,uu,uu,uu,uu,uu,uu,uu,uu,uu,uu,uu,uu,uu,uu,uu,uu,uu,uu,uu,uu,uu,uu,uu,uu,uu,uu,uu,uu,uu,uu,uu,uu,uu,uu,uu,uu,uu,uu,uu,uu,uu,uu,uu,uu,uu,uu,uu,uu,uu,uu,uu,uu,uu,uu,uu,uu,uu,uu,uu,uu,uu,uu,uu,uu,uu,uu,uu,uu,uu,uu],hp := emp }
theorem S15_eq (a0 : Int × (Int × Int × Int × Int × Int × Int × Int × Int) × Int × Int × Int × Int × Int × Int × Int × Int) (low1 : Int) (high2 : Int) : S15 n a0 low1 high2 =
    (S47 n a0 8 100).bind fun r1' =>
    (bif 103 == 0 then none
    else (bif 103 == 0 then none
      else (S42 n r1' (wr .i64 ((Int.tmod (wr .i64 low1) 103) - 1)) (wr .i64 ((Int.tmod (wr .i64 high2) 103) - 1))).bind fun r2' =>
        ((bif (decide (wr .i64 ((Int.tmod (wr .i64 low1) 103) - 1) < 0) == false) then some (decide (wr .i64 ((Int.tmod (wr .i64 high2) 103) - 1) < 0))
          else some true)).bind fun b3' =>
        ((bif (b3' == false) then some (decide (wr .i64 ((Int.tmod (wr .i64 low1) 103) - 1) > 100))
          else some true)).bind fun b4' =>
        ((bif (b4' == false) then some (decide (wr .i64 ((Int.tmod (wr .i64 high2) 103) - 1) > 100))
          else some true)).bind fun b5' =>
        (bif b5' then ((bif ((r2'.2 == 1) == true) then some ((r2'.1.length : Int) == 0)
            else some false)).bind fun b6' =>
          ((bif (b6' == true) then (S18 n).bind fun r7' =>
              some r7'
            else some false)).bind fun b8' =>
          some b8'
        else (bif decide (wr .i64 ((Int.tmod (wr .i64 low1) 103) - 1) > wr .i64 ((Int.tmod (wr .i64 high2) 103) - 1)) then ((bif ((r2'.2 == 7) == true) then some ((r2'.1.length : Int) == 0)
              else some false)).bind fun b9' =>
            ((bif (b9' == true) then (S18 n).bind fun r10' =>
                some r10'
              else some false)).bind fun b11' =>
            some b11'
          else (S65 n r1').bind fun r12' =>
            L15_1 n n.1 (wr .i64 ((Int.tmod (wr .i64 low1) 103) - 1)) (wr .i64 ((Int.tmod (wr .i64 high2) 103) - 1)) r2'.2 (r12'.length : Int) 0 r2'.1 [] r12')))) := by kernel_rfl
theorem S15_run (xs : pksDen pk15) : S15 n xs.1 xs.2.1 xs.2.2.1 = runG (E15 n) noScope c15 an15 (rtG rk15) (fun _ _ => none) (rtG rk15) (st0 pk15 xs Try.f15.ntmps) := by kernel_rfl
noncomputable def P15 := phiOf pk15 rk15 (fun xs => S15 n xs.1 xs.2.1 xs.2.2.1)
theorem call15 : CallOK Try.prog 15 := callOK_of Try.func15 (by kernel_rfl) (by kernel_rfl)
theorem env15 : EnvOK Try.prog (E15 n) := envOK0 (consPhi_ok (FC18 n) call18 (consPhi_ok (FC42 n) call42 (consPhi_ok (FC47 n) call47 (consPhi_ok (FC51 n) call51 (consPhi_ok (FC52 n) call52 (consPhi_ok (FC65 n) call65 noPhi_ok)))))) rfl rfl
theorem par15 : EnvPar (E15 n) := envPar0 (consPhi_par phiOf_Par1 (consPhi_par phiOf_Par1 (consPhi_par phiOf_Par1 (consPhi_par phiOf_Par1 (consPhi_par phiOf_Par1 (consPhi_par phiOf_Par1 noPhi_par)))))) rfl
theorem FC15 : FCs Try.prog 15 (P15 n) := phiOf_FCs fun xs r h vs hv => FC.of_runG tabOK eqsOK (env15 n) (par15 n) mixed (fun _ => noScope_ok) Try.func15 (c := c15) (an := an15) (pks := pk15) (rks := rk15) (by kernel_rfl) (by kernel_rfl) hv ((S15_run n xs).symm.trans h)
/-D 15 -/
abbrev YLG151 := Int → Int → Int → Int → Int → LP → LP → LP → Option R15
noncomputable def DL15_2 (n : Nat × Nat) (f1 : YLG151) (x8 : Int) (y9 : Int) (e11 : Int) (v73 : Int) (v74 : Int) (v10 : LP) (want12 : LP) (f14_0 : Int) (f14_1 : Int) (v72 : LP) : Option R15 :=
    (bif decide (want12.length + [(f14_0,f14_1)].length ≤ lim) then f1 x8 y9 e11 v73 (wr .i64 (v74 + 1)) v10 (want12 ++ [(f14_0,f14_1)]) v72
    else none)
theorem DL15_2_eq (hn : n.2 = 1) (m1 : Nat) : L15_2 n m1 = DL15_2 n (L15_1 n m1) := by
  funext x8 y9 e11 v73 v74 v10 want12 f14_0 f14_1 v72; refine ((held_eq hn _).trans (L15_2_raw n m1 x8 y9 e11 v73 v74 v10 want12 f14_0 f14_1 v72)).trans ?_
  unfold DL15_2
  (try simp only [S18_D n hn,S42_D n hn,S47_D n hn,S51_D n hn,S52_D n hn,S65_D n hn]) <;> first | with_reducible rfl | rfl
noncomputable def DF15_1 (f1 : YLG151) (x8 : Int) (y9 : Int) (e11 : Int) (v73 : Int) (v74 : Int) (v10 : LP) (want12 : LP) (v72 : LP) : Option R15 :=
    (bif decide (v74 < v73) then (bif inB v74 v72.length then (idx v72 v74).bind fun x13' =>
        (bif decide (x13'.1 < wr .i64 (x8 * x13'.2)) then (D52 n x8 1).bind fun r14' =>
          DL15_2 n f1 x8 y9 e11 v73 v74 v10 want12 r14'.1 r14'.2 v72
        else (bif decide (x13'.1 > wr .i64 (y9 * x13'.2)) then (D52 n y9 1).bind fun r15' =>
            DL15_2 n f1 x8 y9 e11 v73 v74 v10 want12 r15'.1 r15'.2 v72
          else DL15_2 n f1 x8 y9 e11 v73 v74 v10 want12 x13'.1 x13'.2 v72))
      else none)
    else ((bif ((e11 == 0) == true) then (D51 n v10 want12).bind fun r16' =>
          some r16'
        else some false)).bind fun b17' =>
      ((bif (b17' == true) then (D18 n).bind fun r18' =>
          some r18'
        else some false)).bind fun b19' =>
      some b19')
noncomputable def DL15_1 (m : Nat) : YLG151 := Nat.rec (motive := fun _ => YLG151) (fun _ _ _ _ _ _ _ _ => none) (fun _ ih => DF15_1 n ih) m
theorem DL15_1_succ (m : Nat) : DL15_1 n (m + 1) = DF15_1 n (DL15_1 n m) := rfl
theorem DL15_1_eq (n : Nat × Nat) (hn : n.2 = 1) : ∀ m,L15_1 n m = DL15_1 n m
  | 0 => by funext x8 y9 e11 v73 v74 v10 want12 v72; kernel_rfl
  | m + 1 => by
    have ih := DL15_1_eq n hn m
    funext x8 y9 e11 v73 v74 v10 want12 v72; refine (L15_1_eq n m x8 y9 e11 v73 v74 v10 want12 v72).trans ?_
    rw [DL15_1_succ]
    unfold DF15_1
    (try simp only [ih,DL15_2_eq n hn,S18_D n hn,S42_D n hn,S47_D n hn,S51_D n hn,S52_D n hn,S65_D n hn]) <;> first | with_reducible rfl | rfl
noncomputable def D15 (a0 : Int × (Int × Int × Int × Int × Int × Int × Int × Int) × Int × Int × Int × Int × Int × Int × Int × Int) (low1 : Int) (high2 : Int) : Option R15 :=
    (D47 n a0 8 100).bind fun r1' =>
    (bif 103 == 0 then none
    else (bif 103 == 0 then none
      else (D42 n r1' (wr .i64 ((Int.tmod (wr .i64 low1) 103) - 1)) (wr .i64 ((Int.tmod (wr .i64 high2) 103) - 1))).bind fun r2' =>
        ((bif (decide (wr .i64 ((Int.tmod (wr .i64 low1) 103) - 1) < 0) == false) then some (decide (wr .i64 ((Int.tmod (wr .i64 high2) 103) - 1) < 0))
          else some true)).bind fun b3' =>
        ((bif (b3' == false) then some (decide (wr .i64 ((Int.tmod (wr .i64 low1) 103) - 1) > 100))
          else some true)).bind fun b4' =>
        ((bif (b4' == false) then some (decide (wr .i64 ((Int.tmod (wr .i64 high2) 103) - 1) > 100))
          else some true)).bind fun b5' =>
        (bif b5' then ((bif ((r2'.2 == 1) == true) then some ((r2'.1.length : Int) == 0)
            else some false)).bind fun b6' =>
          ((bif (b6' == true) then (D18 n).bind fun r7' =>
              some r7'
            else some false)).bind fun b8' =>
          some b8'
        else (bif decide (wr .i64 ((Int.tmod (wr .i64 low1) 103) - 1) > wr .i64 ((Int.tmod (wr .i64 high2) 103) - 1)) then ((bif ((r2'.2 == 7) == true) then some ((r2'.1.length : Int) == 0)
              else some false)).bind fun b9' =>
            ((bif (b9' == true) then (D18 n).bind fun r10' =>
                some r10'
              else some false)).bind fun b11' =>
            some b11'
          else (D65 n r1').bind fun r12' =>
            DL15_1 n n.1 (wr .i64 ((Int.tmod (wr .i64 low1) 103) - 1)) (wr .i64 ((Int.tmod (wr .i64 high2) 103) - 1)) r2'.2 (r12'.length : Int) 0 r2'.1 [] r12'))))
theorem S15_D (hn : n.2 = 1) : S15 n = D15 n := by
  funext a0 low1 high2; refine (S15_eq n a0 low1 high2).trans ?_
  unfold D15
  (try simp only [DL15_2_eq n hn,DL15_1_eq n hn,S18_D n hn,S42_D n hn,S47_D n hn,S51_D n hn,S52_D n hn,S65_D n hn]) <;> first | with_reducible rfl | rfl

end Go.Proofs.Ytombednapelokaa
