/- The law: written by program -/
import Derived.Test.YtombednapelokaaViS
import Derived.Test.YtombednapelokaaProg
import Derived.KernelRfl
import Derived.WalkKit
import Derived.Test.YtombednapelokaaDel
import Derived.Test.YtombednapelokaaGro
import Derived.Test.YtombednapelokaaCD2
set_option linter.unusedVariables false
set_option linter.unusedSimpArgs false
set_option maxRecDepth 100000
namespace Go.Proofs.Ytombednapelokaa
open Go.Vi
variable (n : Nat × Nat)
abbrev R17 := Bool
abbrev K17 := St → Option R17
noncomputable def c17 : Code := bodyOf Try.f17
noncomputable def an17 : Ann := (.s .l (.s .l (.s .l (.s .l (.s (.s .l (.j [1,5,6,8,71,72,73,74,77,78,79,80,81,84,85,86,87,88,89,90,91,92,93,94,95,96,97,100,101,102,103,104,105,106,107,108,109,133,134,137,138,139,140,143,144,145,146,147,148,149,150,151,152,153,156,157,158,159,160,161,162,163,164,196,197,224,225,226,227,228,229,230,231,232,233,234,235,236,237,238,241] .l .l)) (.s .l (.s (.s .l (.j [1,5,6,8,10,196,197,224,225,226,227,228,229,230,231,232,233,234,235,236,237,238,241] (.j [1,5,6,8,10,59,60,61,71,72,73,74,77,78,79,80,81,84,85,86,87,88,89,90,91,92,93,94,95,96,97,100,101,102,103,104,105,106,107,108,109,133,134,137,138,139,140,143,144,145,146,147,148,149,150,151,152,153,156,157,158,159,160,161,162,163,164,196,197,224,225,226,227,228,229,230,231,232,233,234,235,236,237,238,241] (.s .l (.s (.j [1,5,6,8,10,59,60,61,71,72,73,74,77,78,79,80,81,84,85,86,87,88,89,90,91,92,93,94,95,96,97,100,101,102,103,104,105,106,107,108,109,133,134,137,138,139,140,143,144,145,146,147,148,149,150,151,152,153,156,157,158,159,160,161,162,163,164,196,197,224,225,226,227,228,229,230,231,232,233,234,235,236,237,238,241] .l .l) (.s (.j [1,5,6,8,10,59,60,61,71,72,73,74,77,78,79,80,81,84,85,86,87,88,89,90,91,92,93,94,95,96,97,100,101,102,103,104,105,106,107,108,109,133,134,137,138,139,140,143,144,145,146,147,148,149,150,151,152,153,156,157,158,159,160,161,162,163,164,196,197,224,225,226,227,228,229,230,231,232,233,234,235,236,237,238,241] (.s .l (.s (.s .l (.j [1,5,6,8,12,59,60,61,71,72,73,74,77,78,79,80,81,84,85,86,87,88,89,90,91,92,93,94,95,96,97,100,101,102,103,104,105,106,107,108,109,133,134,137,138,139,140,143,144,145,146,147,148,149,150,151,152,153,156,157,158,159,160,161,162,163,164,196,197,224,225,226,227,228,229,230,231,232,233,234,235,236,237,238,241] .l .l)) (.s .l (.s .l (.s (.s .l (.j [1,5,6,8,12,59,60,61,71,72,73,74,77,78,79,80,81,84,85,86,87,88,89,90,91,92,93,94,95,96,97,100,101,102,103,104,105,106,107,108,109,133,134,137,138,139,140,143,144,145,146,147,148,149,150,151,152,153,156,157,158,159,160,161,162,163,164,196,197,224,225,226,227,228,229,230,231,232,233,234,235,236,237,238,241] .l .l)) .l))))) .l) .l))) .l) .l)) (.s (.s .l (.j [1,5,6,8,196,197,224,225,226,227,228,229,230,231,232,233,234,235,236,237,238,241] .l .l)) (.s .l (.s .l (.s (.s .l (.j [5,6,17,19,224,225,226,227,228,229,230,231,232,233,234,235,236,237,238,241] .l .l)) .l)))))))))))
def pk17 : List PK := [.c (.pair (.int .u8) (.pair (.pair (.int .u8) (.pair (.int .u8) (.pair (.int .u8) (.pair (.int .u8) (.pair (.int .u8) (.pair (.int .u8) (.pair (.int .u8) (.int .u8)))))))) (.pair (.int .u8) (.pair (.int .u8) (.pair (.int .u8) (.pair (.int .u8) (.pair (.int .u8) (.pair (.int .u8) (.pair (.int .u8) (.int .u8)))))))))),.c (.int .u8)]
def rk17 : List RK := [.c .bool 4]
noncomputable def rt17 (st : St) : Option R17 := rtG rk17 st
noncomputable def E17 : Env := { T := tab,phi := (consPhi 18 (fun _ => true) (P18 n) (consPhi 22 (fun _ => true) (P22 n) (consPhi 30 (fun _ => true) (P30 n) (consPhi 32 (fun _ => true) (P32 n) (consPhi 47 (fun _ => true) (P47 n) (consPhi 48 (fun _ => true) (P48 n) (consPhi 50 (fun _ => true) (P50 n) (consPhi 51 (fun _ => true) (P51 n) (consPhi 60 (fun _ => true) (P60 n) (consPhi 62 (fun _ => true) (P62 n) (consPhi 66 (fun _ => true) (P66 n) (consPhi 67 (fun _ => true) (P67 n) (consPhi 68 (fun _ => true) (P68 n) (consPhi 69 (fun _ => true) (P69 n) noPhi)))))))))))))),eff := fun g => Nat.beq g 30 || Nat.beq g 47,fuel := n.1,hold := n.2 }
noncomputable def kq17_3 : K17 := run (E17 n) (cB (cB (cB (cB (cB (cB (cB c17))))))) an17.snd.snd.snd.snd.snd.snd.snd rt17 (fun _ _ => none) rt17
noncomputable def xb17_5 : Nat → K17 := fun j s => bif Nat.beq j 0 then normC [1,5,6,8,10,196,197,224,225,226,227,228,229,230,231,232,233,234,235,236,237,238,241] s (kq17_3 n) else (fun _ _ => none) j s
noncomputable def F17_6 : (K17) → K17 := fun K s => run (E17 n) (cA (cA (cB (cA (cB (cB (cB (cB (cB (cB c17)))))))))) an17.snd.snd.snd.snd.snd.snd.fst.snd.fst.fst (fun s => normC [1,5,6,8,10,59,60,61,71,72,73,74,77,78,79,80,81,84,85,86,87,88,89,90,91,92,93,94,95,96,97,100,101,102,103,104,105,106,107,108,109,133,134,137,138,139,140,143,144,145,146,147,148,149,150,151,152,153,156,157,158,159,160,161,162,163,164,196,197,224,225,226,227,228,229,230,231,232,233,234,235,236,237,238,241] s K) (xb17_5 n) rt17 s
noncomputable def L17_1 (m : Nat) (one1 : Int) (l5 : LP) (v6 : LP) (v10 : Int) (v60 : Int) (v61 : Int) (b8 : List (Int × Int × Int × Int)) : Option R17 := loopN (F17_6 n) m { tm := [uu,.c (.int .u8 one1),uu,uu,uu,.c (.sl (.pair (.int .i64) (.int .i64)) l5 false),.c (.sl (.pair (.int .i64) (.int .i64)) v6 false),uu,.own 8 none false,uu,.c (.int .i64 v10),uu,uu,uu,uu,uu,uu,uu,uu,uu,uu,uu,uu,uu,uu,uu,uu,uu,uu,uu,uu,uu,uu,uu,uu,uu,uu,uu,uu,uu,uu,uu,uu,uu,uu,uu,uu,uu,uu,uu,uu,uu,uu,uu,uu,uu,uu,uu,uu,.own 8 none false,.c (.int .i64 v60),.c (.int .i64 v61),uu,uu,uu,uu,uu,uu,uu,uu,uu,uu,uu,uu,uu,uu,uu,uu,uu,uu,uu,uu,uu,uu,uu,uu,uu,uu,uu,uu,uu,uu,uu,uu,uu,uu,uu,uu,uu,uu,uu,uu,uu,uu,uu,uu,uu,uu,uu,uu,uu,uu,uu,uu,uu,uu,uu,uu,uu,uu,uu,uu,uu,uu,uu,uu,uu,uu,uu,uu,uu,uu,uu,uu,uu,uu,uu,uu,uu,uu,uu,uu,uu,uu,uu,uu,uu,uu,uu,uu,uu,uu,uu,uu,uu,uu,uu,uu,uu,uu,uu,uu,uu,uu,uu,uu,uu,uu,uu,uu,uu,uu,uu,uu,uu,uu,uu,uu,uu,uu,uu,uu,uu,uu,uu,uu,uu,uu,uu,uu,uu,uu,uu,uu,uu,uu,uu,uu,uu,uu,uu,uu,uu,uu,uu,uu,uu,uu,uu,uu,uu,uu,uu,uu,uu,uu,uu,uu,uu,uu,uu,uu,uu,uu,uu,uu,uu,uu,uu,uu,uu,uu,uu,uu,uu,uu,uu,uu,uu,uu,uu,uu,uu],hp := (upd emp 8 (.arr (.pair (.int .i64) (.pair (.int .i64) (.pair (.int .i64) (.int .i64)))) b8 false)) }
theorem L17_1_eq (m1 : Nat) (one1 : Int) (l5 : LP) (v6 : LP) (v10 : Int) (v60 : Int) (v61 : Int) (b8 : List (Int × Int × Int × Int)) : L17_1 n (m1 + 1) one1 l5 v6 v10 v60 v61 b8 =
    (bif decide (v61 < v60) then (bif inB v61 b8.length then (idx b8 v61).bind fun x9' =>
        ((bif ((x9'.1 != v10) == false) then some (decide (x9'.2.1 ≤ v10))
          else some true)).bind fun b10' =>
        ((bif (b10' == false) then some (decide (x9'.2.1 > (l5.length : Int)))
          else some true)).bind fun b11' =>
        ((bif (b11' == false) then ((bif (decide (v61 > 0) == true) then (bif inB (wr .i64 (v61 - 1)) b8.length then (idx b8 (wr .i64 (v61 - 1))).bind fun x12' =>
                  (S62 n x12'.2.2 x9'.2.2).bind fun r13' =>
                  some (decide (r13' ≥ 0))
                else none)
              else some false)).bind fun b14' =>
            some b14'
          else some true)).bind fun b15' =>
        ((bif (b15' == false) then (bif bounds (some x9'.1) (some x9'.2.1) none l5.length then (S50 n ((l5.take (Int.toNat x9'.2.1)).drop (Int.toNat x9'.1))).bind fun r16' =>
              some (!((x9'.2.2.1 == r16'.1) && ((x9'.2.2.2 == r16'.2) && true)))
            else none)
          else some true)).bind fun b17' =>
        (bif b17' then some false
        else (S22 n l5 x9'.1 x9'.2.1).bind fun r18' =>
          (bif bounds (some x9'.1) (some x9'.2.1) none l5.length then (S30 n ((l5.take (Int.toNat x9'.2.1)).drop (Int.toNat x9'.1))).bind fun r19' =>
            ((bif ((r18'.2 != 0) == false) then some (r19'.2 != 0)
              else some true)).bind fun b20' =>
            ((bif (b20' == false) then some (!((r18'.1.1 == x9'.2.2.1) && ((r18'.1.2 == x9'.2.2.2) && true)))
              else some true)).bind fun b21' =>
            ((bif (b21' == false) then (S67 n [r18'.1] (wr .i64 (x9'.2.1 - x9'.1))).bind fun r22' =>
                (S51 n r19'.1 r22').bind fun r23' =>
                some (!r23')
              else some true)).bind fun b24' =>
            ((bif (b24' == false) then (bif bounds (some x9'.1) (some x9'.2.1) none v6.length then (S51 n r19'.1 ((v6.take (Int.toNat x9'.2.1)).drop (Int.toNat x9'.1))).bind fun r25' =>
                  some (!r25')
                else none)
              else some true)).bind fun b26' =>
            (bif b26' then some false
            else L17_1 n m1 one1 l5 v6 x9'.2.1 v60 (wr .i64 (v61 + 1)) b8)
          else none))
      else none)
    else (bif (v10 != (l5.length : Int)) then some false
      else (bif (b8.length : Int) == 0 then none
        else (bif inB (Int.tmod (wr .i64 one1) (b8.length : Int)) b8.length then (idx b8 (Int.tmod (wr .i64 one1) (b8.length : Int))).bind fun x27' =>
            (bif bounds (some x27'.1) (some x27'.2.1) none l5.length then (S66 n ((l5.take (Int.toNat x27'.2.1)).drop (Int.toNat x27'.1))).bind fun r28' =>
              ((bif ((x27'.2.2.2 != 1) == false) then some (decide (r28'.2 > 9))
                else some true)).bind fun b29' =>
              (bif b29' then (S18 n).bind fun r30' =>
                some r30'
              else (bif bounds none (some x27'.1) none l5.length then (S60 n [x27'.2.2.1,r28'.2]).bind fun r31' =>
                  (bif bounds (some x27'.2.1) none none l5.length then (S68 n [l5.take (Int.toNat x27'.1),r31',l5.drop (Int.toNat x27'.2.1)]).bind fun r32' =>
                    (S30 n r32').bind fun r33' =>
                    ((bif ((r33'.2 == 0) == true) then (bif bounds none (some x27'.1) none v6.length then (bif bounds (some x27'.2.1) none none v6.length then (S69 n ([v6.take (Int.toNat x27'.1),[x27'.2.2],v6.drop (Int.toNat x27'.2.1)])).bind fun r34' =>
                            (S51 n r33'.1 r34').bind fun r35' =>
                            some r35'
                          else none)
                        else none)
                      else some false)).bind fun b36' =>
                    ((bif (b36' == true) then (S18 n).bind fun r37' =>
                        some r37'
                      else some false)).bind fun b38' =>
                    some b38'
                  else none)
                else none))
            else none)
          else none)))) := by kernel_rfl
noncomputable def S17 (a0 : Int × (Int × Int × Int × Int × Int × Int × Int × Int) × Int × Int × Int × Int × Int × Int × Int × Int) (one1 : Int) : Option R17 := run (E17 n) c17 an17 rt17 (fun _ _ => none) rt17 { tm := [.agg [.int .u8 a0.1,.int .u8 a0.2.1.1,.int .u8 a0.2.1.2.1,.int .u8 a0.2.1.2.2.1,.int .u8 a0.2.1.2.2.2.1,.int .u8 a0.2.1.2.2.2.2.1,.int .u8 a0.2.1.2.2.2.2.2.1,.int .u8 a0.2.1.2.2.2.2.2.2.1,.int .u8 a0.2.1.2.2.2.2.2.2.2,.int .u8 a0.2.2.1,.int .u8 a0.2.2.2.1,.int .u8 a0.2.2.2.2.1,.int .u8 a0.2.2.2.2.2.1,.int .u8 a0.2.2.2.2.2.2.1,.int .u8 a0.2.2.2.2.2.2.2.1,.int .u8 a0.2.2.2.2.2.2.2.2.1,.int .u8 a0.2.2.2.2.2.2.2.2.2],.c (.int .u8 one1),uu,uu,uu,uu,uu,uu,uu,uu,uu,uu,uu,uu,uu,uu,uu,uu,uu,uu,uu,uu,uu,uu,uu,uu,uu,uu,uu,uu,uu,uu,uu,uu,uu,uu,uu,uu,uu,uu,uu,uu,uu,uu,uu,uu,uu,uu,uu,uu,uu,uu,uu,uu,uu,uu,uu,uu,uu,uu,uu,uu,uu,uu,uu,uu,uu,uu,uu,uu,uu,uu,uu,uu,uu,uu,uu,uu,uu,uu,uu,uu,uu,uu,uu,uu,uu,uu,uu,uu,uu,uu,uu,uu,uu,uu,uu,uu,uu,uu,uu,uu,uu,uu,uu,uu,uu,uu,uu,uu,uu,uu,uu,uu,uu,uu,uu,uu,uu,uu,uu,uu,uu,uu,uu,uu,uu,uu,uu,uu,uu,uu,uu,uu,uu,uu,uu,uu,uu,uu,uu,uu,uu,uu,uu,uu,uu,uu,uu,uu,uu,uu,uu,uu,uu,uu,uu,uu,uu,uu,uu,uu,uu,uu,uu,uu,uu,uu,uu,uu,uu,uu,uu,uu,uu,uu,uu,uu,uu,uu,uu,uu,uu,uu,uu,uu,uu,uu,uu,uu,uu,uu,uu,uu,uu,uu,uu,uu,uu,uu,uu,uu,uu,uu,uu,uu,uu,uu,uu,uu,uu,uu,uu,uu,uu,uu,uu,uu,uu,uu,uu,uu,uu,uu,uu,uu,uu,uu,uu,uu,uu,uu,uu,uu,uu,uu,uu,uu,uu,uu,uu,uu,uu],hp := emp }
theorem S17_eq (a0 : Int × (Int × Int × Int × Int × Int × Int × Int × Int) × Int × Int × Int × Int × Int × Int × Int × Int) (one1 : Int) : S17 n a0 one1 =
    (S47 n a0 8 30).bind fun r1' =>
    (S30 n r1').bind fun r2' =>
    (S32 n r1').bind fun r3' =>
    ((bif ((r2'.2 != 0) == false) then some (r3'.2 != 0)
      else some true)).bind fun b4' =>
    ((bif (b4' == false) then (S48 n r2'.1 (r1'.length : Int)).bind fun r5' =>
        some (!r5')
      else some true)).bind fun b6' =>
    ((bif (b6' == false) then some ((r3'.1.length : Int) == 0)
      else some true)).bind fun b7' =>
    ((bif (b7' == false) then some (decide ((r3'.1.length : Int) > (r1'.length : Int)))
      else some true)).bind fun b8' =>
    (bif b8' then some false
    else L17_1 n n.1 one1 r1' r2'.1 0 (r3'.1.length : Int) 0 r3'.1) := by kernel_rfl
theorem S17_run (xs : pksDen pk17) : S17 n xs.1 xs.2.1 = runG (E17 n) noScope c17 an17 (rtG rk17) (fun _ _ => none) (rtG rk17) (st0 pk17 xs Try.f17.ntmps) := by kernel_rfl
noncomputable def P17 := phiOf pk17 rk17 (fun xs => S17 n xs.1 xs.2.1)
theorem env17 : EnvOK Try.prog (E17 n) := envOK0 (consPhi_ok (FC18 n) call18 (consPhi_ok (FC22 n) call22 (consPhi_ok (FC30 n) call30 (consPhi_ok (FC32 n) call32 (consPhi_ok (FC47 n) call47 (consPhi_ok (FC48 n) call48 (consPhi_ok (FC50 n) call50 (consPhi_ok (FC51 n) call51 (consPhi_ok (FC60 n) call60 (consPhi_ok (FC62 n) call62 (consPhi_ok (FC66 n) call66 (consPhi_ok (FC67 n) call67 (consPhi_ok (FC68 n) call68 (consPhi_ok (FC69 n) call69 noPhi_ok)))))))))))))) rfl rfl
theorem par17 : EnvPar (E17 n) := envPar0 (consPhi_par phiOf_Par1 (consPhi_par phiOf_Par1 (consPhi_par phiOf_Par1 (consPhi_par phiOf_Par1 (consPhi_par phiOf_Par1 (consPhi_par phiOf_Par1 (consPhi_par phiOf_Par1 (consPhi_par phiOf_Par1 (consPhi_par phiOf_Par1 (consPhi_par phiOf_Par1 (consPhi_par phiOf_Par1 (consPhi_par phiOf_Par1 (consPhi_par phiOf_Par1 (consPhi_par phiOf_Par1 noPhi_par)))))))))))))) rfl
theorem FC17 : FCs Try.prog 17 (P17 n) := phiOf_FCs fun xs r h vs hv => FC.of_runG tabOK eqsOK (env17 n) (par17 n) mixed (fun _ => noScope_ok) Try.func17 (c := c17) (an := an17) (pks := pk17) (rks := rk17) (by kernel_rfl) (by kernel_rfl) hv ((S17_run n xs).symm.trans h)
/-D 17 -/
abbrev YLG171 := Int → LP → LP → Int → Int → Int → (List (Int × Int × Int × Int)) → Option R17
noncomputable def DF17_1 (f1 : YLG171) (one1 : Int) (l5 : LP) (v6 : LP) (v10 : Int) (v60 : Int) (v61 : Int) (b8 : List (Int × Int × Int × Int)) : Option R17 :=
    (bif decide (v61 < v60) then (bif inB v61 b8.length then (idx b8 v61).bind fun x9' =>
        ((bif ((x9'.1 != v10) == false) then some (decide (x9'.2.1 ≤ v10))
          else some true)).bind fun b10' =>
        ((bif (b10' == false) then some (decide (x9'.2.1 > (l5.length : Int)))
          else some true)).bind fun b11' =>
        ((bif (b11' == false) then ((bif (decide (v61 > 0) == true) then (bif inB (wr .i64 (v61 - 1)) b8.length then (idx b8 (wr .i64 (v61 - 1))).bind fun x12' =>
                  (D62 n x12'.2.2 x9'.2.2).bind fun r13' =>
                  some (decide (r13' ≥ 0))
                else none)
              else some false)).bind fun b14' =>
            some b14'
          else some true)).bind fun b15' =>
        ((bif (b15' == false) then (bif bounds (some x9'.1) (some x9'.2.1) none l5.length then (D50 n ((l5.take (Int.toNat x9'.2.1)).drop (Int.toNat x9'.1))).bind fun r16' =>
              some (!((x9'.2.2.1 == r16'.1) && ((x9'.2.2.2 == r16'.2) && true)))
            else none)
          else some true)).bind fun b17' =>
        (bif b17' then some false
        else (D22 n l5 x9'.1 x9'.2.1).bind fun r18' =>
          (bif bounds (some x9'.1) (some x9'.2.1) none l5.length then (D30 n ((l5.take (Int.toNat x9'.2.1)).drop (Int.toNat x9'.1))).bind fun r19' =>
            ((bif ((r18'.2 != 0) == false) then some (r19'.2 != 0)
              else some true)).bind fun b20' =>
            ((bif (b20' == false) then some (!((r18'.1.1 == x9'.2.2.1) && ((r18'.1.2 == x9'.2.2.2) && true)))
              else some true)).bind fun b21' =>
            ((bif (b21' == false) then (D67 n [r18'.1] (wr .i64 (x9'.2.1 - x9'.1))).bind fun r22' =>
                (D51 n r19'.1 r22').bind fun r23' =>
                some (!r23')
              else some true)).bind fun b24' =>
            ((bif (b24' == false) then (bif bounds (some x9'.1) (some x9'.2.1) none v6.length then (D51 n r19'.1 ((v6.take (Int.toNat x9'.2.1)).drop (Int.toNat x9'.1))).bind fun r25' =>
                  some (!r25')
                else none)
              else some true)).bind fun b26' =>
            (bif b26' then some false
            else f1 one1 l5 v6 x9'.2.1 v60 (wr .i64 (v61 + 1)) b8)
          else none))
      else none)
    else (bif (v10 != (l5.length : Int)) then some false
      else (bif (b8.length : Int) == 0 then none
        else (bif inB (Int.tmod (wr .i64 one1) (b8.length : Int)) b8.length then (idx b8 (Int.tmod (wr .i64 one1) (b8.length : Int))).bind fun x27' =>
            (bif bounds (some x27'.1) (some x27'.2.1) none l5.length then (D66 n ((l5.take (Int.toNat x27'.2.1)).drop (Int.toNat x27'.1))).bind fun r28' =>
              ((bif ((x27'.2.2.2 != 1) == false) then some (decide (r28'.2 > 9))
                else some true)).bind fun b29' =>
              (bif b29' then (D18 n).bind fun r30' =>
                some r30'
              else (bif bounds none (some x27'.1) none l5.length then (D60 n [x27'.2.2.1,r28'.2]).bind fun r31' =>
                  (bif bounds (some x27'.2.1) none none l5.length then (D68 n [l5.take (Int.toNat x27'.1),r31',l5.drop (Int.toNat x27'.2.1)]).bind fun r32' =>
                    (D30 n r32').bind fun r33' =>
                    ((bif ((r33'.2 == 0) == true) then (bif bounds none (some x27'.1) none v6.length then (bif bounds (some x27'.2.1) none none v6.length then (D69 n ([v6.take (Int.toNat x27'.1),[x27'.2.2],v6.drop (Int.toNat x27'.2.1)])).bind fun r34' =>
                            (D51 n r33'.1 r34').bind fun r35' =>
                            some r35'
                          else none)
                        else none)
                      else some false)).bind fun b36' =>
                    ((bif (b36' == true) then (D18 n).bind fun r37' =>
                        some r37'
                      else some false)).bind fun b38' =>
                    some b38'
                  else none)
                else none))
            else none)
          else none))))
noncomputable def DL17_1 (m : Nat) : YLG171 := Nat.rec (motive := fun _ => YLG171) (fun _ _ _ _ _ _ _ => none) (fun _ ih => DF17_1 n ih) m
theorem DL17_1_succ (m : Nat) : DL17_1 n (m + 1) = DF17_1 n (DL17_1 n m) := rfl
theorem DL17_1_eq (n : Nat × Nat) (hn : n.2 = 1) : ∀ m,L17_1 n m = DL17_1 n m
  | 0 => by funext one1 l5 v6 v10 v60 v61 b8; kernel_rfl
  | m + 1 => by
    have ih := DL17_1_eq n hn m
    funext one1 l5 v6 v10 v60 v61 b8; refine (L17_1_eq n m one1 l5 v6 v10 v60 v61 b8).trans ?_
    rw [DL17_1_succ]
    unfold DF17_1
    (try simp only [ih,S18_D n hn,S22_D n hn,S30_D n hn,S32_D n hn,S47_D n hn,S48_D n hn,S50_D n hn,S51_D n hn,S60_D n hn,S62_D n hn,S66_D n hn,S67_D n hn,S68_D n hn,S69_D n hn]) <;> first | with_reducible rfl | rfl
noncomputable def D17 (a0 : Int × (Int × Int × Int × Int × Int × Int × Int × Int) × Int × Int × Int × Int × Int × Int × Int × Int) (one1 : Int) : Option R17 :=
    (D47 n a0 8 30).bind fun r1' =>
    (D30 n r1').bind fun r2' =>
    (D32 n r1').bind fun r3' =>
    ((bif ((r2'.2 != 0) == false) then some (r3'.2 != 0)
      else some true)).bind fun b4' =>
    ((bif (b4' == false) then (D48 n r2'.1 (r1'.length : Int)).bind fun r5' =>
        some (!r5')
      else some true)).bind fun b6' =>
    ((bif (b6' == false) then some ((r3'.1.length : Int) == 0)
      else some true)).bind fun b7' =>
    ((bif (b7' == false) then some (decide ((r3'.1.length : Int) > (r1'.length : Int)))
      else some true)).bind fun b8' =>
    (bif b8' then some false
    else DL17_1 n n.1 one1 r1' r2'.1 0 (r3'.1.length : Int) 0 r3'.1)
theorem S17_D (hn : n.2 = 1) : S17 n = D17 n := by
  funext a0 one1; refine (S17_eq n a0 one1).trans ?_
  unfold D17
  (try simp only [DL17_1_eq n hn,S18_D n hn,S22_D n hn,S30_D n hn,S32_D n hn,S47_D n hn,S48_D n hn,S50_D n hn,S51_D n hn,S60_D n hn,S62_D n hn,S66_D n hn,S67_D n hn,S68_D n hn,S69_D n hn]) <;> first | with_reducible rfl | rfl
end Go.Proofs.Ytombednapelokaa
