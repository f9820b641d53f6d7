/- The law: written by program -/
import Derived.Test.YtombednapelokaaViS
import Derived.Test.YtombednapelokaaProg
import Derived.KernelRfl
import Derived.WalkKit
import Derived.Test.YtombednapelokaaDel
import Derived.Test.YtombednapelokaaCD1
set_option linter.unusedVariables false
set_option linter.unusedSimpArgs false
set_option maxRecDepth 100000
namespace Go.Proofs.Ytombednapelokaa
open Go.Vi
variable (n : Nat × Nat)
abbrev R13 := Bool
abbrev K13 := St → Option R13
noncomputable def c13 : Code := bodyOf Try.f13
noncomputable def an13 : Ann := (.s .l (.s .l (.s .l (.s .l (.s (.s .l (.j [3,4,51,52,53,54,55,77,78,81,82,83,84,85,86,89,90,91,92,93,94,129,130,131,132,133,134,135,136,137,138,139,140,141,142,143,151,152,153,154,155,156,157,158,159,160] .l .l)) (.s .l (.s .l (.s (.s .l (.j [3,4,7,8,77,78,81,82,83,84,85,86,89,90,91,92,93,94,129,130,131,132,133,134,135,136,137,138,139,140,141,142,143,151,152,153,154,155,156,157,158,159,160] .l .l)) (.s (.s .l (.j [] (.j [3,4,7,8,58,59,77,78,81,82,83,84,85,86,89,90,91,92,93,94,129,130,131,132,133,134,135,136,137,138,139,140,141,142,143,151,152,153,154,155,156,157,158,159,160] (.s .l (.s (.j [3,4,7,8,58,59,77,78,81,82,83,84,85,86,89,90,91,92,93,94,129,130,131,132,133,134,135,136,137,138,139,140,141,142,143,151,152,153,154,155,156,157,158,159,160] .l .l) (.j [] (.j [3,4,7,8,58,59,77,78,81,82,83,84,85,86,89,90,91,92,93,94,129,130,131,132,133,134,135,136,137,138,139,140,141,142,143,151,152,153,154,155,156,157,158,159,160] (.s .l (.s .l (.s .l (.s (.s .l (.j [3,4,7,8,9,58,59,77,78,81,82,83,84,85,86,89,90,91,92,93,94,129,130,131,132,133,134,135,136,137,138,139,140,141,142,143,151,152,153,154,155,156,157,158,159,160] .l .l)) (.s .l (.s .l (.s (.s .l (.j [3,4,7,8,9,58,59,77,78,81,82,83,84,85,86,89,90,91,92,93,94,129,130,131,132,133,134,135,136,137,138,139,140,141,142,143,151,152,153,154,155,156,157,158,159,160] .l .l)) (.s .l (.j [3,4,7,8,58,59,77,78,81,82,83,84,85,86,89,90,91,92,93,94,129,130,131,132,133,134,135,136,137,138,139,140,141,142,143,151,152,153,154,155,156,157,158,159,160] (.s .l (.j [3,4,7,8,58,59,77,78,81,82,83,84,85,86,89,90,91,92,93,94,129,130,131,132,133,134,135,136,137,138,139,140,141,142,143,151,152,153,154,155,156,157,158,159,160] .l .l)) .l))))))))) .l) .l))) .l) .l)) .l)))))))))
def pk13 : List PK := [.c (.pair (.int .u8) (.pair (.pair (.int .u8) (.pair (.int .u8) (.pair (.int .u8) (.pair (.int .u8) (.pair (.int .u8) (.pair (.int .u8) (.pair (.int .u8) (.int .u8)))))))) (.pair (.int .u8) (.pair (.int .u8) (.pair (.int .u8) (.pair (.int .u8) (.pair (.int .u8) (.pair (.int .u8) (.pair (.int .u8) (.int .u8))))))))))]
def rk13 : List RK := [.c .bool 2]
noncomputable def rt13 (st : St) : Option R13 := rtG rk13 st
noncomputable def E13 : Env := { T := tab,phi := (consPhi 18 (fun _ => true) (P18 n) (consPhi 24 (fun _ => true) (P24 n) (consPhi 26 (fun _ => true) (P26 n) (consPhi 28 (fun _ => true) (P28 n) (consPhi 30 (fun _ => true) (P30 n) (consPhi 37 (fun _ => true) (P37 n) (consPhi 39 (fun _ => true) (P39 n) (consPhi 47 (fun _ => true) (P47 n) (consPhi 51 (fun _ => true) (P51 n) (consPhi 53 (fun _ => true) (P53 n) (consPhi 65 (fun _ => true) (P65 n) noPhi))))))))))),eff := fun _ => false,fuel := n.1,hold := n.2 }
noncomputable def kq13_1 : K13 := run (E13 n) (cB (cB (cB (cB (cB c13))))) an13.snd.snd.snd.snd.snd rt13 (fun _ _ => none) rt13
noncomputable def kc13_2 : K13 := fun s => normC [3,4,51,52,53,54,55,77,78,81,82,83,84,85,86,89,90,91,92,93,94,129,130,131,132,133,134,135,136,137,138,139,140,141,142,143,151,152,153,154,155,156,157,158,159,160] s (kq13_1 n)
noncomputable def kq13_3 : K13 := run (E13 n) (cB (cB (cB (cB (cB (cB (cB (cB c13)))))))) an13.snd.snd.snd.snd.snd.snd.snd.snd rt13 (fun _ _ => none) rt13
noncomputable def kc13_4 : K13 := fun s => normC [3,4,7,8,77,78,81,82,83,84,85,86,89,90,91,92,93,94,129,130,131,132,133,134,135,136,137,138,139,140,141,142,143,151,152,153,154,155,156,157,158,159,160] s (kq13_3 n)
noncomputable def kq13_5 : K13 := run (E13 n) (cB (cB (cB (cB (cB (cB (cB (cB (cB c13))))))))) an13.snd.snd.snd.snd.snd.snd.snd.snd.snd rt13 (fun _ _ => none) rt13
noncomputable def kc13_6 : K13 := fun s => normC [] s (kq13_5 n)
noncomputable def xb13_7 : Nat → K13 := fun j s => bif Nat.beq j 0 then normC [] s (kq13_5 n) else (fun _ _ => none) j s
noncomputable def F13_8 : (K13) → K13 := fun K s => run (E13 n) (cA (cA (cB (cA (cB (cB (cB (cB (cB (cB (cB (cB c13)))))))))))) an13.snd.snd.snd.snd.snd.snd.snd.snd.fst.snd.fst.fst (fun s => normC [3,4,7,8,58,59,77,78,81,82,83,84,85,86,89,90,91,92,93,94,129,130,131,132,133,134,135,136,137,138,139,140,141,142,143,151,152,153,154,155,156,157,158,159,160] s K) (xb13_7 n) rt13 s
noncomputable def kq13_9 (m1 : Nat) : K13 := run (E13 n) (cB (cB (cA (cA (cB (cA (cB (cB (cB (cB (cB (cB (cB (cB c13)))))))))))))) an13.snd.snd.snd.snd.snd.snd.snd.snd.fst.snd.fst.fst.snd.snd (fun s => normC [3,4,7,8,58,59,77,78,81,82,83,84,85,86,89,90,91,92,93,94,129,130,131,132,133,134,135,136,137,138,139,140,141,142,143,151,152,153,154,155,156,157,158,159,160] s (loopN (F13_8 n) m1)) (xb13_7 n) rt13
noncomputable def kc13_10 (m1 : Nat) : K13 := fun s => normC [3,4,7,8,58,59,77,78,81,82,83,84,85,86,89,90,91,92,93,94,129,130,131,132,133,134,135,136,137,138,139,140,141,142,143,151,152,153,154,155,156,157,158,159,160] s (kq13_9 n m1)
noncomputable def kq13_11 (m1 : Nat) : K13 := run (E13 n) (cB (cB (cB (cA (cA (cB (cA (cB (cB (cB (cB (cB (cB (cB (cB c13))))))))))))))) an13.snd.snd.snd.snd.snd.snd.snd.snd.fst.snd.fst.fst.snd.snd.snd (fun s => normC [3,4,7,8,58,59,77,78,81,82,83,84,85,86,89,90,91,92,93,94,129,130,131,132,133,134,135,136,137,138,139,140,141,142,143,151,152,153,154,155,156,157,158,159,160] s (loopN (F13_8 n) m1)) (xb13_7 n) rt13
noncomputable def kc13_12 (m1 : Nat) : K13 := fun s => normC [3,4,7,8,58,59,77,78,81,82,83,84,85,86,89,90,91,92,93,94,129,130,131,132,133,134,135,136,137,138,139,140,141,142,143,151,152,153,154,155,156,157,158,159,160] s (loopN (fun _ => (kq13_11 n m1)) n.2)
noncomputable def xb13_13 (m1 : Nat) : Nat → K13 := fun j s => bif Nat.beq j 1 then normC [3,4,7,8,58,59,77,78,81,82,83,84,85,86,89,90,91,92,93,94,129,130,131,132,133,134,135,136,137,138,139,140,141,142,143,151,152,153,154,155,156,157,158,159,160] s (loopN (fun _ => (kq13_11 n m1)) n.2) else (xb13_7 n) j s
noncomputable def kq13_14 (m1 : Nat) : K13 := run (E13 n) (cB (cB (cB (cB (cA (cA (cB (cB (cA (cA (cB (cA (cB (cB (cB (cB (cB (cB (cB (cB c13)))))))))))))))))))) an13.snd.snd.snd.snd.snd.snd.snd.snd.fst.snd.fst.fst.snd.snd.fst.fst.snd.snd.snd.snd (kc13_12 n m1) (xb13_13 n m1) rt13
noncomputable def kc13_15 (m1 : Nat) : K13 := fun s => normC [3,4,7,8,9,58,59,77,78,81,82,83,84,85,86,89,90,91,92,93,94,129,130,131,132,133,134,135,136,137,138,139,140,141,142,143,151,152,153,154,155,156,157,158,159,160] s (kq13_14 n m1)
noncomputable def kq13_16 (m1 : Nat) : K13 := run (E13 n) (cB (cB (cB (cB (cB (cB (cB (cA (cA (cB (cB (cA (cA (cB (cA (cB (cB (cB (cB (cB (cB (cB (cB c13))))))))))))))))))))))) an13.snd.snd.snd.snd.snd.snd.snd.snd.fst.snd.fst.fst.snd.snd.fst.fst.snd.snd.snd.snd.snd.snd.snd (kc13_12 n m1) (xb13_13 n m1) rt13
noncomputable def kc13_17 (m1 : Nat) : K13 := fun s => normC [3,4,7,8,9,58,59,77,78,81,82,83,84,85,86,89,90,91,92,93,94,129,130,131,132,133,134,135,136,137,138,139,140,141,142,143,151,152,153,154,155,156,157,158,159,160] s (kq13_16 n m1)
noncomputable def kc13_18 (m1 : Nat) : K13 := fun s => normC [3,4,7,8,58,59,77,78,81,82,83,84,85,86,89,90,91,92,93,94,129,130,131,132,133,134,135,136,137,138,139,140,141,142,143,151,152,153,154,155,156,157,158,159,160] s (kc13_12 n m1)
noncomputable def kc13_19 (m1 : Nat) : K13 := fun s => normC [3,4,7,8,58,59,77,78,81,82,83,84,85,86,89,90,91,92,93,94,129,130,131,132,133,134,135,136,137,138,139,140,141,142,143,151,152,153,154,155,156,157,158,159,160] s (kc13_18 n m1)
noncomputable def L13_1 (m : Nat) (v7 : Int) (v58 : Int) (v59 : Int) (l3 : LP) (want4 : LP) (r8 : LP) : Option R13 := loopN (F13_8 n) m { tm := [uu,uu,uu,.own 3 none false,.own 4 none false,uu,uu,.c (.int .i64 v7),.own 8 none false,uu,uu,uu,uu,uu,uu,uu,uu,uu,uu,uu,uu,uu,uu,uu,uu,uu,uu,uu,uu,uu,uu,uu,uu,uu,uu,uu,uu,uu,uu,uu,uu,uu,uu,uu,uu,uu,uu,uu,uu,uu,uu,uu,uu,uu,uu,uu,uu,uu,.c (.int .i64 v58),.c (.int .i64 v59),uu,uu,uu,uu,uu,uu,uu,uu,uu,uu,uu,uu,uu,uu,uu,uu,uu,uu,uu,uu,uu,uu,uu,uu,uu,uu,uu,uu,uu,uu,uu,uu,uu,uu,uu,uu,uu,uu,uu,uu,uu,uu,uu,uu,uu,uu,uu,uu,uu,uu,uu,uu,uu,uu,uu,uu,uu,uu,uu,uu,uu,uu,uu,uu,uu,uu,uu,uu,uu,uu,uu,uu,uu,uu,uu,uu,uu,uu,uu,uu,uu,uu,uu,uu,uu,uu,uu,uu,uu,uu,uu,uu,uu,uu,uu,uu,uu,uu,uu,uu,uu,uu,uu,uu,uu,uu],hp := (upd (upd (upd emp 8 (.arr (.pair (.int .i64) (.int .i64)) r8 false)) 4 (.arr (.pair (.int .i64) (.int .i64)) want4 false)) 3 (.arr (.pair (.int .i64) (.int .i64)) l3 false)) }
noncomputable def L13_2 (m1 : Nat) (v7 : Int) (v58 : Int) (v59 : Int) (l3 : LP) (want4 : LP) (r8 : LP) : Option R13 := loopN (fun _ => (kq13_11 n m1)) n.2 { tm := [uu,uu,uu,.own 3 none false,.own 4 none false,uu,uu,.c (.int .i64 v7),.own 8 none false,uu,uu,uu,uu,uu,uu,uu,uu,uu,uu,uu,uu,uu,uu,uu,uu,uu,uu,uu,uu,uu,uu,uu,uu,uu,uu,uu,uu,uu,uu,uu,uu,uu,uu,uu,uu,uu,uu,uu,uu,uu,uu,uu,uu,uu,uu,uu,uu,uu,.c (.int .i64 v58),.c (.int .i64 v59),uu,uu,uu,uu,uu,uu,uu,uu,uu,uu,uu,uu,uu,uu,uu,uu,uu,uu,uu,uu,uu,uu,uu,uu,uu,uu,uu,uu,uu,uu,uu,uu,uu,uu,uu,uu,uu,uu,uu,uu,uu,uu,uu,uu,uu,uu,uu,uu,uu,uu,uu,uu,uu,uu,uu,uu,uu,uu,uu,uu,uu,uu,uu,uu,uu,uu,uu,uu,uu,uu,uu,uu,uu,uu,uu,uu,uu,uu,uu,uu,uu,uu,uu,uu,uu,uu,uu,uu,uu,uu,uu,uu,uu,uu,uu,uu,uu,uu,uu,uu,uu,uu,uu,uu,uu,uu],hp := (upd (upd (upd emp 8 (.arr (.pair (.int .i64) (.int .i64)) r8 false)) 4 (.arr (.pair (.int .i64) (.int .i64)) want4 false)) 3 (.arr (.pair (.int .i64) (.int .i64)) l3 false)) }
theorem L13_1_eq (m1 : Nat) (v7 : Int) (v58 : Int) (v59 : Int) (l3 : LP) (want4 : LP) (r8 : LP) : L13_1 n (m1 + 1) v7 v58 v59 l3 want4 r8 =
    (bif decide (v59 < v58) then (S26 n l3 v59).bind fun r12' =>
      (S28 n l3 v59).bind fun r13' =>
      ((bif ((r12'.2 != 0) == false) then some (r13'.2 != 0)
        else some true)).bind fun b14' =>
      ((bif (b14' == false) then (bif inB v59 want4.length then (idx want4 v59).bind fun x15' =>
            some (!((r12'.1.1 == x15'.1) && ((r12'.1.2 == x15'.2) && true)))
          else none)
        else some true)).bind fun b16' =>
      ((bif (b16' == false) then (bif inB v59 want4.length then (idx want4 v59).bind fun x17' =>
            some (!((r13'.1.1 == x17'.1) && ((r13'.1.2 == x17'.2) && true)))
          else none)
        else some true)).bind fun b18' =>
      (bif b18' then some false
      else (bif inB v59 want4.length then (idx want4 v59).bind fun x19' =>
          (bif inB v59 l3.length then (idx l3 v59).bind fun x20' =>
            (bif inB v59 l3.length then (idx l3 v59).bind fun x21' =>
              (bif inB v59 want4.length then (idx want4 v59).bind fun x22' =>
                (bif inB v59 r8.length then (idx r8 v59).bind fun x23' =>
                  (S53 n x23' 0 7200).bind fun r24' =>
                  ((bif ((!r24') == false) then (bif inB v59 r8.length then (idx r8 v59).bind fun x25' =>
                        (bif inB v59 r8.length then (idx r8 v59).bind fun x26' =>
                          some ((wr .i64 (x25'.1 * x19'.2)) != (wr .i64 ((wr .i64 (v7 + (wr .i64 (x20'.2 * (wr .i64 ((wr .i64 (x21'.1 * x19'.2)) - x22'.1)))))) * x26'.2)))
                        else none)
                      else none)
                    else some true)).bind fun b27' =>
                  (bif b27' then some false
                  else ((bif (((wr .i64 (v59 + 1)) == (l3.length : Int)) == false) then (bif inB (wr .i64 (v59 + 1)) want4.length then (idx want4 (wr .i64 (v59 + 1))).bind fun x28' =>
                          (bif inB v59 want4.length then (idx want4 v59).bind fun x29' =>
                            some (!((x28'.1 == x29'.1) && ((x28'.2 == x29'.2) && true)))
                          else none)
                        else none)
                      else some true)).bind fun b30' =>
                    (bif b30' then (bif ((wr .i64 (v7 + (wr .i64 (x20'.2 * (wr .i64 ((wr .i64 (x21'.1 * x19'.2)) - x22'.1)))))) != 0) then some false
                      else L13_2 n m1 (wr .i64 (v7 + (wr .i64 (x20'.2 * (wr .i64 ((wr .i64 (x21'.1 * x19'.2)) - x22'.1)))))) v58 v59 l3 want4 r8)
                    else L13_2 n m1 (wr .i64 (v7 + (wr .i64 (x20'.2 * (wr .i64 ((wr .i64 (x21'.1 * x19'.2)) - x22'.1)))))) v58 v59 l3 want4 r8))
                else none)
              else none)
            else none)
          else none)
        else none))
    else (S18 n).bind fun r31' =>
      some r31') := by kernel_rfl
theorem L13_2_raw (m1 : Nat) (v7 : Int) (v58 : Int) (v59 : Int) (l3 : LP) (want4 : LP) (r8 : LP) : (kq13_11 n m1) { tm := [uu,uu,uu,.own 3 none false,.own 4 none false,uu,uu,.c (.int .i64 v7),.own 8 none false,uu,uu,uu,uu,uu,uu,uu,uu,uu,uu,uu,uu,uu,uu,uu,uu,uu,uu,uu,uu,uu,uu,uu,uu,uu,uu,uu,uu,uu,uu,uu,uu,uu,uu,uu,uu,uu,uu,uu,uu,uu,uu,uu,uu,uu,uu,uu,uu,uu,.c (.int .i64 v58),.c (.int .i64 v59),uu,uu,uu,uu,uu,uu,uu,uu,uu,uu,uu,uu,uu,uu,uu,uu,uu,uu,uu,uu,uu,uu,uu,uu,uu,uu,uu,uu,uu,uu,uu,uu,uu,uu,uu,uu,uu,uu,uu,uu,uu,uu,uu,uu,uu,uu,uu,uu,uu,uu,uu,uu,uu,uu,uu,uu,uu,uu,uu,uu,uu,uu,uu,uu,uu,uu,uu,uu,uu,uu,uu,uu,uu,uu,uu,uu,uu,uu,uu,uu,uu,uu,uu,uu,uu,uu,uu,uu,uu,uu,uu,uu,uu,uu,uu,uu,uu,uu,uu,uu,uu,uu,uu,uu,uu,uu],hp := (upd (upd (upd emp 8 (.arr (.pair (.int .i64) (.int .i64)) r8 false)) 4 (.arr (.pair (.int .i64) (.int .i64)) want4 false)) 3 (.arr (.pair (.int .i64) (.int .i64)) l3 false)) } =
    L13_1 n m1 v7 v58 (wr .i64 (v59 + 1)) l3 want4 r8 := by kernel_rfl
noncomputable def S13 (a0 : Int × (Int × Int × Int × Int × Int × Int × Int × Int) × Int × Int × Int × Int × Int × Int × Int × Int) : Option R13 := run (E13 n) c13 an13 rt13 (fun _ _ => none) rt13 { tm := [.agg [.int .u8 a0.1,.int .u8 a0.2.1.1,.int .u8 a0.2.1.2.1,.int .u8 a0.2.1.2.2.1,.int .u8 a0.2.1.2.2.2.1,.int .u8 a0.2.1.2.2.2.2.1,.int .u8 a0.2.1.2.2.2.2.2.1,.int .u8 a0.2.1.2.2.2.2.2.2.1,.int .u8 a0.2.1.2.2.2.2.2.2.2,.int .u8 a0.2.2.1,.int .u8 a0.2.2.2.1,.int .u8 a0.2.2.2.2.1,.int .u8 a0.2.2.2.2.2.1,.int .u8 a0.2.2.2.2.2.2.1,.int .u8 a0.2.2.2.2.2.2.2.1,.int .u8 a0.2.2.2.2.2.2.2.2.1,.int .u8 a0.2.2.2.2.2.2.2.2.2],uu,uu,uu,uu,uu,uu,uu,uu,uu,uu,uu,uu,uu,uu,uu,uu,uu,uu,uu,uu,uu,uu,uu,uu,uu,uu,uu,uu,uu,uu,uu,uu,uu,uu,uu,uu,uu,uu,uu,uu,uu,uu,uu,uu,uu,uu,uu,uu,uu,uu,uu,uu,uu,uu,uu,uu,uu,uu,uu,uu,uu,uu,uu,uu,uu,uu,uu,uu,uu,uu,uu,uu,uu,uu,uu,uu,uu,uu,uu,uu,uu,uu,uu,uu,uu,uu,uu,uu,uu,uu,uu,uu,uu,uu,uu,uu,uu,uu,uu,uu,uu,uu,uu,uu,uu,uu,uu,uu,uu,uu,uu,uu,uu,uu,uu,uu,uu,uu,uu,uu,uu,uu,uu,uu,uu,uu,uu,uu,uu,uu,uu,uu,uu,uu,uu,uu,uu,uu,uu,uu,uu,uu,uu,uu,uu,uu,uu,uu,uu,uu,uu,uu,uu,uu,uu,uu,uu,uu,uu,uu,uu,uu,uu,uu,uu],hp := emp }
theorem S13_eq (a0 : Int × (Int × Int × Int × Int × Int × Int × Int × Int) × Int × Int × Int × Int × Int × Int × Int × Int) : S13 n a0 =
    (S47 n a0 8 100).bind fun r1' =>
    (S65 n r1').bind fun r2' =>
    (S30 n r1').bind fun r3' =>
    (S24 n r1').bind fun r4' =>
    ((bif ((r4' != 0) == false) then some (r3'.2 != 0)
      else some true)).bind fun b5' =>
    ((bif (b5' == false) then (S51 n r3'.1 r2').bind fun r6' =>
        some (!r6')
      else some true)).bind fun b7' =>
    ((bif (b7' == false) then (S39 n r1' r3'.1).bind fun r8' =>
        some (r8' != 0)
      else some true)).bind fun b9' =>
    (bif b9' then some false
    else (S37 n r1').bind fun r10' =>
      ((bif ((r10'.2 != 0) == false) then some ((r10'.1.length : Int) != (r1'.length : Int))
        else some true)).bind fun b11' =>
      (bif b11' then some false
      else L13_1 n n.1 0 (r1'.length : Int) 0 r1' r2' r10'.1)) := by kernel_rfl
theorem S13_run (xs : pksDen pk13) : S13 n xs.1 = runG (E13 n) noScope c13 an13 (rtG rk13) (fun _ _ => none) (rtG rk13) (st0 pk13 xs Try.f13.ntmps) := by kernel_rfl
noncomputable def P13 := phiOf pk13 rk13 (fun xs => S13 n xs.1)
theorem call13 : CallOK Try.prog 13 := callOK_of Try.func13 (by kernel_rfl) (by kernel_rfl)
theorem env13 : EnvOK Try.prog (E13 n) := envOK0 (consPhi_ok (FC18 n) call18 (consPhi_ok (FC24 n) call24 (consPhi_ok (FC26 n) call26 (consPhi_ok (FC28 n) call28 (consPhi_ok (FC30 n) call30 (consPhi_ok (FC37 n) call37 (consPhi_ok (FC39 n) call39 (consPhi_ok (FC47 n) call47 (consPhi_ok (FC51 n) call51 (consPhi_ok (FC53 n) call53 (consPhi_ok (FC65 n) call65 noPhi_ok))))))))))) rfl rfl
theorem par13 : EnvPar (E13 n) := envPar0 (consPhi_par phiOf_Par1 (consPhi_par phiOf_Par1 (consPhi_par phiOf_Par1 (consPhi_par phiOf_Par1 (consPhi_par phiOf_Par1 (consPhi_par phiOf_Par1 (consPhi_par phiOf_Par1 (consPhi_par phiOf_Par1 (consPhi_par phiOf_Par1 (consPhi_par phiOf_Par1 (consPhi_par phiOf_Par1 noPhi_par))))))))))) rfl
theorem FC13 : FCs Try.prog 13 (P13 n) := phiOf_FCs fun xs r h vs hv => FC.of_runG tabOK eqsOK (env13 n) (par13 n) mixed (fun _ => noScope_ok) Try.func13 (c := c13) (an := an13) (pks := pk13) (rks := rk13) (by kernel_rfl) (by kernel_rfl) hv ((S13_run n xs).symm.trans h)
/-D 13 -/
abbrev YLG131 := Int → Int → Int → LP → LP → LP → Option R13
noncomputable def DL13_2 (n : Nat × Nat) (f1 : YLG131) (v7 : Int) (v58 : Int) (v59 : Int) (l3 : LP) (want4 : LP) (r8 : LP) : Option R13 :=
    f1 v7 v58 (wr .i64 (v59 + 1)) l3 want4 r8
theorem DL13_2_eq (hn : n.2 = 1) (m1 : Nat) : L13_2 n m1 = DL13_2 n (L13_1 n m1) := by
  funext v7 v58 v59 l3 want4 r8; refine ((held_eq hn _).trans (L13_2_raw n m1 v7 v58 v59 l3 want4 r8)).trans ?_
  unfold DL13_2
  (try simp only [S18_D n hn,S24_D n hn,S26_D n hn,S28_D n hn,S30_D n hn,S37_D n hn,S39_D n hn,S47_D n hn,S51_D n hn,S53_D n hn,S65_D n hn]) <;> first | with_reducible rfl | rfl
noncomputable def DF13_1 (f1 : YLG131) (v7 : Int) (v58 : Int) (v59 : Int) (l3 : LP) (want4 : LP) (r8 : LP) : Option R13 :=
    (bif decide (v59 < v58) then (D26 n l3 v59).bind fun r12' =>
      (D28 n l3 v59).bind fun r13' =>
      ((bif ((r12'.2 != 0) == false) then some (r13'.2 != 0)
        else some true)).bind fun b14' =>
      ((bif (b14' == false) then (bif inB v59 want4.length then (idx want4 v59).bind fun x15' =>
            some (!((r12'.1.1 == x15'.1) && ((r12'.1.2 == x15'.2) && true)))
          else none)
        else some true)).bind fun b16' =>
      ((bif (b16' == false) then (bif inB v59 want4.length then (idx want4 v59).bind fun x17' =>
            some (!((r13'.1.1 == x17'.1) && ((r13'.1.2 == x17'.2) && true)))
          else none)
        else some true)).bind fun b18' =>
      (bif b18' then some false
      else (bif inB v59 want4.length then (idx want4 v59).bind fun x19' =>
          (bif inB v59 l3.length then (idx l3 v59).bind fun x20' =>
            (bif inB v59 l3.length then (idx l3 v59).bind fun x21' =>
              (bif inB v59 want4.length then (idx want4 v59).bind fun x22' =>
                (bif inB v59 r8.length then (idx r8 v59).bind fun x23' =>
                  (D53 n x23' 0 7200).bind fun r24' =>
                  ((bif ((!r24') == false) then (bif inB v59 r8.length then (idx r8 v59).bind fun x25' =>
                        (bif inB v59 r8.length then (idx r8 v59).bind fun x26' =>
                          some ((wr .i64 (x25'.1 * x19'.2)) != (wr .i64 ((wr .i64 (v7 + (wr .i64 (x20'.2 * (wr .i64 ((wr .i64 (x21'.1 * x19'.2)) - x22'.1)))))) * x26'.2)))
                        else none)
                      else none)
                    else some true)).bind fun b27' =>
                  (bif b27' then some false
                  else ((bif (((wr .i64 (v59 + 1)) == (l3.length : Int)) == false) then (bif inB (wr .i64 (v59 + 1)) want4.length then (idx want4 (wr .i64 (v59 + 1))).bind fun x28' =>
                          (bif inB v59 want4.length then (idx want4 v59).bind fun x29' =>
                            some (!((x28'.1 == x29'.1) && ((x28'.2 == x29'.2) && true)))
                          else none)
                        else none)
                      else some true)).bind fun b30' =>
                    (bif b30' then (bif ((wr .i64 (v7 + (wr .i64 (x20'.2 * (wr .i64 ((wr .i64 (x21'.1 * x19'.2)) - x22'.1)))))) != 0) then some false
                      else DL13_2 n f1 (wr .i64 (v7 + (wr .i64 (x20'.2 * (wr .i64 ((wr .i64 (x21'.1 * x19'.2)) - x22'.1)))))) v58 v59 l3 want4 r8)
                    else DL13_2 n f1 (wr .i64 (v7 + (wr .i64 (x20'.2 * (wr .i64 ((wr .i64 (x21'.1 * x19'.2)) - x22'.1)))))) v58 v59 l3 want4 r8))
                else none)
              else none)
            else none)
          else none)
        else none))
    else (D18 n).bind fun r31' =>
      some r31')
noncomputable def DL13_1 (m : Nat) : YLG131 := Nat.rec (motive := fun _ => YLG131) (fun _ _ _ _ _ _ => none) (fun _ ih => DF13_1 n ih) m
theorem DL13_1_succ (m : Nat) : DL13_1 n (m + 1) = DF13_1 n (DL13_1 n m) := rfl
theorem DL13_1_eq (n : Nat × Nat) (hn : n.2 = 1) : ∀ m,L13_1 n m = DL13_1 n m
  | 0 => by funext v7 v58 v59 l3 want4 r8; kernel_rfl
  | m + 1 => by
    have ih := DL13_1_eq n hn m
    funext v7 v58 v59 l3 want4 r8; refine (L13_1_eq n m v7 v58 v59 l3 want4 r8).trans ?_
    rw [DL13_1_succ]
    unfold DF13_1
    (try simp only [ih,DL13_2_eq n hn,S18_D n hn,S24_D n hn,S26_D n hn,S28_D n hn,S30_D n hn,S37_D n hn,S39_D n hn,S47_D n hn,S51_D n hn,S53_D n hn,S65_D n hn]) <;> first | with_reducible rfl | rfl
noncomputable def D13 (a0 : Int × (Int × Int × Int × Int × Int × Int × Int × Int) × Int × Int × Int × Int × Int × Int × Int × Int) : Option R13 :=
    (D47 n a0 8 100).bind fun r1' =>
    (D65 n r1').bind fun r2' =>
    (D30 n r1').bind fun r3' =>
    (D24 n r1').bind fun r4' =>
    ((bif ((r4' != 0) == false) then some (r3'.2 != 0)
      else some true)).bind fun b5' =>
    ((bif (b5' == false) then (D51 n r3'.1 r2').bind fun r6' =>
        some (!r6')
      else some true)).bind fun b7' =>
    ((bif (b7' == false) then (D39 n r1' r3'.1).bind fun r8' =>
        some (r8' != 0)
      else some true)).bind fun b9' =>
    (bif b9' then some false
    else (D37 n r1').bind fun r10' =>
      ((bif ((r10'.2 != 0) == false) then some ((r10'.1.length : Int) != (r1'.length : Int))
        else some true)).bind fun b11' =>
      (bif b11' then some false
      else DL13_1 n n.1 0 (r1'.length : Int) 0 r1' r2' r10'.1))
theorem S13_D (hn : n.2 = 1) : S13 n = D13 n := by
  funext a0; refine (S13_eq n a0).trans ?_
  unfold D13
  (try simp only [DL13_2_eq n hn,DL13_1_eq n hn,S18_D n hn,S24_D n hn,S26_D n hn,S28_D n hn,S30_D n hn,S37_D n hn,S39_D n hn,S47_D n hn,S51_D n hn,S53_D n hn,S65_D n hn]) <;> first | with_reducible rfl | rfl

end Go.Proofs.Ytombednapelokaa
