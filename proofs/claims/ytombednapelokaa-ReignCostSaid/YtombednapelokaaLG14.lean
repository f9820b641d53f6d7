/- The law: written by program -/
import Derived.Test.YtombednapelokaaViS
import Derived.Test.YtombednapelokaaProg
import Derived.KernelRfl
import Derived.WalkKit
import Derived.Test.YtombednapelokaaDel
import Derived.Test.YtombednapelokaaCD1
set_option linter.unusedVariables false
set_option linter.unusedSimpArgs false
set_option maxRecDepth 100000
namespace Go.Proofs.Ytombednapelokaa
open Go.Vi
variable (n : Nat × Nat)
abbrev R14 := Bool
abbrev K14 := St → Option R14
noncomputable def c14 : Code := bodyOf Try.f14
noncomputable def an14 : Ann := (.s .l (.s .l (.s .l (.s .l (.s .l (.s .l (.s (.s .l (.j [1,5,7,8,9,10,11,12,116,117,118,121,122,123,124,127,128,129,132,133,134,135,136,137,140,141,142,143,144,145,148,149,150,151,152,155,156,157,158,159,160,161,162,163,179,180,181,182,183,184,185,186,187,188,189,190,201,202,203,204,205,206,207,208,209,210,213,214,215,216,217,218,219,220,221,222,223,272,273,274,275,276,277,278,279,282,283,284,285,286,289] (.j [1,5,7,8,9,10,11,12,13,38,39,69,70,71,72,73,74,75,76,77,78,116,117,118,121,122,123,124,127,128,129,132,133,134,135,136,137,140,141,142,143,144,145,148,149,150,151,152,155,156,157,158,159,160,161,162,163,179,180,181,182,183,184,185,186,187,188,189,190,201,202,203,204,205,206,207,208,209,210,213,214,215,216,217,218,219,220,221,222,223,272,273,274,275,276,277,278,279,282,283,284,285,286,289] (.s .l (.s (.j [1,5,7,8,9,10,11,12,13,38,39,69,70,71,72,73,74,75,76,77,78,116,117,118,121,122,123,124,127,128,129,132,133,134,135,136,137,140,141,142,143,144,145,148,149,150,151,152,155,156,157,158,159,160,161,162,163,179,180,181,182,183,184,185,186,187,188,189,190,201,202,203,204,205,206,207,208,209,210,213,214,215,216,217,218,219,220,221,222,223,272,273,274,275,276,277,278,279,282,283,284,285,286,289] .l .l) (.j [] (.j [1,5,7,8,9,10,11,12,13,38,39,69,70,71,72,73,74,75,76,77,78,116,117,118,121,122,123,124,127,128,129,132,133,134,135,136,137,140,141,142,143,144,145,148,149,150,151,152,155,156,157,158,159,160,161,162,163,179,180,181,182,183,184,185,186,187,188,189,190,201,202,203,204,205,206,207,208,209,210,213,214,215,216,217,218,219,220,221,222,223,272,273,274,275,276,277,278,279,282,283,284,285,286,289] (.s .l (.s .l (.s (.s .l (.j [1,5,7,8,9,10,11,12,13,14,38,39,69,70,71,72,73,74,75,76,77,78,116,117,118,121,122,123,124,127,128,129,132,133,134,135,136,137,140,141,142,143,144,145,148,149,150,151,152,155,156,157,158,159,160,161,162,163,179,180,181,182,183,184,185,186,187,188,189,190,201,202,203,204,205,206,207,208,209,210,213,214,215,216,217,218,219,220,221,222,223,272,273,274,275,276,277,278,279,282,283,284,285,286,289] .l .l)) .l))) .l) .l))) .l) .l)) (.s (.s .l (.j [1,5,7,8,9,11,12,179,180,181,182,183,184,185,186,187,188,189,190,201,202,203,204,205,206,207,208,209,210,213,214,215,216,217,218,219,220,221,222,223,272,273,274,275,276,277,278,279,282,283,284,285,286,289] .l .l)) (.s .l (.s .l (.s (.s .l (.j [1,5,7,8,9,11,12,18,19,20,201,202,203,204,205,206,207,208,209,210,213,214,215,216,217,218,219,220,221,222,223,272,273,274,275,276,277,278,279,282,283,284,285,286,289] (.j [1,5,7,8,9,11,12,18,19,20,172,173,179,180,181,182,183,184,185,186,187,188,189,190,201,202,203,204,205,206,207,208,209,210,213,214,215,216,217,218,219,220,221,222,223,272,273,274,275,276,277,278,279,282,283,284,285,286,289] (.s .l (.s (.j [1,5,7,8,9,11,12,18,19,20,172,173,179,180,181,182,183,184,185,186,187,188,189,190,201,202,203,204,205,206,207,208,209,210,213,214,215,216,217,218,219,220,221,222,223,272,273,274,275,276,277,278,279,282,283,284,285,286,289] .l .l) (.j [] (.j [1,5,7,8,9,11,12,18,19,20,172,173,179,180,181,182,183,184,185,186,187,188,189,190,201,202,203,204,205,206,207,208,209,210,213,214,215,216,217,218,219,220,221,222,223,272,273,274,275,276,277,278,279,282,283,284,285,286,289] (.s .l (.s .l (.j [1,5,7,8,9,11,12,18,19,20,172,173,179,180,181,182,183,184,185,186,187,188,189,190,201,202,203,204,205,206,207,208,209,210,213,214,215,216,217,218,219,220,221,222,223,272,273,274,275,276,277,278,279,282,283,284,285,286,289] .l .l))) .l) .l))) .l) .l)) (.s (.s .l (.j [1,5,7,8,11,12,272,273,274,275,276,277,278,279,282,283,284,285,286,289] .l .l)) (.s .l (.s .l (.s (.s .l (.j [7,8,11,12,23,24,272,273,274,275,276,277,278,279,282,283,284,285,286,289] (.j [5,7,8,11,12,22,23,24,228,229,230,272,273,274,275,276,277,278,279,282,283,284,285,286,289] (.s .l (.s (.j [5,7,8,11,12,22,23,24,228,229,230,272,273,274,275,276,277,278,279,282,283,284,285,286,289] .l .l) (.s (.j [5,7,8,11,12,22,23,24,228,229,230,272,273,274,275,276,277,278,279,282,283,284,285,286,289] .l .l) .l))) .l) .l)) (.s .l (.s (.s .l (.j [7,11,12,23,24,27,272,273,274,275,276,277,278,279,282,283,284,285,286,289] .l .l)) .l)))))))))))))))))
def pk14 : List PK := [.c (.pair (.int .u8) (.pair (.pair (.int .u8) (.pair (.int .u8) (.pair (.int .u8) (.pair (.int .u8) (.pair (.int .u8) (.pair (.int .u8) (.pair (.int .u8) (.int .u8)))))))) (.pair (.int .u8) (.pair (.int .u8) (.pair (.int .u8) (.pair (.int .u8) (.pair (.int .u8) (.pair (.int .u8) (.pair (.int .u8) (.int .u8)))))))))),.c (.int .u8),.c (.pair (.int .u8) (.pair (.int .u8) (.pair (.int .u8) (.pair (.int .u8) (.pair (.int .u8) (.pair (.int .u8) (.pair (.int .u8) (.int .u8))))))))]
def rk14 : List RK := [.c .bool 6]
noncomputable def rt14 (st : St) : Option R14 := rtG rk14 st
noncomputable def E14 : Env := { T := tab,phi := (consPhi 18 (fun _ => true) (P18 n) (consPhi 20 (fun _ => true) (P20 n) (consPhi 35 (fun _ => true) (P35 n) (consPhi 39 (fun _ => true) (P39 n) (consPhi 47 (fun _ => true) (P47 n) (consPhi 49 (fun _ => true) (P49 n) (consPhi 51 (fun _ => true) (P51 n) (consPhi 52 (fun _ => true) (P52 n) (consPhi 65 (fun _ => true) (P65 n) (consPhi 66 (fun _ => true) (P66 n) noPhi)))))))))),eff := fun _ => false,fuel := n.1,hold := n.2 }
noncomputable def kq14_1 : K14 := run (E14 n) (cB (cB (cB (cB (cB (cB (cB c14))))))) an14.snd.snd.snd.snd.snd.snd.snd rt14 (fun _ _ => none) rt14
noncomputable def xb14_3 : Nat → K14 := fun j s => bif Nat.beq j 0 then normC [1,5,7,8,9,10,11,12,116,117,118,121,122,123,124,127,128,129,132,133,134,135,136,137,140,141,142,143,144,145,148,149,150,151,152,155,156,157,158,159,160,161,162,163,179,180,181,182,183,184,185,186,187,188,189,190,201,202,203,204,205,206,207,208,209,210,213,214,215,216,217,218,219,220,221,222,223,272,273,274,275,276,277,278,279,282,283,284,285,286,289] s (kq14_1 n) else (fun _ _ => none) j s
noncomputable def F14_4 : (K14) → K14 := fun K s => run (E14 n) (cA (cA (cB (cA (cB (cB (cB (cB (cB (cB c14)))))))))) an14.snd.snd.snd.snd.snd.snd.fst.snd.fst.fst (fun s => normC [1,5,7,8,9,10,11,12,13,38,39,69,70,71,72,73,74,75,76,77,78,116,117,118,121,122,123,124,127,128,129,132,133,134,135,136,137,140,141,142,143,144,145,148,149,150,151,152,155,156,157,158,159,160,161,162,163,179,180,181,182,183,184,185,186,187,188,189,190,201,202,203,204,205,206,207,208,209,210,213,214,215,216,217,218,219,220,221,222,223,272,273,274,275,276,277,278,279,282,283,284,285,286,289] s K) (xb14_3 n) rt14 s
noncomputable def kq14_7 (m1 : Nat) : K14 := run (E14 n) (cB (cB (cB (cA (cA (cB (cA (cB (cB (cB (cB (cB (cB c14))))))))))))) an14.snd.snd.snd.snd.snd.snd.fst.snd.fst.fst.snd.snd.snd (fun s => normC [1,5,7,8,9,10,11,12,13,38,39,69,70,71,72,73,74,75,76,77,78,116,117,118,121,122,123,124,127,128,129,132,133,134,135,136,137,140,141,142,143,144,145,148,149,150,151,152,155,156,157,158,159,160,161,162,163,179,180,181,182,183,184,185,186,187,188,189,190,201,202,203,204,205,206,207,208,209,210,213,214,215,216,217,218,219,220,221,222,223,272,273,274,275,276,277,278,279,282,283,284,285,286,289] s (loopN (F14_4 n) m1)) (xb14_3 n) rt14
noncomputable def kq14_14 : K14 := run (E14 n) (cB (cB (cB (cB (cB (cB (cB (cB (cB (cB (cB c14))))))))))) an14.snd.snd.snd.snd.snd.snd.snd.snd.snd.snd.snd rt14 (fun _ _ => none) rt14
noncomputable def xb14_16 : Nat → K14 := fun j s => bif Nat.beq j 2 then normC [1,5,7,8,9,11,12,18,19,20,201,202,203,204,205,206,207,208,209,210,213,214,215,216,217,218,219,220,221,222,223,272,273,274,275,276,277,278,279,282,283,284,285,286,289] s (kq14_14 n) else (fun _ _ => none) j s
noncomputable def F14_17 : (K14) → K14 := fun K s => run (E14 n) (cA (cA (cB (cA (cB (cB (cB (cB (cB (cB (cB (cB (cB (cB c14)))))))))))))) an14.snd.snd.snd.snd.snd.snd.snd.snd.snd.snd.fst.snd.fst.fst (fun s => normC [1,5,7,8,9,11,12,18,19,20,172,173,179,180,181,182,183,184,185,186,187,188,189,190,201,202,203,204,205,206,207,208,209,210,213,214,215,216,217,218,219,220,221,222,223,272,273,274,275,276,277,278,279,282,283,284,285,286,289] s K) (xb14_16 n) rt14 s
noncomputable def kq14_20 (m1 : Nat) : K14 := run (E14 n) (cB (cB (cB (cA (cA (cB (cA (cB (cB (cB (cB (cB (cB (cB (cB (cB (cB c14))))))))))))))))) an14.snd.snd.snd.snd.snd.snd.snd.snd.snd.snd.fst.snd.fst.fst.snd.snd.snd (fun s => normC [1,5,7,8,9,11,12,18,19,20,172,173,179,180,181,182,183,184,185,186,187,188,189,190,201,202,203,204,205,206,207,208,209,210,213,214,215,216,217,218,219,220,221,222,223,272,273,274,275,276,277,278,279,282,283,284,285,286,289] s (loopN (F14_17 n) m1)) (xb14_16 n) rt14
noncomputable def kq14_26 : K14 := run (E14 n) (cB (cB (cB (cB (cB (cB (cB (cB (cB (cB (cB (cB (cB (cB (cB c14))))))))))))))) an14.snd.snd.snd.snd.snd.snd.snd.snd.snd.snd.snd.snd.snd.snd.snd rt14 (fun _ _ => none) rt14
noncomputable def xb14_28 : Nat → K14 := fun j s => bif Nat.beq j 4 then normC [7,8,11,12,23,24,272,273,274,275,276,277,278,279,282,283,284,285,286,289] s (kq14_26 n) else (fun _ _ => none) j s
noncomputable def F14_29 : (K14) → K14 := fun K s => run (E14 n) (cA (cA (cB (cA (cB (cB (cB (cB (cB (cB (cB (cB (cB (cB (cB (cB (cB (cB c14)))))))))))))))))) an14.snd.snd.snd.snd.snd.snd.snd.snd.snd.snd.snd.snd.snd.snd.fst.snd.fst.fst (fun s => normC [5,7,8,11,12,22,23,24,228,229,230,272,273,274,275,276,277,278,279,282,283,284,285,286,289] s K) (xb14_28 n) rt14 s
noncomputable def L14_1 (m : Nat) (first1 : Int) (e10 : Int) (num11 : Int) (den12 : Int) (begin13 : Int) (v38 : Int) (v39 : Int) (steps5_0 : Int) (steps5_1 : Int) (steps5_2 : Int) (steps5_3 : Int) (steps5_4 : Int) (steps5_5 : Int) (steps5_6 : Int) (steps5_7 : Int) (l7 : LP) (near8 : LP) (c9_0 : Int) (c9_1 : Int) : Option R14 := loopN (F14_4 n) m { tm := [uu,.c (.int .u8 first1),uu,uu,uu,.ptr 5 0,uu,.own 7 none false,.own 8 none false,.ptr 9 0,.c (.int .i64 e10),.c (.int .i64 num11),.c (.int .i64 den12),.c (.int .i64 begin13),uu,uu,uu,uu,uu,uu,uu,uu,uu,uu,uu,uu,uu,uu,uu,uu,uu,uu,uu,uu,uu,uu,uu,uu,.c (.int .i64 v38),.c (.int .i64 v39),uu,uu,uu,uu,uu,uu,uu,uu,uu,uu,uu,uu,uu,uu,uu,uu,uu,uu,uu,uu,uu,uu,uu,uu,uu,uu,uu,uu,uu,uu,uu,uu,uu,uu,uu,uu,uu,uu,uu,uu,uu,uu,uu,uu,uu,uu,uu,uu,uu,uu,uu,uu,uu,uu,uu,uu,uu,uu,uu,uu,uu,uu,uu,uu,uu,uu,uu,uu,uu,uu,uu,uu,uu,uu,uu,uu,uu,uu,uu,uu,uu,uu,uu,uu,uu,uu,uu,uu,uu,uu,uu,uu,uu,uu,uu,uu,uu,uu,uu,uu,uu,uu,uu,uu,uu,uu,uu,uu,uu,uu,uu,uu,uu,uu,uu,uu,uu,uu,uu,uu,uu,uu,uu,uu,uu,uu,uu,uu,uu,uu,uu,uu,uu,uu,uu,uu,uu,uu,uu,uu,uu,uu,uu,uu,uu,uu,uu,uu,uu,uu,uu,uu,uu,uu,uu,uu,uu,uu,uu,uu,uu,uu,uu,uu,uu,uu,uu,uu,uu,uu,uu,uu,uu,uu,uu,uu,uu,uu,uu,uu,uu,uu,uu,uu,uu,uu,uu,uu,uu,uu,uu,uu,uu,uu,uu,uu,uu,uu,uu,uu,uu,uu,uu,uu,uu,uu,uu,uu,uu,uu,uu,uu,uu,uu,uu,uu,uu,uu,uu,uu,uu,uu,uu,uu,uu,uu,uu,uu,uu,uu,uu,uu,uu,uu,uu,uu,uu,uu,uu,uu,uu,uu,uu,uu,uu,uu,uu,uu,uu,uu,uu],hp := (upd (upd (upd (upd emp 9 (.box [.int .i64 c9_0,.int .i64 c9_1])) 8 (.arr (.pair (.int .i64) (.int .i64)) near8 false)) 7 (.arr (.pair (.int .i64) (.int .i64)) l7 false)) 5 (.box [.int .u8 steps5_0,.int .u8 steps5_1,.int .u8 steps5_2,.int .u8 steps5_3,.int .u8 steps5_4,.int .u8 steps5_5,.int .u8 steps5_6,.int .u8 steps5_7])) }
noncomputable def L14_2 (m1 : Nat) (first1 : Int) (e10 : Int) (num11 : Int) (den12 : Int) (begin13 : Int) (v38 : Int) (v39 : Int) (steps5_0 : Int) (steps5_1 : Int) (steps5_2 : Int) (steps5_3 : Int) (steps5_4 : Int) (steps5_5 : Int) (steps5_6 : Int) (steps5_7 : Int) (l7 : LP) (near8 : LP) (c9_0 : Int) (c9_1 : Int) : Option R14 := loopN (fun _ => (kq14_7 n m1)) n.2 { tm := [uu,.c (.int .u8 first1),uu,uu,uu,.ptr 5 0,uu,.own 7 none false,.own 8 none false,.ptr 9 0,.c (.int .i64 e10),.c (.int .i64 num11),.c (.int .i64 den12),.c (.int .i64 begin13),uu,uu,uu,uu,uu,uu,uu,uu,uu,uu,uu,uu,uu,uu,uu,uu,uu,uu,uu,uu,uu,uu,uu,uu,.c (.int .i64 v38),.c (.int .i64 v39),uu,uu,uu,uu,uu,uu,uu,uu,uu,uu,uu,uu,uu,uu,uu,uu,uu,uu,uu,uu,uu,uu,uu,uu,uu,uu,uu,uu,uu,uu,uu,uu,uu,uu,uu,uu,uu,uu,uu,uu,uu,uu,uu,uu,uu,uu,uu,uu,uu,uu,uu,uu,uu,uu,uu,uu,uu,uu,uu,uu,uu,uu,uu,uu,uu,uu,uu,uu,uu,uu,uu,uu,uu,uu,uu,uu,uu,uu,uu,uu,uu,uu,uu,uu,uu,uu,uu,uu,uu,uu,uu,uu,uu,uu,uu,uu,uu,uu,uu,uu,uu,uu,uu,uu,uu,uu,uu,uu,uu,uu,uu,uu,uu,uu,uu,uu,uu,uu,uu,uu,uu,uu,uu,uu,uu,uu,uu,uu,uu,uu,uu,uu,uu,uu,uu,uu,uu,uu,uu,uu,uu,uu,uu,uu,uu,uu,uu,uu,uu,uu,uu,uu,uu,uu,uu,uu,uu,uu,uu,uu,uu,uu,uu,uu,uu,uu,uu,uu,uu,uu,uu,uu,uu,uu,uu,uu,uu,uu,uu,uu,uu,uu,uu,uu,uu,uu,uu,uu,uu,uu,uu,uu,uu,uu,uu,uu,uu,uu,uu,uu,uu,uu,uu,uu,uu,uu,uu,uu,uu,uu,uu,uu,uu,uu,uu,uu,uu,uu,uu,uu,uu,uu,uu,uu,uu,uu,uu,uu,uu,uu,uu,uu,uu,uu,uu,uu,uu,uu,uu,uu,uu,uu,uu,uu,uu,uu,uu,uu,uu,uu,uu],hp := (upd (upd (upd (upd emp 9 (.box [.int .i64 c9_0,.int .i64 c9_1])) 8 (.arr (.pair (.int .i64) (.int .i64)) near8 false)) 7 (.arr (.pair (.int .i64) (.int .i64)) l7 false)) 5 (.box [.int .u8 steps5_0,.int .u8 steps5_1,.int .u8 steps5_2,.int .u8 steps5_3,.int .u8 steps5_4,.int .u8 steps5_5,.int .u8 steps5_6,.int .u8 steps5_7])) }
noncomputable def L14_3 (m : Nat) (first1 : Int) (num11 : Int) (den12 : Int) (i18 : Int) (f19 : Int) (fall20 : Int) (v172 : Int) (v173 : Int) (steps5_0 : Int) (steps5_1 : Int) (steps5_2 : Int) (steps5_3 : Int) (steps5_4 : Int) (steps5_5 : Int) (steps5_6 : Int) (steps5_7 : Int) (l7 : LP) (near8 : LP) (c9_0 : Int) (c9_1 : Int) : Option R14 := loopN (F14_17 n) m { tm := [uu,.c (.int .u8 first1),uu,uu,uu,.ptr 5 0,uu,.own 7 none false,.own 8 none false,.ptr 9 0,uu,.c (.int .i64 num11),.c (.int .i64 den12),uu,uu,uu,uu,uu,.c (.int .i64 i18),.c (.int .i64 f19),.c (.int .i64 fall20),uu,uu,uu,uu,uu,uu,uu,uu,uu,uu,uu,uu,uu,uu,uu,uu,uu,uu,uu,uu,uu,uu,uu,uu,uu,uu,uu,uu,uu,uu,uu,uu,uu,uu,uu,uu,uu,uu,uu,uu,uu,uu,uu,uu,uu,uu,uu,uu,uu,uu,uu,uu,uu,uu,uu,uu,uu,uu,uu,uu,uu,uu,uu,uu,uu,uu,uu,uu,uu,uu,uu,uu,uu,uu,uu,uu,uu,uu,uu,uu,uu,uu,uu,uu,uu,uu,uu,uu,uu,uu,uu,uu,uu,uu,uu,uu,uu,uu,uu,uu,uu,uu,uu,uu,uu,uu,uu,uu,uu,uu,uu,uu,uu,uu,uu,uu,uu,uu,uu,uu,uu,uu,uu,uu,uu,uu,uu,uu,uu,uu,uu,uu,uu,uu,uu,uu,uu,uu,uu,uu,uu,uu,uu,uu,uu,uu,uu,uu,uu,uu,uu,.c (.int .i64 v172),.c (.int .i64 v173),uu,uu,uu,uu,uu,uu,uu,uu,uu,uu,uu,uu,uu,uu,uu,uu,uu,uu,uu,uu,uu,uu,uu,uu,uu,uu,uu,uu,uu,uu,uu,uu,uu,uu,uu,uu,uu,uu,uu,uu,uu,uu,uu,uu,uu,uu,uu,uu,uu,uu,uu,uu,uu,uu,uu,uu,uu,uu,uu,uu,uu,uu,uu,uu,uu,uu,uu,uu,uu,uu,uu,uu,uu,uu,uu,uu,uu,uu,uu,uu,uu,uu,uu,uu,uu,uu,uu,uu,uu,uu,uu,uu,uu,uu,uu,uu,uu,uu,uu,uu,uu,uu,uu,uu,uu,uu,uu,uu,uu,uu,uu,uu,uu,uu,uu,uu,uu],hp := (upd (upd (upd (upd emp 9 (.box [.int .i64 c9_0,.int .i64 c9_1])) 8 (.arr (.pair (.int .i64) (.int .i64)) near8 false)) 7 (.arr (.pair (.int .i64) (.int .i64)) l7 false)) 5 (.box [.int .u8 steps5_0,.int .u8 steps5_1,.int .u8 steps5_2,.int .u8 steps5_3,.int .u8 steps5_4,.int .u8 steps5_5,.int .u8 steps5_6,.int .u8 steps5_7])) }
noncomputable def L14_4 (m1 : Nat) (first1 : Int) (num11 : Int) (den12 : Int) (i18 : Int) (f19 : Int) (fall20 : Int) (v172 : Int) (v173 : Int) (steps5_0 : Int) (steps5_1 : Int) (steps5_2 : Int) (steps5_3 : Int) (steps5_4 : Int) (steps5_5 : Int) (steps5_6 : Int) (steps5_7 : Int) (l7 : LP) (near8 : LP) (c9_0 : Int) (c9_1 : Int) : Option R14 := loopN (fun _ => (kq14_20 n m1)) n.2 { tm := [uu,.c (.int .u8 first1),uu,uu,uu,.ptr 5 0,uu,.own 7 none false,.own 8 none false,.ptr 9 0,uu,.c (.int .i64 num11),.c (.int .i64 den12),uu,uu,uu,uu,uu,.c (.int .i64 i18),.c (.int .i64 f19),.c (.int .i64 fall20),uu,uu,uu,uu,uu,uu,uu,uu,uu,uu,uu,uu,uu,uu,uu,uu,uu,uu,uu,uu,uu,uu,uu,uu,uu,uu,uu,uu,uu,uu,uu,uu,uu,uu,uu,uu,uu,uu,uu,uu,uu,uu,uu,uu,uu,uu,uu,uu,uu,uu,uu,uu,uu,uu,uu,uu,uu,uu,uu,uu,uu,uu,uu,uu,uu,uu,uu,uu,uu,uu,uu,uu,uu,uu,uu,uu,uu,uu,uu,uu,uu,uu,uu,uu,uu,uu,uu,uu,uu,uu,uu,uu,uu,uu,uu,uu,uu,uu,uu,uu,uu,uu,uu,uu,uu,uu,uu,uu,uu,uu,uu,uu,uu,uu,uu,uu,uu,uu,uu,uu,uu,uu,uu,uu,uu,uu,uu,uu,uu,uu,uu,uu,uu,uu,uu,uu,uu,uu,uu,uu,uu,uu,uu,uu,uu,uu,uu,uu,uu,uu,uu,.c (.int .i64 v172),.c (.int .i64 v173),uu,uu,uu,uu,uu,uu,uu,uu,uu,uu,uu,uu,uu,uu,uu,uu,uu,uu,uu,uu,uu,uu,uu,uu,uu,uu,uu,uu,uu,uu,uu,uu,uu,uu,uu,uu,uu,uu,uu,uu,uu,uu,uu,uu,uu,uu,uu,uu,uu,uu,uu,uu,uu,uu,uu,uu,uu,uu,uu,uu,uu,uu,uu,uu,uu,uu,uu,uu,uu,uu,uu,uu,uu,uu,uu,uu,uu,uu,uu,uu,uu,uu,uu,uu,uu,uu,uu,uu,uu,uu,uu,uu,uu,uu,uu,uu,uu,uu,uu,uu,uu,uu,uu,uu,uu,uu,uu,uu,uu,uu,uu,uu,uu,uu,uu,uu,uu],hp := (upd (upd (upd (upd emp 9 (.box [.int .i64 c9_0,.int .i64 c9_1])) 8 (.arr (.pair (.int .i64) (.int .i64)) near8 false)) 7 (.arr (.pair (.int .i64) (.int .i64)) l7 false)) 5 (.box [.int .u8 steps5_0,.int .u8 steps5_1,.int .u8 steps5_2,.int .u8 steps5_3,.int .u8 steps5_4,.int .u8 steps5_5,.int .u8 steps5_6,.int .u8 steps5_7])) }
noncomputable def L14_5 (m : Nat) (num11 : Int) (den12 : Int) (now22 : Int) (cost23 : Int) (v229 : Int) (v230 : Int) (steps5_0 : Int) (steps5_1 : Int) (steps5_2 : Int) (steps5_3 : Int) (steps5_4 : Int) (steps5_5 : Int) (steps5_6 : Int) (steps5_7 : Int) (l7 : LP) (near8 : LP) (other24 : LP) : Option R14 := loopN (F14_29 n) m { tm := [uu,uu,uu,uu,uu,.ptr 5 0,uu,.own 7 none false,.own 8 none false,uu,uu,.c (.int .i64 num11),.c (.int .i64 den12),uu,uu,uu,uu,uu,uu,uu,uu,uu,.c (.int .i64 now22),.c (.int .i64 cost23),.own 24 none false,uu,uu,uu,uu,uu,uu,uu,uu,uu,uu,uu,uu,uu,uu,uu,uu,uu,uu,uu,uu,uu,uu,uu,uu,uu,uu,uu,uu,uu,uu,uu,uu,uu,uu,uu,uu,uu,uu,uu,uu,uu,uu,uu,uu,uu,uu,uu,uu,uu,uu,uu,uu,uu,uu,uu,uu,uu,uu,uu,uu,uu,uu,uu,uu,uu,uu,uu,uu,uu,uu,uu,uu,uu,uu,uu,uu,uu,uu,uu,uu,uu,uu,uu,uu,uu,uu,uu,uu,uu,uu,uu,uu,uu,uu,uu,uu,uu,uu,uu,uu,uu,uu,uu,uu,uu,uu,uu,uu,uu,uu,uu,uu,uu,uu,uu,uu,uu,uu,uu,uu,uu,uu,uu,uu,uu,uu,uu,uu,uu,uu,uu,uu,uu,uu,uu,uu,uu,uu,uu,uu,uu,uu,uu,uu,uu,uu,uu,uu,uu,uu,uu,uu,uu,uu,uu,uu,uu,uu,uu,uu,uu,uu,uu,uu,uu,uu,uu,uu,uu,uu,uu,uu,uu,uu,uu,uu,uu,uu,uu,uu,uu,uu,uu,uu,uu,uu,uu,uu,uu,uu,uu,uu,uu,uu,uu,uu,uu,uu,uu,uu,uu,uu,uu,.own 7 none false,.c (.int .i64 v229),.c (.int .i64 v230),uu,uu,uu,uu,uu,uu,uu,uu,uu,uu,uu,uu,uu,uu,uu,uu,uu,uu,uu,uu,uu,uu,uu,uu,uu,uu,uu,uu,uu,uu,uu,uu,uu,uu,uu,uu,uu,uu,uu,uu,uu,uu,uu,uu,uu,uu,uu,uu,uu,uu,uu,uu,uu,uu,uu,uu,uu,uu,uu,uu],hp := (upd (upd (upd (upd emp 24 (.arr (.pair (.int .i64) (.int .i64)) other24 true)) 8 (.arr (.pair (.int .i64) (.int .i64)) near8 false)) 7 (.arr (.pair (.int .i64) (.int .i64)) l7 false)) 5 (.box [.int .u8 steps5_0,.int .u8 steps5_1,.int .u8 steps5_2,.int .u8 steps5_3,.int .u8 steps5_4,.int .u8 steps5_5,.int .u8 steps5_6,.int .u8 steps5_7])) }
theorem L14_1_eq (m1 : Nat) (first1 : Int) (e10 : Int) (num11 : Int) (den12 : Int) (begin13 : Int) (v38 : Int) (v39 : Int) (steps5_0 : Int) (steps5_1 : Int) (steps5_2 : Int) (steps5_3 : Int) (steps5_4 : Int) (steps5_5 : Int) (steps5_6 : Int) (steps5_7 : Int) (l7 : LP) (near8 : LP) (c9_0 : Int) (c9_1 : Int) : L14_1 n (m1 + 1) first1 e10 num11 den12 begin13 v38 v39 steps5_0 steps5_1 steps5_2 steps5_3 steps5_4 steps5_5 steps5_6 steps5_7 l7 near8 c9_0 c9_1 =
    (bif decide (v39 < v38) then (bif inB v39 l7.length then (idx l7 v39).bind fun x4' =>
        (bif inB v39 l7.length then (idx l7 v39).bind fun x5' =>
          (bif inB v39 l7.length then (idx l7 v39).bind fun x6' =>
            ((bif (decide (wr .i64 (v39 + 1) < (l7.length : Int)) == true) then (bif inB (wr .i64 (v39 + 1)) near8.length then (idx near8 (wr .i64 (v39 + 1))).bind fun x7' =>
                  (bif inB v39 near8.length then (idx near8 v39).bind fun x8' =>
                    some ((x7'.1 == x8'.1) && ((x7'.2 == x8'.2) && true))
                  else none)
                else none)
              else some false)).bind fun b9' =>
            (bif b9' then L14_2 n m1 first1 e10 (wr .i64 (num11 + (wr .i64 ((wr .i64 ((wr .i64 (x4'.2 * x5'.1)) * x6'.1)) * den12)))) den12 begin13 v38 v39 steps5_0 steps5_1 steps5_2 steps5_3 steps5_4 steps5_5 steps5_6 steps5_7 l7 near8 c9_0 c9_1
            else (bif bounds (some begin13) (some (wr .i64 (v39 + 1))) none l7.length then (S66 n ((l7.drop (0 + (Int.toNat begin13))).take ((Int.toNat (wr .i64 (v39 + 1))) - (Int.toNat begin13)))).bind fun r10' =>
                (S49 n den12 r10'.2).bind fun r11' =>
                (bif r11' == 0 then none
                else (bif r11' == 0 then none
                  else (bif r11' == 0 then none
                    else L14_2 n m1 first1 e10 (wr .i64 ((wr .i64 ((wr .i64 (num11 + (wr .i64 ((wr .i64 ((wr .i64 (x4'.2 * x5'.1)) * x6'.1)) * den12)))) * (wr .i64 (Int.tdiv r10'.2 r11')))) - (wr .i64 ((wr .i64 (r10'.1 * r10'.1)) * (wr .i64 (Int.tdiv den12 r11')))))) (wr .i64 ((wr .i64 (Int.tdiv den12 r11')) * r10'.2)) (wr .i64 (v39 + 1)) v38 v39 steps5_0 steps5_1 steps5_2 steps5_3 steps5_4 steps5_5 steps5_6 steps5_7 l7 near8 c9_0 c9_1)))
              else none))
          else none)
        else none)
      else none)
    else ((bif ((e10 != 0) == false) then some (decide (c9_1 < 1))
        else some true)).bind fun b12' =>
      ((bif (b12' == false) then some (decide (c9_1 > den12))
        else some true)).bind fun b13' =>
      ((bif (b13' == false) then some (decide (c9_0 < 0))
        else some true)).bind fun b14' =>
      ((bif (b14' == false) then some (decide (c9_0 > wr .i64 (720000 * c9_1)))
        else some true)).bind fun b15' =>
      ((bif (b15' == false) then (S49 n c9_0 c9_1).bind fun r16' =>
          some (r16' != 1)
        else some true)).bind fun b17' =>
      ((bif (b17' == false) then (bif c9_1 == 0 then none
          else some ((Int.tmod den12 c9_1) != 0))
        else some true)).bind fun b18' =>
      ((bif (b18' == false) then (bif c9_1 == 0 then none
          else some ((wr .i64 (c9_0 * (wr .i64 (Int.tdiv den12 c9_1)))) != num11))
        else some true)).bind fun b19' =>
      (bif b19' then some false
      else (S20 n l7).bind fun r20' =>
        L14_3 n n.1 first1 num11 den12 r20'.1 r20'.2 (-1) (wr .i64 ((l7.length : Int) - 1)) 0 steps5_0 steps5_1 steps5_2 steps5_3 steps5_4 steps5_5 steps5_6 steps5_7 l7 near8 c9_0 c9_1)) := by kernel_rfl
theorem L14_2_raw (m1 : Nat) (first1 : Int) (e10 : Int) (num11 : Int) (den12 : Int) (begin13 : Int) (v38 : Int) (v39 : Int) (steps5_0 : Int) (steps5_1 : Int) (steps5_2 : Int) (steps5_3 : Int) (steps5_4 : Int) (steps5_5 : Int) (steps5_6 : Int) (steps5_7 : Int) (l7 : LP) (near8 : LP) (c9_0 : Int) (c9_1 : Int) : (kq14_7 n m1) { tm := [uu,.c (.int .u8 first1),uu,uu,uu,.ptr 5 0,uu,.own 7 none false,.own 8 none false,.ptr 9 0,.c (.int .i64 e10),.c (.int .i64 num11),.c (.int .i64 den12),.c (.int .i64 begin13),uu,uu,uu,uu,uu,uu,uu,uu,uu,uu,uu,uu,uu,uu,uu,uu,uu,uu,uu,uu,uu,uu,uu,uu,.c (.int .i64 v38),.c (.int .i64 v39),uu,uu,uu,uu,uu,uu,uu,uu,uu,uu,uu,uu,uu,uu,uu,uu,uu,uu,uu,uu,uu,uu,uu,uu,uu,uu,uu,uu,uu,uu,uu,uu,uu,uu,uu,uu,uu,uu,uu,uu,uu,uu,uu,uu,uu,uu,uu,uu,uu,uu,uu,uu,uu,uu,uu,uu,uu,uu,uu,uu,uu,uu,uu,uu,uu,uu,uu,uu,uu,uu,uu,uu,uu,uu,uu,uu,uu,uu,uu,uu,uu,uu,uu,uu,uu,uu,uu,uu,uu,uu,uu,uu,uu,uu,uu,uu,uu,uu,uu,uu,uu,uu,uu,uu,uu,uu,uu,uu,uu,uu,uu,uu,uu,uu,uu,uu,uu,uu,uu,uu,uu,uu,uu,uu,uu,uu,uu,uu,uu,uu,uu,uu,uu,uu,uu,uu,uu,uu,uu,uu,uu,uu,uu,uu,uu,uu,uu,uu,uu,uu,uu,uu,uu,uu,uu,uu,uu,uu,uu,uu,uu,uu,uu,uu,uu,uu,uu,uu,uu,uu,uu,uu,uu,uu,uu,uu,uu,uu,uu,uu,uu,uu,uu,uu,uu,uu,uu,uu,uu,uu,uu,uu,uu,uu,uu,uu,uu,uu,uu,uu,uu,uu,uu,uu,uu,uu,uu,uu,uu,uu,uu,uu,uu,uu,uu,uu,uu,uu,uu,uu,uu,uu,uu,uu,uu,uu,uu,uu,uu,uu,uu,uu,uu,uu,uu,uu,uu,uu,uu,uu,uu,uu,uu,uu,uu,uu,uu,uu,uu,uu,uu],hp := (upd (upd (upd (upd emp 9 (.box [.int .i64 c9_0,.int .i64 c9_1])) 8 (.arr (.pair (.int .i64) (.int .i64)) near8 false)) 7 (.arr (.pair (.int .i64) (.int .i64)) l7 false)) 5 (.box [.int .u8 steps5_0,.int .u8 steps5_1,.int .u8 steps5_2,.int .u8 steps5_3,.int .u8 steps5_4,.int .u8 steps5_5,.int .u8 steps5_6,.int .u8 steps5_7])) } =
    L14_1 n m1 first1 e10 num11 den12 begin13 v38 (wr .i64 (v39 + 1)) steps5_0 steps5_1 steps5_2 steps5_3 steps5_4 steps5_5 steps5_6 steps5_7 l7 near8 c9_0 c9_1 := by kernel_rfl
theorem L14_3_eq (m1 : Nat) (first1 : Int) (num11 : Int) (den12 : Int) (i18 : Int) (f19 : Int) (fall20 : Int) (v172 : Int) (v173 : Int) (steps5_0 : Int) (steps5_1 : Int) (steps5_2 : Int) (steps5_3 : Int) (steps5_4 : Int) (steps5_5 : Int) (steps5_6 : Int) (steps5_7 : Int) (l7 : LP) (near8 : LP) (c9_0 : Int) (c9_1 : Int) : L14_3 n (m1 + 1) first1 num11 den12 i18 f19 fall20 v172 v173 steps5_0 steps5_1 steps5_2 steps5_3 steps5_4 steps5_5 steps5_6 steps5_7 l7 near8 c9_0 c9_1 =
    (bif decide (v173 < v172) then ((bif (decide (fall20 < 0) == true) then (bif inB v173 l7.length then (idx l7 v173).bind fun x21' =>
            (bif inB (wr .i64 (v173 + 1)) l7.length then (idx l7 (wr .i64 (v173 + 1))).bind fun x22' =>
              some (decide (x21'.1 > x22'.1))
            else none)
          else none)
        else some false)).bind fun b23' =>
      (bif b23' then L14_4 n m1 first1 num11 den12 i18 f19 v173 v172 v173 steps5_0 steps5_1 steps5_2 steps5_3 steps5_4 steps5_5 steps5_6 steps5_7 l7 near8 c9_0 c9_1
      else L14_4 n m1 first1 num11 den12 i18 f19 fall20 v172 v173 steps5_0 steps5_1 steps5_2 steps5_3 steps5_4 steps5_5 steps5_6 steps5_7 l7 near8 c9_0 c9_1)
    else ((bif (((decide (fall20 < 0)) != (c9_0 == 0)) == false) then ((bif (decide (fall20 < 0) == true) then ((bif ((f19 != 13) == false) then some (i18 != 0)
                else some true)).bind fun b24' =>
              some b24'
            else some false)).bind fun b25' =>
          some b25'
        else some true)).bind fun b26' =>
      ((bif (b26' == false) then ((bif (decide (fall20 ≥ 0) == true) then ((bif ((f19 != 0) == false) then some (i18 != fall20)
                else some true)).bind fun b27' =>
              some b27'
            else some false)).bind fun b28' =>
          some b28'
        else some true)).bind fun b29' =>
      (bif b29' then some false
      else (bif 40 == 0 then none
        else L14_5 n n.1 num11 den12 (Int.tmod (wr .i64 first1) 40) 0 (l7.length : Int) 0 steps5_0 steps5_1 steps5_2 steps5_3 steps5_4 steps5_5 steps5_6 steps5_7 l7 near8 []))) := by kernel_rfl
theorem L14_4_raw (m1 : Nat) (first1 : Int) (num11 : Int) (den12 : Int) (i18 : Int) (f19 : Int) (fall20 : Int) (v172 : Int) (v173 : Int) (steps5_0 : Int) (steps5_1 : Int) (steps5_2 : Int) (steps5_3 : Int) (steps5_4 : Int) (steps5_5 : Int) (steps5_6 : Int) (steps5_7 : Int) (l7 : LP) (near8 : LP) (c9_0 : Int) (c9_1 : Int) : (kq14_20 n m1) { tm := [uu,.c (.int .u8 first1),uu,uu,uu,.ptr 5 0,uu,.own 7 none false,.own 8 none false,.ptr 9 0,uu,.c (.int .i64 num11),.c (.int .i64 den12),uu,uu,uu,uu,uu,.c (.int .i64 i18),.c (.int .i64 f19),.c (.int .i64 fall20),uu,uu,uu,uu,uu,uu,uu,uu,uu,uu,uu,uu,uu,uu,uu,uu,uu,uu,uu,uu,uu,uu,uu,uu,uu,uu,uu,uu,uu,uu,uu,uu,uu,uu,uu,uu,uu,uu,uu,uu,uu,uu,uu,uu,uu,uu,uu,uu,uu,uu,uu,uu,uu,uu,uu,uu,uu,uu,uu,uu,uu,uu,uu,uu,uu,uu,uu,uu,uu,uu,uu,uu,uu,uu,uu,uu,uu,uu,uu,uu,uu,uu,uu,uu,uu,uu,uu,uu,uu,uu,uu,uu,uu,uu,uu,uu,uu,uu,uu,uu,uu,uu,uu,uu,uu,uu,uu,uu,uu,uu,uu,uu,uu,uu,uu,uu,uu,uu,uu,uu,uu,uu,uu,uu,uu,uu,uu,uu,uu,uu,uu,uu,uu,uu,uu,uu,uu,uu,uu,uu,uu,uu,uu,uu,uu,uu,uu,uu,uu,uu,uu,.c (.int .i64 v172),.c (.int .i64 v173),uu,uu,uu,uu,uu,uu,uu,uu,uu,uu,uu,uu,uu,uu,uu,uu,uu,uu,uu,uu,uu,uu,uu,uu,uu,uu,uu,uu,uu,uu,uu,uu,uu,uu,uu,uu,uu,uu,uu,uu,uu,uu,uu,uu,uu,uu,uu,uu,uu,uu,uu,uu,uu,uu,uu,uu,uu,uu,uu,uu,uu,uu,uu,uu,uu,uu,uu,uu,uu,uu,uu,uu,uu,uu,uu,uu,uu,uu,uu,uu,uu,uu,uu,uu,uu,uu,uu,uu,uu,uu,uu,uu,uu,uu,uu,uu,uu,uu,uu,uu,uu,uu,uu,uu,uu,uu,uu,uu,uu,uu,uu,uu,uu,uu,uu,uu,uu],hp := (upd (upd (upd (upd emp 9 (.box [.int .i64 c9_0,.int .i64 c9_1])) 8 (.arr (.pair (.int .i64) (.int .i64)) near8 false)) 7 (.arr (.pair (.int .i64) (.int .i64)) l7 false)) 5 (.box [.int .u8 steps5_0,.int .u8 steps5_1,.int .u8 steps5_2,.int .u8 steps5_3,.int .u8 steps5_4,.int .u8 steps5_5,.int .u8 steps5_6,.int .u8 steps5_7])) } =
    L14_3 n m1 first1 num11 den12 i18 f19 fall20 v172 (wr .i64 (v173 + 1)) steps5_0 steps5_1 steps5_2 steps5_3 steps5_4 steps5_5 steps5_6 steps5_7 l7 near8 c9_0 c9_1 := by kernel_rfl
theorem L14_5_eq (m1 : Nat) (num11 : Int) (den12 : Int) (now22 : Int) (cost23 : Int) (v229 : Int) (v230 : Int) (steps5_0 : Int) (steps5_1 : Int) (steps5_2 : Int) (steps5_3 : Int) (steps5_4 : Int) (steps5_5 : Int) (steps5_6 : Int) (steps5_7 : Int) (l7 : LP) (near8 : LP) (other24 : LP) : L14_5 n (m1 + 1) num11 den12 now22 cost23 v229 v230 steps5_0 steps5_1 steps5_2 steps5_3 steps5_4 steps5_5 steps5_6 steps5_7 l7 near8 other24 =
    (bif decide (v230 < v229) then (bif inB v230 l7.length then (idx l7 v230).bind fun x30' =>
        (bif inB v230 8 then (idx [steps5_0,steps5_1,steps5_2,steps5_3,steps5_4,steps5_5,steps5_6,steps5_7] v230).bind fun x31' =>
          (bif 30 == 0 then none
          else (S52 n (if (wr .i64 (now22 + (Int.tmod (wr .i64 x31') 30))) < 100 then (wr .i64 (now22 + (Int.tmod (wr .i64 x31') 30))) else 100) 1).bind fun r32' =>
            (bif decide (other24.length + [r32'].length ≤ lim) then L14_5 n m1 num11 den12 (if (wr .i64 (now22 + (Int.tmod (wr .i64 x31') 30))) < 100 then (wr .i64 (now22 + (Int.tmod (wr .i64 x31') 30))) else 100) (wr .i64 (cost23 + (wr .i64 ((wr .i64 (x30'.2 * (wr .i64 (x30'.1 - (if (wr .i64 (now22 + (Int.tmod (wr .i64 x31') 30))) < 100 then (wr .i64 (now22 + (Int.tmod (wr .i64 x31') 30))) else 100))))) * (wr .i64 (x30'.1 - (if (wr .i64 (now22 + (Int.tmod (wr .i64 x31') 30))) < 100 then (wr .i64 (now22 + (Int.tmod (wr .i64 x31') 30))) else 100))))))) v229 (wr .i64 (v230 + 1)) steps5_0 steps5_1 steps5_2 steps5_3 steps5_4 steps5_5 steps5_6 steps5_7 l7 near8 (other24 ++ [r32'])
            else none))
        else none)
      else none)
    else (S51 n other24 near8).bind fun r33' =>
      (bif r33' then ((bif (decide (wr .i64 (cost23 * den12) ≥ num11) == true) then some (((wr .i64 (cost23 * den12)) == num11) == (0 == 0))
          else some false)).bind fun b34' =>
        ((bif (b34' == true) then (S39 n l7 other24).bind fun r35' =>
            some (r35' == 0)
          else some false)).bind fun b36' =>
        ((bif (b36' == true) then (S18 n).bind fun r37' =>
            some r37'
          else some false)).bind fun b38' =>
        some b38'
      else ((bif (decide (wr .i64 (cost23 * den12) ≥ num11) == true) then some (((wr .i64 (cost23 * den12)) == num11) == (14 == 0))
          else some false)).bind fun b39' =>
        ((bif (b39' == true) then (S39 n l7 other24).bind fun r40' =>
            some (r40' == 14)
          else some false)).bind fun b41' =>
        ((bif (b41' == true) then (S18 n).bind fun r42' =>
            some r42'
          else some false)).bind fun b43' =>
        some b43')) := by kernel_rfl
noncomputable def S14 (a0 : Int × (Int × Int × Int × Int × Int × Int × Int × Int) × Int × Int × Int × Int × Int × Int × Int × Int) (first1 : Int) (steps2 : Int × Int × Int × Int × Int × Int × Int × Int) : Option R14 := run (E14 n) c14 an14 rt14 (fun _ _ => none) rt14 { tm := [.agg [.int .u8 a0.1,.int .u8 a0.2.1.1,.int .u8 a0.2.1.2.1,.int .u8 a0.2.1.2.2.1,.int .u8 a0.2.1.2.2.2.1,.int .u8 a0.2.1.2.2.2.2.1,.int .u8 a0.2.1.2.2.2.2.2.1,.int .u8 a0.2.1.2.2.2.2.2.2.1,.int .u8 a0.2.1.2.2.2.2.2.2.2,.int .u8 a0.2.2.1,.int .u8 a0.2.2.2.1,.int .u8 a0.2.2.2.2.1,.int .u8 a0.2.2.2.2.2.1,.int .u8 a0.2.2.2.2.2.2.1,.int .u8 a0.2.2.2.2.2.2.2.1,.int .u8 a0.2.2.2.2.2.2.2.2.1,.int .u8 a0.2.2.2.2.2.2.2.2.2],.c (.int .u8 first1),.agg [.int .u8 steps2.1,.int .u8 steps2.2.1,.int .u8 steps2.2.2.1,.int .u8 steps2.2.2.2.1,.int .u8 steps2.2.2.2.2.1,.int .u8 steps2.2.2.2.2.2.1,.int .u8 steps2.2.2.2.2.2.2.1,.int .u8 steps2.2.2.2.2.2.2.2],uu,uu,uu,uu,uu,uu,uu,uu,uu,uu,uu,uu,uu,uu,uu,uu,uu,uu,uu,uu,uu,uu,uu,uu,uu,uu,uu,uu,uu,uu,uu,uu,uu,uu,uu,uu,uu,uu,uu,uu,uu,uu,uu,uu,uu,uu,uu,uu,uu,uu,uu,uu,uu,uu,uu,uu,uu,uu,uu,uu,uu,uu,uu,uu,uu,uu,uu,uu,uu,uu,uu,uu,uu,uu,uu,uu,uu,uu,uu,uu,uu,uu,uu,uu,uu,uu,uu,uu,uu,uu,uu,uu,uu,uu,uu,uu,uu,uu,uu,uu,uu,uu,uu,uu,uu,uu,uu,uu,uu,uu,uu,uu,uu,uu,uu,uu,uu,uu,uu,uu,uu,uu,uu,uu,uu,uu,uu,uu,uu,uu,uu,uu,uu,uu,uu,uu,uu,uu,uu,uu,uu,uu,uu,uu,uu,uu,uu,uu,uu,uu,uu,uu,uu,uu,uu,uu,uu,uu,uu,uu,uu,uu,uu,uu,uu,uu,uu,uu,uu,uu,uu,uu,uu,uu,uu,uu,uu,uu,uu,uu,uu,uu,uu,uu,uu,uu,uu,uu,uu,uu,uu,uu,uu,uu,uu,uu,uu,uu,uu,uu,uu,uu,uu,uu,uu,uu,uu,uu,uu,uu,uu,uu,uu,uu,uu,uu,uu,uu,uu,uu,uu,uu,uu,uu,uu,uu,uu,uu,uu,uu,uu,uu,uu,uu,uu,uu,uu,uu,uu,uu,uu,uu,uu,uu,uu,uu,uu,uu,uu,uu,uu,uu,uu,uu,uu,uu,uu,uu,uu,uu,uu,uu,uu,uu,uu,uu,uu,uu,uu,uu,uu,uu,uu,uu,uu,uu,uu,uu,uu,uu,uu,uu,uu,uu,uu,uu,uu,uu],hp := emp }
theorem S14_eq (a0 : Int × (Int × Int × Int × Int × Int × Int × Int × Int) × Int × Int × Int × Int × Int × Int × Int × Int) (first1 : Int) (steps2 : Int × Int × Int × Int × Int × Int × Int × Int) : S14 n a0 first1 steps2 =
    (S47 n a0 8 100).bind fun r1' =>
    (S65 n r1').bind fun r2' =>
    (S35 n r1').bind fun r3' =>
    L14_1 n n.1 first1 r3'.2 0 1 0 (r1'.length : Int) 0 steps2.1 steps2.2.1 steps2.2.2.1 steps2.2.2.2.1 steps2.2.2.2.2.1 steps2.2.2.2.2.2.1 steps2.2.2.2.2.2.2.1 steps2.2.2.2.2.2.2.2 r1' r2' r3'.1.1 r3'.1.2 := by kernel_rfl
theorem S14_run (xs : pksDen pk14) : S14 n xs.1 xs.2.1 xs.2.2.1 = runG (E14 n) noScope c14 an14 (rtG rk14) (fun _ _ => none) (rtG rk14) (st0 pk14 xs Try.f14.ntmps) := by kernel_rfl
noncomputable def P14 := phiOf pk14 rk14 (fun xs => S14 n xs.1 xs.2.1 xs.2.2.1)
theorem env14 : EnvOK Try.prog (E14 n) := envOK0 (consPhi_ok (FC18 n) call18 (consPhi_ok (FC20 n) call20 (consPhi_ok (FC35 n) call35 (consPhi_ok (FC39 n) call39 (consPhi_ok (FC47 n) call47 (consPhi_ok (FC49 n) call49 (consPhi_ok (FC51 n) call51 (consPhi_ok (FC52 n) call52 (consPhi_ok (FC65 n) call65 (consPhi_ok (FC66 n) call66 noPhi_ok)))))))))) rfl rfl
theorem par14 : EnvPar (E14 n) := envPar0 (consPhi_par phiOf_Par1 (consPhi_par phiOf_Par1 (consPhi_par phiOf_Par1 (consPhi_par phiOf_Par1 (consPhi_par phiOf_Par1 (consPhi_par phiOf_Par1 (consPhi_par phiOf_Par1 (consPhi_par phiOf_Par1 (consPhi_par phiOf_Par1 (consPhi_par phiOf_Par1 noPhi_par)))))))))) rfl
theorem FC14 : FCs Try.prog 14 (P14 n) := phiOf_FCs fun xs r h vs hv => FC.of_runG tabOK eqsOK (env14 n) (par14 n) mixed (fun _ => noScope_ok) Try.func14 (c := c14) (an := an14) (pks := pk14) (rks := rk14) (by kernel_rfl) (by kernel_rfl) hv ((S14_run n xs).symm.trans h)
/-D 14 -/
abbrev YLG141 := Int → Int → Int → Int → Int → Int → Int → Int → Int → Int → Int → Int → Int → Int → Int → LP → LP → Int → Int → Option R14
noncomputable def DL14_2 (n : Nat × Nat) (f1 : YLG141) (first1 : Int) (e10 : Int) (num11 : Int) (den12 : Int) (begin13 : Int) (v38 : Int) (v39 : Int) (steps5_0 : Int) (steps5_1 : Int) (steps5_2 : Int) (steps5_3 : Int) (steps5_4 : Int) (steps5_5 : Int) (steps5_6 : Int) (steps5_7 : Int) (l7 : LP) (near8 : LP) (c9_0 : Int) (c9_1 : Int) : Option R14 :=
    f1 first1 e10 num11 den12 begin13 v38 (wr .i64 (v39 + 1)) steps5_0 steps5_1 steps5_2 steps5_3 steps5_4 steps5_5 steps5_6 steps5_7 l7 near8 c9_0 c9_1
theorem DL14_2_eq (hn : n.2 = 1) (m1 : Nat) : L14_2 n m1 = DL14_2 n (L14_1 n m1) := by
  funext first1 e10 num11 den12 begin13 v38 v39 steps5_0 steps5_1 steps5_2 steps5_3 steps5_4 steps5_5 steps5_6 steps5_7 l7 near8 c9_0 c9_1; refine ((held_eq hn _).trans (L14_2_raw n m1 first1 e10 num11 den12 begin13 v38 v39 steps5_0 steps5_1 steps5_2 steps5_3 steps5_4 steps5_5 steps5_6 steps5_7 l7 near8 c9_0 c9_1)).trans ?_
  unfold DL14_2
  (try simp only [S18_D n hn,S20_D n hn,S35_D n hn,S39_D n hn,S47_D n hn,S49_D n hn,S51_D n hn,S52_D n hn,S65_D n hn,S66_D n hn]) <;> first | with_reducible rfl | rfl
abbrev YLG142 := Int → Int → Int → Int → Int → Int → Int → Int → Int → Int → Int → Int → Int → Int → Int → Int → LP → LP → Int → Int → Option R14
noncomputable def DL14_4 (n : Nat × Nat) (f1 : YLG142) (first1 : Int) (num11 : Int) (den12 : Int) (i18 : Int) (f19 : Int) (fall20 : Int) (v172 : Int) (v173 : Int) (steps5_0 : Int) (steps5_1 : Int) (steps5_2 : Int) (steps5_3 : Int) (steps5_4 : Int) (steps5_5 : Int) (steps5_6 : Int) (steps5_7 : Int) (l7 : LP) (near8 : LP) (c9_0 : Int) (c9_1 : Int) : Option R14 :=
    f1 first1 num11 den12 i18 f19 fall20 v172 (wr .i64 (v173 + 1)) steps5_0 steps5_1 steps5_2 steps5_3 steps5_4 steps5_5 steps5_6 steps5_7 l7 near8 c9_0 c9_1
theorem DL14_4_eq (hn : n.2 = 1) (m1 : Nat) : L14_4 n m1 = DL14_4 n (L14_3 n m1) := by
  funext first1 num11 den12 i18 f19 fall20 v172 v173 steps5_0 steps5_1 steps5_2 steps5_3 steps5_4 steps5_5 steps5_6 steps5_7 l7 near8 c9_0 c9_1; refine ((held_eq hn _).trans (L14_4_raw n m1 first1 num11 den12 i18 f19 fall20 v172 v173 steps5_0 steps5_1 steps5_2 steps5_3 steps5_4 steps5_5 steps5_6 steps5_7 l7 near8 c9_0 c9_1)).trans ?_
  unfold DL14_4
  (try simp only [DL14_2_eq n hn,S18_D n hn,S20_D n hn,S35_D n hn,S39_D n hn,S47_D n hn,S49_D n hn,S51_D n hn,S52_D n hn,S65_D n hn,S66_D n hn]) <;> first | with_reducible rfl | rfl
abbrev YLG143 := Int → Int → Int → Int → Int → Int → Int → Int → Int → Int → Int → Int → Int → Int → LP → LP → LP → Option R14
noncomputable def DF14_5 (f1 : YLG143) (num11 : Int) (den12 : Int) (now22 : Int) (cost23 : Int) (v229 : Int) (v230 : Int) (steps5_0 : Int) (steps5_1 : Int) (steps5_2 : Int) (steps5_3 : Int) (steps5_4 : Int) (steps5_5 : Int) (steps5_6 : Int) (steps5_7 : Int) (l7 : LP) (near8 : LP) (other24 : LP) : Option R14 :=
    (bif decide (v230 < v229) then (bif inB v230 l7.length then (idx l7 v230).bind fun x30' =>
        (bif inB v230 8 then (idx [steps5_0,steps5_1,steps5_2,steps5_3,steps5_4,steps5_5,steps5_6,steps5_7] v230).bind fun x31' =>
          (bif 30 == 0 then none
          else (D52 n (if (wr .i64 (now22 + (Int.tmod (wr .i64 x31') 30))) < 100 then (wr .i64 (now22 + (Int.tmod (wr .i64 x31') 30))) else 100) 1).bind fun r32' =>
            (bif decide (other24.length + [r32'].length ≤ lim) then f1 num11 den12 (if (wr .i64 (now22 + (Int.tmod (wr .i64 x31') 30))) < 100 then (wr .i64 (now22 + (Int.tmod (wr .i64 x31') 30))) else 100) (wr .i64 (cost23 + (wr .i64 ((wr .i64 (x30'.2 * (wr .i64 (x30'.1 - (if (wr .i64 (now22 + (Int.tmod (wr .i64 x31') 30))) < 100 then (wr .i64 (now22 + (Int.tmod (wr .i64 x31') 30))) else 100))))) * (wr .i64 (x30'.1 - (if (wr .i64 (now22 + (Int.tmod (wr .i64 x31') 30))) < 100 then (wr .i64 (now22 + (Int.tmod (wr .i64 x31') 30))) else 100))))))) v229 (wr .i64 (v230 + 1)) steps5_0 steps5_1 steps5_2 steps5_3 steps5_4 steps5_5 steps5_6 steps5_7 l7 near8 (other24 ++ [r32'])
            else none))
        else none)
      else none)
    else (D51 n other24 near8).bind fun r33' =>
      (bif r33' then ((bif (decide (wr .i64 (cost23 * den12) ≥ num11) == true) then some (((wr .i64 (cost23 * den12)) == num11) == (0 == 0))
          else some false)).bind fun b34' =>
        ((bif (b34' == true) then (D39 n l7 other24).bind fun r35' =>
            some (r35' == 0)
          else some false)).bind fun b36' =>
        ((bif (b36' == true) then (D18 n).bind fun r37' =>
            some r37'
          else some false)).bind fun b38' =>
        some b38'
      else ((bif (decide (wr .i64 (cost23 * den12) ≥ num11) == true) then some (((wr .i64 (cost23 * den12)) == num11) == (14 == 0))
          else some false)).bind fun b39' =>
        ((bif (b39' == true) then (D39 n l7 other24).bind fun r40' =>
            some (r40' == 14)
          else some false)).bind fun b41' =>
        ((bif (b41' == true) then (D18 n).bind fun r42' =>
            some r42'
          else some false)).bind fun b43' =>
        some b43'))
noncomputable def DL14_5 (m : Nat) : YLG143 := Nat.rec (motive := fun _ => YLG143) (fun _ _ _ _ _ _ _ _ _ _ _ _ _ _ _ _ _ => none) (fun _ ih => DF14_5 n ih) m
theorem DL14_5_succ (m : Nat) : DL14_5 n (m + 1) = DF14_5 n (DL14_5 n m) := rfl
theorem DL14_5_eq (n : Nat × Nat) (hn : n.2 = 1) : ∀ m,L14_5 n m = DL14_5 n m
  | 0 => by funext num11 den12 now22 cost23 v229 v230 steps5_0 steps5_1 steps5_2 steps5_3 steps5_4 steps5_5 steps5_6 steps5_7 l7 near8 other24; kernel_rfl
  | m + 1 => by
    have ih := DL14_5_eq n hn m
    funext num11 den12 now22 cost23 v229 v230 steps5_0 steps5_1 steps5_2 steps5_3 steps5_4 steps5_5 steps5_6 steps5_7 l7 near8 other24; refine (L14_5_eq n m num11 den12 now22 cost23 v229 v230 steps5_0 steps5_1 steps5_2 steps5_3 steps5_4 steps5_5 steps5_6 steps5_7 l7 near8 other24).trans ?_
    rw [DL14_5_succ]
    unfold DF14_5
    (try simp only [ih,DL14_2_eq n hn,DL14_4_eq n hn,S18_D n hn,S20_D n hn,S35_D n hn,S39_D n hn,S47_D n hn,S49_D n hn,S51_D n hn,S52_D n hn,S65_D n hn,S66_D n hn]) <;> first | with_reducible rfl | rfl
noncomputable def DF14_3 (f1 : YLG142) (first1 : Int) (num11 : Int) (den12 : Int) (i18 : Int) (f19 : Int) (fall20 : Int) (v172 : Int) (v173 : Int) (steps5_0 : Int) (steps5_1 : Int) (steps5_2 : Int) (steps5_3 : Int) (steps5_4 : Int) (steps5_5 : Int) (steps5_6 : Int) (steps5_7 : Int) (l7 : LP) (near8 : LP) (c9_0 : Int) (c9_1 : Int) : Option R14 :=
    (bif decide (v173 < v172) then ((bif (decide (fall20 < 0) == true) then (bif inB v173 l7.length then (idx l7 v173).bind fun x21' =>
            (bif inB (wr .i64 (v173 + 1)) l7.length then (idx l7 (wr .i64 (v173 + 1))).bind fun x22' =>
              some (decide (x21'.1 > x22'.1))
            else none)
          else none)
        else some false)).bind fun b23' =>
      (bif b23' then DL14_4 n f1 first1 num11 den12 i18 f19 v173 v172 v173 steps5_0 steps5_1 steps5_2 steps5_3 steps5_4 steps5_5 steps5_6 steps5_7 l7 near8 c9_0 c9_1
      else DL14_4 n f1 first1 num11 den12 i18 f19 fall20 v172 v173 steps5_0 steps5_1 steps5_2 steps5_3 steps5_4 steps5_5 steps5_6 steps5_7 l7 near8 c9_0 c9_1)
    else ((bif (((decide (fall20 < 0)) != (c9_0 == 0)) == false) then ((bif (decide (fall20 < 0) == true) then ((bif ((f19 != 13) == false) then some (i18 != 0)
                else some true)).bind fun b24' =>
              some b24'
            else some false)).bind fun b25' =>
          some b25'
        else some true)).bind fun b26' =>
      ((bif (b26' == false) then ((bif (decide (fall20 ≥ 0) == true) then ((bif ((f19 != 0) == false) then some (i18 != fall20)
                else some true)).bind fun b27' =>
              some b27'
            else some false)).bind fun b28' =>
          some b28'
        else some true)).bind fun b29' =>
      (bif b29' then some false
      else (bif 40 == 0 then none
        else DL14_5 n n.1 num11 den12 (Int.tmod (wr .i64 first1) 40) 0 (l7.length : Int) 0 steps5_0 steps5_1 steps5_2 steps5_3 steps5_4 steps5_5 steps5_6 steps5_7 l7 near8 [])))
noncomputable def DL14_3 (m : Nat) : YLG142 := Nat.rec (motive := fun _ => YLG142) (fun _ _ _ _ _ _ _ _ _ _ _ _ _ _ _ _ _ _ _ _ => none) (fun _ ih => DF14_3 n ih) m
theorem DL14_3_succ (m : Nat) : DL14_3 n (m + 1) = DF14_3 n (DL14_3 n m) := rfl
theorem DL14_3_eq (n : Nat × Nat) (hn : n.2 = 1) : ∀ m,L14_3 n m = DL14_3 n m
  | 0 => by funext first1 num11 den12 i18 f19 fall20 v172 v173 steps5_0 steps5_1 steps5_2 steps5_3 steps5_4 steps5_5 steps5_6 steps5_7 l7 near8 c9_0 c9_1; kernel_rfl
  | m + 1 => by
    have ih := DL14_3_eq n hn m
    funext first1 num11 den12 i18 f19 fall20 v172 v173 steps5_0 steps5_1 steps5_2 steps5_3 steps5_4 steps5_5 steps5_6 steps5_7 l7 near8 c9_0 c9_1; refine (L14_3_eq n m first1 num11 den12 i18 f19 fall20 v172 v173 steps5_0 steps5_1 steps5_2 steps5_3 steps5_4 steps5_5 steps5_6 steps5_7 l7 near8 c9_0 c9_1).trans ?_
    rw [DL14_3_succ]
    unfold DF14_3
    (try simp only [ih,DL14_2_eq n hn,DL14_4_eq n hn,DL14_5_eq n hn,S18_D n hn,S20_D n hn,S35_D n hn,S39_D n hn,S47_D n hn,S49_D n hn,S51_D n hn,S52_D n hn,S65_D n hn,S66_D n hn]) <;> first | with_reducible rfl | rfl
noncomputable def DF14_1 (f1 : YLG141) (first1 : Int) (e10 : Int) (num11 : Int) (den12 : Int) (begin13 : Int) (v38 : Int) (v39 : Int) (steps5_0 : Int) (steps5_1 : Int) (steps5_2 : Int) (steps5_3 : Int) (steps5_4 : Int) (steps5_5 : Int) (steps5_6 : Int) (steps5_7 : Int) (l7 : LP) (near8 : LP) (c9_0 : Int) (c9_1 : Int) : Option R14 :=
    (bif decide (v39 < v38) then (bif inB v39 l7.length then (idx l7 v39).bind fun x4' =>
        (bif inB v39 l7.length then (idx l7 v39).bind fun x5' =>
          (bif inB v39 l7.length then (idx l7 v39).bind fun x6' =>
            ((bif (decide (wr .i64 (v39 + 1) < (l7.length : Int)) == true) then (bif inB (wr .i64 (v39 + 1)) near8.length then (idx near8 (wr .i64 (v39 + 1))).bind fun x7' =>
                  (bif inB v39 near8.length then (idx near8 v39).bind fun x8' =>
                    some ((x7'.1 == x8'.1) && ((x7'.2 == x8'.2) && true))
                  else none)
                else none)
              else some false)).bind fun b9' =>
            (bif b9' then DL14_2 n f1 first1 e10 (wr .i64 (num11 + (wr .i64 ((wr .i64 ((wr .i64 (x4'.2 * x5'.1)) * x6'.1)) * den12)))) den12 begin13 v38 v39 steps5_0 steps5_1 steps5_2 steps5_3 steps5_4 steps5_5 steps5_6 steps5_7 l7 near8 c9_0 c9_1
            else (bif bounds (some begin13) (some (wr .i64 (v39 + 1))) none l7.length then (D66 n ((l7.drop (0 + (Int.toNat begin13))).take ((Int.toNat (wr .i64 (v39 + 1))) - (Int.toNat begin13)))).bind fun r10' =>
                (D49 n den12 r10'.2).bind fun r11' =>
                (bif r11' == 0 then none
                else (bif r11' == 0 then none
                  else (bif r11' == 0 then none
                    else DL14_2 n f1 first1 e10 (wr .i64 ((wr .i64 ((wr .i64 (num11 + (wr .i64 ((wr .i64 ((wr .i64 (x4'.2 * x5'.1)) * x6'.1)) * den12)))) * (wr .i64 (Int.tdiv r10'.2 r11')))) - (wr .i64 ((wr .i64 (r10'.1 * r10'.1)) * (wr .i64 (Int.tdiv den12 r11')))))) (wr .i64 ((wr .i64 (Int.tdiv den12 r11')) * r10'.2)) (wr .i64 (v39 + 1)) v38 v39 steps5_0 steps5_1 steps5_2 steps5_3 steps5_4 steps5_5 steps5_6 steps5_7 l7 near8 c9_0 c9_1)))
              else none))
          else none)
        else none)
      else none)
    else ((bif ((e10 != 0) == false) then some (decide (c9_1 < 1))
        else some true)).bind fun b12' =>
      ((bif (b12' == false) then some (decide (c9_1 > den12))
        else some true)).bind fun b13' =>
      ((bif (b13' == false) then some (decide (c9_0 < 0))
        else some true)).bind fun b14' =>
      ((bif (b14' == false) then some (decide (c9_0 > wr .i64 (720000 * c9_1)))
        else some true)).bind fun b15' =>
      ((bif (b15' == false) then (D49 n c9_0 c9_1).bind fun r16' =>
          some (r16' != 1)
        else some true)).bind fun b17' =>
      ((bif (b17' == false) then (bif c9_1 == 0 then none
          else some ((Int.tmod den12 c9_1) != 0))
        else some true)).bind fun b18' =>
      ((bif (b18' == false) then (bif c9_1 == 0 then none
          else some ((wr .i64 (c9_0 * (wr .i64 (Int.tdiv den12 c9_1)))) != num11))
        else some true)).bind fun b19' =>
      (bif b19' then some false
      else (D20 n l7).bind fun r20' =>
        DL14_3 n n.1 first1 num11 den12 r20'.1 r20'.2 (-1) (wr .i64 ((l7.length : Int) - 1)) 0 steps5_0 steps5_1 steps5_2 steps5_3 steps5_4 steps5_5 steps5_6 steps5_7 l7 near8 c9_0 c9_1))
noncomputable def DL14_1 (m : Nat) : YLG141 := Nat.rec (motive := fun _ => YLG141) (fun _ _ _ _ _ _ _ _ _ _ _ _ _ _ _ _ _ _ _ => none) (fun _ ih => DF14_1 n ih) m
theorem DL14_1_succ (m : Nat) : DL14_1 n (m + 1) = DF14_1 n (DL14_1 n m) := rfl
theorem DL14_1_eq (n : Nat × Nat) (hn : n.2 = 1) : ∀ m,L14_1 n m = DL14_1 n m
  | 0 => by funext first1 e10 num11 den12 begin13 v38 v39 steps5_0 steps5_1 steps5_2 steps5_3 steps5_4 steps5_5 steps5_6 steps5_7 l7 near8 c9_0 c9_1; kernel_rfl
  | m + 1 => by
    have ih := DL14_1_eq n hn m
    funext first1 e10 num11 den12 begin13 v38 v39 steps5_0 steps5_1 steps5_2 steps5_3 steps5_4 steps5_5 steps5_6 steps5_7 l7 near8 c9_0 c9_1; refine (L14_1_eq n m first1 e10 num11 den12 begin13 v38 v39 steps5_0 steps5_1 steps5_2 steps5_3 steps5_4 steps5_5 steps5_6 steps5_7 l7 near8 c9_0 c9_1).trans ?_
    rw [DL14_1_succ]
    unfold DF14_1
    (try simp only [ih,DL14_2_eq n hn,DL14_4_eq n hn,DL14_5_eq n hn,DL14_3_eq n hn,S18_D n hn,S20_D n hn,S35_D n hn,S39_D n hn,S47_D n hn,S49_D n hn,S51_D n hn,S52_D n hn,S65_D n hn,S66_D n hn]) <;> first | with_reducible rfl | rfl
noncomputable def D14 (a0 : Int × (Int × Int × Int × Int × Int × Int × Int × Int) × Int × Int × Int × Int × Int × Int × Int × Int) (first1 : Int) (steps2 : Int × Int × Int × Int × Int × Int × Int × Int) : Option R14 :=
    (D47 n a0 8 100).bind fun r1' =>
    (D65 n r1').bind fun r2' =>
    (D35 n r1').bind fun r3' =>
    DL14_1 n n.1 first1 r3'.2 0 1 0 (r1'.length : Int) 0 steps2.1 steps2.2.1 steps2.2.2.1 steps2.2.2.2.1 steps2.2.2.2.2.1 steps2.2.2.2.2.2.1 steps2.2.2.2.2.2.2.1 steps2.2.2.2.2.2.2.2 r1' r2' r3'.1.1 r3'.1.2
theorem S14_D (hn : n.2 = 1) : S14 n = D14 n := by
  funext a0 first1 steps2; refine (S14_eq n a0 first1 steps2).trans ?_
  unfold D14
  (try simp only [DL14_2_eq n hn,DL14_4_eq n hn,DL14_5_eq n hn,DL14_3_eq n hn,DL14_1_eq n hn,S18_D n hn,S20_D n hn,S35_D n hn,S39_D n hn,S47_D n hn,S49_D n hn,S51_D n hn,S52_D n hn,S65_D n hn,S66_D n hn]) <;> first | with_reducible rfl | rfl
end Go.Proofs.Ytombednapelokaa
