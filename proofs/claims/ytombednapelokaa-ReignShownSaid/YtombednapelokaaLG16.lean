/- The law: written by program -/
import Derived.Test.YtombednapelokaaViS
import Derived.Test.YtombednapelokaaProg
import Derived.KernelRfl
import Derived.WalkKit
import Derived.Test.YtombednapelokaaDel
import Derived.Test.YtombednapelokaaCD1
set_option linter.unusedVariables false
set_option linter.unusedSimpArgs false
set_option maxRecDepth 100000
namespace Go.Proofs.Ytombednapelokaa
open Go.Vi
variable (n : Nat × Nat)
abbrev R16 := Bool
abbrev K16 := St → Option R16
noncomputable def c16 : Code := bodyOf Try.f16
noncomputable def an16 : Ann := (.s .l (.s .l (.s .l (.s .l (.s (.s .l (.j [3,9,11,78,79,80,92,93,94,95,96,97,98,99,100,101,102,172,173,174,175,176,177,178,179,180,181,182,183,184,185,186,187,188,189,190,191,192,193,202] (.j [3,6,9,10,11,30,31,32,78,79,80,92,93,94,95,96,97,98,99,100,101,102,172,173,174,175,176,177,178,179,180,181,182,183,184,185,186,187,188,189,190,191,192,193,202] (.s .l (.s (.j [3,6,9,10,11,30,31,32,78,79,80,92,93,94,95,96,97,98,99,100,101,102,172,173,174,175,176,177,178,179,180,181,182,183,184,185,186,187,188,189,190,191,192,193,202] .l .l) (.s (.j [3,6,9,10,11,30,31,32,78,79,80,92,93,94,95,96,97,98,99,100,101,102,172,173,174,175,176,177,178,179,180,181,182,183,184,185,186,187,188,189,190,191,192,193,202] (.s .l (.s (.s .l (.j [3,6,9,10,11,13,30,31,32,78,79,80,92,93,94,95,96,97,98,99,100,101,102,172,173,174,175,176,177,178,179,180,181,182,183,184,185,186,187,188,189,190,191,192,193,202] .l .l)) .l)) .l) .l))) .l) .l)) (.s .l (.s .l (.s (.s .l (.j [9,11,14,78,79,80,92,93,94,95,96,97,98,99,100,101,102,172,173,174,175,176,177,178,179,180,181,182,183,184,185,186,187,188,189,190,191,192,193,202] .l .l)) (.s (.s .l (.j [9,11,14,92,93,94,95,96,97,98,99,100,101,102,172,173,174,175,176,177,178,179,180,181,182,183,184,185,186,187,188,189,190,191,192,193,202] (.j [9,11,14,69,70,71,78,79,80,92,93,94,95,96,97,98,99,100,101,102,172,173,174,175,176,177,178,179,180,181,182,183,184,185,186,187,188,189,190,191,192,193,202] (.s .l (.s (.j [9,11,14,69,70,71,78,79,80,92,93,94,95,96,97,98,99,100,101,102,172,173,174,175,176,177,178,179,180,181,182,183,184,185,186,187,188,189,190,191,192,193,202] .l .l) (.j [] (.j [9,11,14,69,70,71,78,79,80,92,93,94,95,96,97,98,99,100,101,102,172,173,174,175,176,177,178,179,180,181,182,183,184,185,186,187,188,189,190,191,192,193,202] (.s .l (.s .l (.j [9,11,14,69,70,71,78,79,80,92,93,94,95,96,97,98,99,100,101,102,172,173,174,175,176,177,178,179,180,181,182,183,184,185,186,187,188,189,190,191,192,193,202] .l .l))) .l) .l))) .l) .l)) (.s (.s .l (.j [9,11,14,172,173,174,175,176,177,178,179,180,181,182,183,184,185,186,187,188,189,190,191,192,193,202] (.j [9,11,14,17,92,93,94,95,96,97,98,99,100,101,102,172,173,174,175,176,177,178,179,180,181,182,183,184,185,186,187,188,189,190,191,192,193,202] (.s (.s .l (.j [9,11,14,17,92,93,94,95,96,97,98,99,100,101,102,172,173,174,175,176,177,178,179,180,181,182,183,184,185,186,187,188,189,190,191,192,193,202] .l .l)) (.j [] (.j [9,11,14,17,92,93,94,95,96,97,98,99,100,101,102,172,173,174,175,176,177,178,179,180,181,182,183,184,185,186,187,188,189,190,191,192,193,202] (.s .l (.j [9,11,14,17,92,93,94,95,96,97,98,99,100,101,102,172,173,174,175,176,177,178,179,180,181,182,183,184,185,186,187,188,189,190,191,192,193,202] .l .l)) .l) .l)) .l) .l)) (.s (.s .l (.j [9,11,14,202] (.s .l (.s .l (.j [9,11,14,202] (.j [9,11,14,18,19,106,107,108,172,173,174,175,176,177,178,179,180,181,182,183,184,185,186,187,188,189,190,191,192,193,202] (.s .l (.s (.j [9,11,14,18,19,106,107,108,172,173,174,175,176,177,178,179,180,181,182,183,184,185,186,187,188,189,190,191,192,193,202] .l .l) (.s (.j [9,11,14,18,19,106,107,108,172,173,174,175,176,177,178,179,180,181,182,183,184,185,186,187,188,189,190,191,192,193,202] (.s .l (.s .l (.s .l (.s .l (.s .l (.s .l (.j [9,11,14,18,19,106,107,108,172,173,174,175,176,177,178,179,180,181,182,183,184,185,186,187,188,189,190,191,192,193,202] .l .l))))))) .l) .l))) .l) .l))) .l)) .l)))))))))))
def pk16 : List PK := [.c (.pair (.int .u8) (.pair (.pair (.int .u8) (.pair (.int .u8) (.pair (.int .u8) (.pair (.int .u8) (.pair (.int .u8) (.pair (.int .u8) (.pair (.int .u8) (.int .u8)))))))) (.pair (.int .u8) (.pair (.int .u8) (.pair (.int .u8) (.pair (.int .u8) (.pair (.int .u8) (.pair (.int .u8) (.pair (.int .u8) (.int .u8)))))))))),.c (.int .u8),.c (.pair (.int .u8) (.pair (.int .u8) (.pair (.int .u8) (.pair (.int .u8) (.pair (.int .u8) (.pair (.int .u8) (.pair (.int .u8) (.int .u8)))))))),.c (.int .u8)]
def rk16 : List RK := [.c .bool 8]
noncomputable def rt16 (st : St) : Option R16 := rtG rk16 st
noncomputable def E16 : Env := { T := tab,phi := (consPhi 18 (fun _ => true) (P18 n) (consPhi 39 (fun _ => true) (P39 n) (consPhi 47 (fun _ => true) (P47 n) (consPhi 49 (fun _ => true) (P49 n) (consPhi 52 (fun _ => true) (P52 n) (consPhi 62 (fun _ => true) (P62 n) (consPhi 65 (fun _ => true) (P65 n) noPhi))))))),eff := fun _ => false,fuel := n.1,hold := n.2 }
noncomputable def kq16_1 : K16 := run (E16 n) (cB (cB (cB (cB (cB c16))))) an16.snd.snd.snd.snd.snd rt16 (fun _ _ => none) rt16
noncomputable def kc16_2 : K16 := fun s => normC [3,9,11,78,79,80,92,93,94,95,96,97,98,99,100,101,102,172,173,174,175,176,177,178,179,180,181,182,183,184,185,186,187,188,189,190,191,192,193,202] s (kq16_1 n)
noncomputable def xb16_3 : Nat → K16 := fun j s => bif Nat.beq j 0 then normC [3,9,11,78,79,80,92,93,94,95,96,97,98,99,100,101,102,172,173,174,175,176,177,178,179,180,181,182,183,184,185,186,187,188,189,190,191,192,193,202] s (kq16_1 n) else (fun _ _ => none) j s
noncomputable def F16_4 : (K16) → K16 := fun K s => run (E16 n) (cA (cA (cB (cA (cB (cB (cB (cB c16)))))))) an16.snd.snd.snd.snd.fst.snd.fst.fst (fun s => normC [3,6,9,10,11,30,31,32,78,79,80,92,93,94,95,96,97,98,99,100,101,102,172,173,174,175,176,177,178,179,180,181,182,183,184,185,186,187,188,189,190,191,192,193,202] s K) (xb16_3 n) rt16 s
noncomputable def kq16_5 (m1 : Nat) : K16 := run (E16 n) (cB (cB (cA (cA (cB (cA (cB (cB (cB (cB c16)))))))))) an16.snd.snd.snd.snd.fst.snd.fst.fst.snd.snd (fun s => normC [3,6,9,10,11,30,31,32,78,79,80,92,93,94,95,96,97,98,99,100,101,102,172,173,174,175,176,177,178,179,180,181,182,183,184,185,186,187,188,189,190,191,192,193,202] s (loopN (F16_4 n) m1)) (xb16_3 n) rt16
noncomputable def kc16_6 (m1 : Nat) : K16 := fun s => normC [3,6,9,10,11,30,31,32,78,79,80,92,93,94,95,96,97,98,99,100,101,102,172,173,174,175,176,177,178,179,180,181,182,183,184,185,186,187,188,189,190,191,192,193,202] s (kq16_5 n m1)
noncomputable def kq16_7 (m1 : Nat) : K16 := run (E16 n) (cB (cB (cB (cA (cA (cB (cA (cB (cB (cB (cB c16))))))))))) an16.snd.snd.snd.snd.fst.snd.fst.fst.snd.snd.snd (fun s => normC [3,6,9,10,11,30,31,32,78,79,80,92,93,94,95,96,97,98,99,100,101,102,172,173,174,175,176,177,178,179,180,181,182,183,184,185,186,187,188,189,190,191,192,193,202] s (loopN (F16_4 n) m1)) (xb16_3 n) rt16
noncomputable def kc16_8 (m1 : Nat) : K16 := fun s => normC [3,6,9,10,11,30,31,32,78,79,80,92,93,94,95,96,97,98,99,100,101,102,172,173,174,175,176,177,178,179,180,181,182,183,184,185,186,187,188,189,190,191,192,193,202] s (kq16_7 n m1)
noncomputable def xb16_9 (m1 : Nat) : Nat → K16 := fun j s => bif Nat.beq j 1 then normC [3,6,9,10,11,30,31,32,78,79,80,92,93,94,95,96,97,98,99,100,101,102,172,173,174,175,176,177,178,179,180,181,182,183,184,185,186,187,188,189,190,191,192,193,202] s (kq16_7 n m1) else (xb16_3 n) j s
noncomputable def kq16_10 (m1 : Nat) : K16 := run (E16 n) (cB (cB (cA (cA (cB (cB (cA (cA (cB (cA (cB (cB (cB (cB c16)))))))))))))) an16.snd.snd.snd.snd.fst.snd.fst.fst.snd.snd.fst.fst.snd.snd (kc16_8 n m1) (xb16_9 n m1) rt16
noncomputable def kc16_11 (m1 : Nat) : K16 := fun s => normC [3,6,9,10,11,13,30,31,32,78,79,80,92,93,94,95,96,97,98,99,100,101,102,172,173,174,175,176,177,178,179,180,181,182,183,184,185,186,187,188,189,190,191,192,193,202] s (kq16_10 n m1)
noncomputable def kq16_12 : K16 := run (E16 n) (cB (cB (cB (cB (cB (cB (cB (cB c16)))))))) an16.snd.snd.snd.snd.snd.snd.snd.snd rt16 (fun _ _ => none) rt16
noncomputable def kc16_13 : K16 := fun s => normC [9,11,14,78,79,80,92,93,94,95,96,97,98,99,100,101,102,172,173,174,175,176,177,178,179,180,181,182,183,184,185,186,187,188,189,190,191,192,193,202] s (kq16_12 n)
noncomputable def kq16_14 : K16 := run (E16 n) (cB (cB (cB (cB (cB (cB (cB (cB (cB c16))))))))) an16.snd.snd.snd.snd.snd.snd.snd.snd.snd rt16 (fun _ _ => none) rt16
noncomputable def kc16_15 : K16 := fun s => normC [9,11,14,92,93,94,95,96,97,98,99,100,101,102,172,173,174,175,176,177,178,179,180,181,182,183,184,185,186,187,188,189,190,191,192,193,202] s (kq16_14 n)
noncomputable def xb16_16 : Nat → K16 := fun j s => bif Nat.beq j 2 then normC [9,11,14,92,93,94,95,96,97,98,99,100,101,102,172,173,174,175,176,177,178,179,180,181,182,183,184,185,186,187,188,189,190,191,192,193,202] s (kq16_14 n) else (fun _ _ => none) j s
noncomputable def F16_17 : (K16) → K16 := fun K s => run (E16 n) (cA (cA (cB (cA (cB (cB (cB (cB (cB (cB (cB (cB c16)))))))))))) an16.snd.snd.snd.snd.snd.snd.snd.snd.fst.snd.fst.fst (fun s => normC [9,11,14,69,70,71,78,79,80,92,93,94,95,96,97,98,99,100,101,102,172,173,174,175,176,177,178,179,180,181,182,183,184,185,186,187,188,189,190,191,192,193,202] s K) (xb16_16 n) rt16 s
noncomputable def kq16_18 (m1 : Nat) : K16 := run (E16 n) (cB (cB (cA (cA (cB (cA (cB (cB (cB (cB (cB (cB (cB (cB c16)))))))))))))) an16.snd.snd.snd.snd.snd.snd.snd.snd.fst.snd.fst.fst.snd.snd (fun s => normC [9,11,14,69,70,71,78,79,80,92,93,94,95,96,97,98,99,100,101,102,172,173,174,175,176,177,178,179,180,181,182,183,184,185,186,187,188,189,190,191,192,193,202] s (loopN (F16_17 n) m1)) (xb16_16 n) rt16
noncomputable def kc16_19 (m1 : Nat) : K16 := fun s => normC [9,11,14,69,70,71,78,79,80,92,93,94,95,96,97,98,99,100,101,102,172,173,174,175,176,177,178,179,180,181,182,183,184,185,186,187,188,189,190,191,192,193,202] s (kq16_18 n m1)
noncomputable def kq16_20 (m1 : Nat) : K16 := run (E16 n) (cB (cB (cB (cA (cA (cB (cA (cB (cB (cB (cB (cB (cB (cB (cB c16))))))))))))))) an16.snd.snd.snd.snd.snd.snd.snd.snd.fst.snd.fst.fst.snd.snd.snd (fun s => normC [9,11,14,69,70,71,78,79,80,92,93,94,95,96,97,98,99,100,101,102,172,173,174,175,176,177,178,179,180,181,182,183,184,185,186,187,188,189,190,191,192,193,202] s (loopN (F16_17 n) m1)) (xb16_16 n) rt16
noncomputable def kc16_21 (m1 : Nat) : K16 := fun s => normC [9,11,14,69,70,71,78,79,80,92,93,94,95,96,97,98,99,100,101,102,172,173,174,175,176,177,178,179,180,181,182,183,184,185,186,187,188,189,190,191,192,193,202] s (loopN (fun _ => (kq16_20 n m1)) n.2)
noncomputable def xb16_22 (m1 : Nat) : Nat → K16 := fun j s => bif Nat.beq j 3 then normC [9,11,14,69,70,71,78,79,80,92,93,94,95,96,97,98,99,100,101,102,172,173,174,175,176,177,178,179,180,181,182,183,184,185,186,187,188,189,190,191,192,193,202] s (loopN (fun _ => (kq16_20 n m1)) n.2) else (xb16_16 n) j s
noncomputable def kc16_23 (m1 : Nat) : K16 := fun s => normC [9,11,14,69,70,71,78,79,80,92,93,94,95,96,97,98,99,100,101,102,172,173,174,175,176,177,178,179,180,181,182,183,184,185,186,187,188,189,190,191,192,193,202] s (kc16_21 n m1)
noncomputable def kq16_24 : K16 := run (E16 n) (cB (cB (cB (cB (cB (cB (cB (cB (cB (cB c16)))))))))) an16.snd.snd.snd.snd.snd.snd.snd.snd.snd.snd rt16 (fun _ _ => none) rt16
noncomputable def kc16_25 : K16 := fun s => normC [9,11,14,172,173,174,175,176,177,178,179,180,181,182,183,184,185,186,187,188,189,190,191,192,193,202] s (kq16_24 n)
noncomputable def xb16_26 : Nat → K16 := fun j s => bif Nat.beq j 4 then normC [9,11,14,172,173,174,175,176,177,178,179,180,181,182,183,184,185,186,187,188,189,190,191,192,193,202] s (kq16_24 n) else (fun _ _ => none) j s
noncomputable def F16_27 : (K16) → K16 := fun K s => run (E16 n) (cA (cA (cB (cA (cB (cB (cB (cB (cB (cB (cB (cB (cB c16))))))))))))) an16.snd.snd.snd.snd.snd.snd.snd.snd.snd.fst.snd.fst.fst (fun s => normC [9,11,14,17,92,93,94,95,96,97,98,99,100,101,102,172,173,174,175,176,177,178,179,180,181,182,183,184,185,186,187,188,189,190,191,192,193,202] s K) (xb16_26 n) rt16 s
noncomputable def kq16_28 (m1 : Nat) : K16 := run (E16 n) (cB (cA (cA (cB (cA (cB (cB (cB (cB (cB (cB (cB (cB (cB c16)))))))))))))) an16.snd.snd.snd.snd.snd.snd.snd.snd.snd.fst.snd.fst.fst.snd (fun s => normC [9,11,14,17,92,93,94,95,96,97,98,99,100,101,102,172,173,174,175,176,177,178,179,180,181,182,183,184,185,186,187,188,189,190,191,192,193,202] s (loopN (F16_27 n) m1)) (xb16_26 n) rt16
noncomputable def kc16_29 (m1 : Nat) : K16 := fun s => normC [9,11,14,17,92,93,94,95,96,97,98,99,100,101,102,172,173,174,175,176,177,178,179,180,181,182,183,184,185,186,187,188,189,190,191,192,193,202] s (kq16_28 n m1)
noncomputable def kq16_30 (m1 : Nat) : K16 := run (E16 n) (cB (cB (cA (cA (cB (cA (cB (cB (cB (cB (cB (cB (cB (cB (cB c16))))))))))))))) an16.snd.snd.snd.snd.snd.snd.snd.snd.snd.fst.snd.fst.fst.snd.snd (fun s => normC [9,11,14,17,92,93,94,95,96,97,98,99,100,101,102,172,173,174,175,176,177,178,179,180,181,182,183,184,185,186,187,188,189,190,191,192,193,202] s (loopN (F16_27 n) m1)) (xb16_26 n) rt16
noncomputable def kc16_31 (m1 : Nat) : K16 := fun s => normC [9,11,14,17,92,93,94,95,96,97,98,99,100,101,102,172,173,174,175,176,177,178,179,180,181,182,183,184,185,186,187,188,189,190,191,192,193,202] s (loopN (fun _ => (kq16_30 n m1)) n.2)
noncomputable def xb16_32 (m1 : Nat) : Nat → K16 := fun j s => bif Nat.beq j 5 then normC [9,11,14,17,92,93,94,95,96,97,98,99,100,101,102,172,173,174,175,176,177,178,179,180,181,182,183,184,185,186,187,188,189,190,191,192,193,202] s (loopN (fun _ => (kq16_30 n m1)) n.2) else (xb16_26 n) j s
noncomputable def kc16_33 (m1 : Nat) : K16 := fun s => normC [9,11,14,17,92,93,94,95,96,97,98,99,100,101,102,172,173,174,175,176,177,178,179,180,181,182,183,184,185,186,187,188,189,190,191,192,193,202] s (kc16_31 n m1)
noncomputable def kq16_34 : K16 := run (E16 n) (cB (cB (cB (cB (cB (cB (cB (cB (cB (cB (cB c16))))))))))) an16.snd.snd.snd.snd.snd.snd.snd.snd.snd.snd.snd rt16 (fun _ _ => none) rt16
noncomputable def kc16_35 : K16 := fun s => normC [9,11,14,202] s (kq16_34 n)
noncomputable def kc16_36 : K16 := fun s => normC [9,11,14,202] s (kc16_35 n)
noncomputable def xb16_37 : Nat → K16 := fun j s => bif Nat.beq j 6 then normC [9,11,14,202] s (kc16_35 n) else (fun _ _ => none) j s
noncomputable def F16_38 : (K16) → K16 := fun K s => run (E16 n) (cA (cA (cB (cB (cA (cB (cA (cB (cB (cB (cB (cB (cB (cB (cB (cB (cB c16))))))))))))))))) an16.snd.snd.snd.snd.snd.snd.snd.snd.snd.snd.fst.snd.fst.snd.snd.fst.fst (fun s => normC [9,11,14,18,19,106,107,108,172,173,174,175,176,177,178,179,180,181,182,183,184,185,186,187,188,189,190,191,192,193,202] s K) (xb16_37 n) rt16 s
noncomputable def kq16_39 (m1 : Nat) : K16 := run (E16 n) (cB (cB (cA (cA (cB (cB (cA (cB (cA (cB (cB (cB (cB (cB (cB (cB (cB (cB (cB c16))))))))))))))))))) an16.snd.snd.snd.snd.snd.snd.snd.snd.snd.snd.fst.snd.fst.snd.snd.fst.fst.snd.snd (fun s => normC [9,11,14,18,19,106,107,108,172,173,174,175,176,177,178,179,180,181,182,183,184,185,186,187,188,189,190,191,192,193,202] s (loopN (F16_38 n) m1)) (xb16_37 n) rt16
noncomputable def kc16_40 (m1 : Nat) : K16 := fun s => normC [9,11,14,18,19,106,107,108,172,173,174,175,176,177,178,179,180,181,182,183,184,185,186,187,188,189,190,191,192,193,202] s (kq16_39 n m1)
noncomputable def kq16_41 (m1 : Nat) : K16 := run (E16 n) (cB (cB (cB (cA (cA (cB (cB (cA (cB (cA (cB (cB (cB (cB (cB (cB (cB (cB (cB (cB c16)))))))))))))))))))) an16.snd.snd.snd.snd.snd.snd.snd.snd.snd.snd.fst.snd.fst.snd.snd.fst.fst.snd.snd.snd (fun s => normC [9,11,14,18,19,106,107,108,172,173,174,175,176,177,178,179,180,181,182,183,184,185,186,187,188,189,190,191,192,193,202] s (loopN (F16_38 n) m1)) (xb16_37 n) rt16
noncomputable def kc16_42 (m1 : Nat) : K16 := fun s => normC [9,11,14,18,19,106,107,108,172,173,174,175,176,177,178,179,180,181,182,183,184,185,186,187,188,189,190,191,192,193,202] s (kq16_41 n m1)
noncomputable def xb16_43 (m1 : Nat) : Nat → K16 := fun j s => bif Nat.beq j 7 then normC [9,11,14,18,19,106,107,108,172,173,174,175,176,177,178,179,180,181,182,183,184,185,186,187,188,189,190,191,192,193,202] s (kq16_41 n m1) else (xb16_37 n) j s
noncomputable def kc16_44 (m1 : Nat) : K16 := fun s => normC [9,11,14,18,19,106,107,108,172,173,174,175,176,177,178,179,180,181,182,183,184,185,186,187,188,189,190,191,192,193,202] s (kc16_42 n m1)
noncomputable def L16_1 (m : Nat) (long3 : Int) (d10 : Int) (v31 : Int) (v32 : Int) (nums6_0 : Int) (nums6_1 : Int) (nums6_2 : Int) (nums6_3 : Int) (nums6_4 : Int) (nums6_5 : Int) (nums6_6 : Int) (nums6_7 : Int) (l9 : LP) (v11 : LP) (v30 : LP) : Option R16 := loopN (F16_4 n) m { tm := [uu,uu,uu,.c (.int .u8 long3),uu,uu,.ptr 6 0,uu,uu,.own 9 none false,.c (.int .i64 d10),.own 11 none false,uu,uu,uu,uu,uu,uu,uu,uu,uu,uu,uu,uu,uu,uu,uu,uu,uu,uu,.own 30 none false,.c (.int .i64 v31),.c (.int .i64 v32),uu,uu,uu,uu,uu,uu,uu,uu,uu,uu,uu,uu,uu,uu,uu,uu,uu,uu,uu,uu,uu,uu,uu,uu,uu,uu,uu,uu,uu,uu,uu,uu,uu,uu,uu,uu,uu,uu,uu,uu,uu,uu,uu,uu,uu,uu,uu,uu,uu,uu,uu,uu,uu,uu,uu,uu,uu,uu,uu,uu,uu,uu,uu,uu,uu,uu,uu,uu,uu,uu,uu,uu,uu,uu,uu,uu,uu,uu,uu,uu,uu,uu,uu,uu,uu,uu,uu,uu,uu,uu,uu,uu,uu,uu,uu,uu,uu,uu,uu,uu,uu,uu,uu,uu,uu,uu,uu,uu,uu,uu,uu,uu,uu,uu,uu,uu,uu,uu,uu,uu,uu,uu,uu,uu,uu,uu,uu,uu,uu,uu,uu,uu,uu,uu,uu,uu,uu,uu,uu,uu,uu,uu,uu,uu,uu,uu,uu,uu,uu,uu,uu,uu,uu,uu,uu,uu,uu,uu,uu,uu,uu,uu,uu,uu,uu,uu,uu,uu,uu,uu,uu],hp := (upd (upd (upd (upd emp 30 (.arr (.pair (.int .i64) (.int .i64)) v30 false)) 11 (.arr (.pair (.int .i64) (.int .i64)) v11 true)) 9 (.arr (.pair (.int .i64) (.int .i64)) l9 false)) 6 (.box [.int .u8 nums6_0,.int .u8 nums6_1,.int .u8 nums6_2,.int .u8 nums6_3,.int .u8 nums6_4,.int .u8 nums6_5,.int .u8 nums6_6,.int .u8 nums6_7])) }
noncomputable def L16_2 (m : Nat) (v11o : Nat) (v11w : Nat) (want14 : Int) (v69o : Nat) (v69w : Nat) (v70 : Int) (v71 : Int) (l9 : LP) (v11 : LP) : Option R16 := loopN (F16_17 n) m { tm := [uu,uu,uu,uu,uu,uu,uu,uu,uu,.own 9 none false,uu,.own 11 (some (v11o,v11w)) false,uu,uu,.c (.int .i64 want14),uu,uu,uu,uu,uu,uu,uu,uu,uu,uu,uu,uu,uu,uu,uu,uu,uu,uu,uu,uu,uu,uu,uu,uu,uu,uu,uu,uu,uu,uu,uu,uu,uu,uu,uu,uu,uu,uu,uu,uu,uu,uu,uu,uu,uu,uu,uu,uu,uu,uu,uu,uu,uu,uu,.own 11 (some (v69o,v69w)) false,.c (.int .i64 v70),.c (.int .i64 v71),uu,uu,uu,uu,uu,uu,uu,uu,uu,uu,uu,uu,uu,uu,uu,uu,uu,uu,uu,uu,uu,uu,uu,uu,uu,uu,uu,uu,uu,uu,uu,uu,uu,uu,uu,uu,uu,uu,uu,uu,uu,uu,uu,uu,uu,uu,uu,uu,uu,uu,uu,uu,uu,uu,uu,uu,uu,uu,uu,uu,uu,uu,uu,uu,uu,uu,uu,uu,uu,uu,uu,uu,uu,uu,uu,uu,uu,uu,uu,uu,uu,uu,uu,uu,uu,uu,uu,uu,uu,uu,uu,uu,uu,uu,uu,uu,uu,uu,uu,uu,uu,uu,uu,uu,uu,uu,uu,uu,uu,uu,uu,uu,uu,uu,uu,uu,uu,uu,uu,uu,uu,uu,uu,uu,uu,uu,uu,uu,uu,uu,uu,uu],hp := (upd (upd emp 11 (.arr (.pair (.int .i64) (.int .i64)) v11 true)) 9 (.arr (.pair (.int .i64) (.int .i64)) l9 false)) }
noncomputable def L16_3 (m1 : Nat) (v11o : Nat) (v11w : Nat) (want14 : Int) (v69o : Nat) (v69w : Nat) (v70 : Int) (v71 : Int) (l9 : LP) (v11 : LP) : Option R16 := loopN (fun _ => (kq16_20 n m1)) n.2 { tm := [uu,uu,uu,uu,uu,uu,uu,uu,uu,.own 9 none false,uu,.own 11 (some (v11o,v11w)) false,uu,uu,.c (.int .i64 want14),uu,uu,uu,uu,uu,uu,uu,uu,uu,uu,uu,uu,uu,uu,uu,uu,uu,uu,uu,uu,uu,uu,uu,uu,uu,uu,uu,uu,uu,uu,uu,uu,uu,uu,uu,uu,uu,uu,uu,uu,uu,uu,uu,uu,uu,uu,uu,uu,uu,uu,uu,uu,uu,uu,.own 11 (some (v69o,v69w)) false,.c (.int .i64 v70),.c (.int .i64 v71),uu,uu,uu,uu,uu,uu,uu,uu,uu,uu,uu,uu,uu,uu,uu,uu,uu,uu,uu,uu,uu,uu,uu,uu,uu,uu,uu,uu,uu,uu,uu,uu,uu,uu,uu,uu,uu,uu,uu,uu,uu,uu,uu,uu,uu,uu,uu,uu,uu,uu,uu,uu,uu,uu,uu,uu,uu,uu,uu,uu,uu,uu,uu,uu,uu,uu,uu,uu,uu,uu,uu,uu,uu,uu,uu,uu,uu,uu,uu,uu,uu,uu,uu,uu,uu,uu,uu,uu,uu,uu,uu,uu,uu,uu,uu,uu,uu,uu,uu,uu,uu,uu,uu,uu,uu,uu,uu,uu,uu,uu,uu,uu,uu,uu,uu,uu,uu,uu,uu,uu,uu,uu,uu,uu,uu,uu,uu,uu,uu,uu,uu,uu],hp := (upd (upd emp 11 (.arr (.pair (.int .i64) (.int .i64)) v11 true)) 9 (.arr (.pair (.int .i64) (.int .i64)) l9 false)) }
noncomputable def L16_4 (m : Nat) (v11o : Nat) (v11w : Nat) (want14 : Int) (i17 : Int) (l9 : LP) (v11 : LP) : Option R16 := loopN (F16_27 n) m { tm := [uu,uu,uu,uu,uu,uu,uu,uu,uu,.own 9 none false,uu,.own 11 (some (v11o,v11w)) false,uu,uu,.c (.int .i64 want14),uu,uu,.c (.int .i64 i17),uu,uu,uu,uu,uu,uu,uu,uu,uu,uu,uu,uu,uu,uu,uu,uu,uu,uu,uu,uu,uu,uu,uu,uu,uu,uu,uu,uu,uu,uu,uu,uu,uu,uu,uu,uu,uu,uu,uu,uu,uu,uu,uu,uu,uu,uu,uu,uu,uu,uu,uu,uu,uu,uu,uu,uu,uu,uu,uu,uu,uu,uu,uu,uu,uu,uu,uu,uu,uu,uu,uu,uu,uu,uu,uu,uu,uu,uu,uu,uu,uu,uu,uu,uu,uu,uu,uu,uu,uu,uu,uu,uu,uu,uu,uu,uu,uu,uu,uu,uu,uu,uu,uu,uu,uu,uu,uu,uu,uu,uu,uu,uu,uu,uu,uu,uu,uu,uu,uu,uu,uu,uu,uu,uu,uu,uu,uu,uu,uu,uu,uu,uu,uu,uu,uu,uu,uu,uu,uu,uu,uu,uu,uu,uu,uu,uu,uu,uu,uu,uu,uu,uu,uu,uu,uu,uu,uu,uu,uu,uu,uu,uu,uu,uu,uu,uu,uu,uu,uu,uu,uu,uu,uu,uu,uu,uu,uu,uu,uu,uu,uu,uu,uu,uu,uu,uu],hp := (upd (upd emp 11 (.arr (.pair (.int .i64) (.int .i64)) v11 true)) 9 (.arr (.pair (.int .i64) (.int .i64)) l9 false)) }
noncomputable def L16_5 (m1 : Nat) (v11o : Nat) (v11w : Nat) (want14 : Int) (i17 : Int) (l9 : LP) (v11 : LP) : Option R16 := loopN (fun _ => (kq16_30 n m1)) n.2 { tm := [uu,uu,uu,uu,uu,uu,uu,uu,uu,.own 9 none false,uu,.own 11 (some (v11o,v11w)) false,uu,uu,.c (.int .i64 want14),uu,uu,.c (.int .i64 i17),uu,uu,uu,uu,uu,uu,uu,uu,uu,uu,uu,uu,uu,uu,uu,uu,uu,uu,uu,uu,uu,uu,uu,uu,uu,uu,uu,uu,uu,uu,uu,uu,uu,uu,uu,uu,uu,uu,uu,uu,uu,uu,uu,uu,uu,uu,uu,uu,uu,uu,uu,uu,uu,uu,uu,uu,uu,uu,uu,uu,uu,uu,uu,uu,uu,uu,uu,uu,uu,uu,uu,uu,uu,uu,uu,uu,uu,uu,uu,uu,uu,uu,uu,uu,uu,uu,uu,uu,uu,uu,uu,uu,uu,uu,uu,uu,uu,uu,uu,uu,uu,uu,uu,uu,uu,uu,uu,uu,uu,uu,uu,uu,uu,uu,uu,uu,uu,uu,uu,uu,uu,uu,uu,uu,uu,uu,uu,uu,uu,uu,uu,uu,uu,uu,uu,uu,uu,uu,uu,uu,uu,uu,uu,uu,uu,uu,uu,uu,uu,uu,uu,uu,uu,uu,uu,uu,uu,uu,uu,uu,uu,uu,uu,uu,uu,uu,uu,uu,uu,uu,uu,uu,uu,uu,uu,uu,uu,uu,uu,uu,uu,uu,uu,uu,uu,uu],hp := (upd (upd emp 11 (.arr (.pair (.int .i64) (.int .i64)) v11 true)) 9 (.arr (.pair (.int .i64) (.int .i64)) l9 false)) }
noncomputable def L16_6 (m : Nat) (v11o : Nat) (v11w : Nat) (want14 : Int) (num18 : Int) (v19 : Int) (v107 : Int) (v108 : Int) (l9 : LP) (v11 : LP) : Option R16 := loopN (F16_38 n) m { tm := [uu,uu,uu,uu,uu,uu,uu,uu,uu,.own 9 none false,uu,.own 11 (some (v11o,v11w)) false,uu,uu,.c (.int .i64 want14),uu,uu,uu,.c (.int .i64 num18),.c (.int .i64 v19),uu,uu,uu,uu,uu,uu,uu,uu,uu,uu,uu,uu,uu,uu,uu,uu,uu,uu,uu,uu,uu,uu,uu,uu,uu,uu,uu,uu,uu,uu,uu,uu,uu,uu,uu,uu,uu,uu,uu,uu,uu,uu,uu,uu,uu,uu,uu,uu,uu,uu,uu,uu,uu,uu,uu,uu,uu,uu,uu,uu,uu,uu,uu,uu,uu,uu,uu,uu,uu,uu,uu,uu,uu,uu,uu,uu,uu,uu,uu,uu,uu,uu,uu,uu,uu,uu,.own 9 none false,.c (.int .i64 v107),.c (.int .i64 v108),uu,uu,uu,uu,uu,uu,uu,uu,uu,uu,uu,uu,uu,uu,uu,uu,uu,uu,uu,uu,uu,uu,uu,uu,uu,uu,uu,uu,uu,uu,uu,uu,uu,uu,uu,uu,uu,uu,uu,uu,uu,uu,uu,uu,uu,uu,uu,uu,uu,uu,uu,uu,uu,uu,uu,uu,uu,uu,uu,uu,uu,uu,uu,uu,uu,uu,uu,uu,uu,uu,uu,uu,uu,uu,uu,uu,uu,uu,uu,uu,uu,uu,uu,uu,uu,uu,uu,uu,uu,uu,uu,uu,uu,uu,uu],hp := (upd (upd emp 11 (.arr (.pair (.int .i64) (.int .i64)) v11 true)) 9 (.arr (.pair (.int .i64) (.int .i64)) l9 false)) }
theorem L16_1_eq (m1 : Nat) (long3 : Int) (d10 : Int) (v31 : Int) (v32 : Int) (nums6_0 : Int) (nums6_1 : Int) (nums6_2 : Int) (nums6_3 : Int) (nums6_4 : Int) (nums6_5 : Int) (nums6_6 : Int) (nums6_7 : Int) (l9 : LP) (v11 : LP) (v30 : LP) : L16_1 n (m1 + 1) long3 d10 v31 v32 nums6_0 nums6_1 nums6_2 nums6_3 nums6_4 nums6_5 nums6_6 nums6_7 l9 v11 v30 =
    (bif decide (v32 < v31) then (bif inB v32 v30.length then (idx v30 v32).bind fun x3' =>
        (bif inB v32 8 then (idx [nums6_0,nums6_1,nums6_2,nums6_3,nums6_4,nums6_5,nums6_6,nums6_7] v32).bind fun x4' =>
          (bif decide (x4' < 40) then (bif inB v32 8 then (idx [nums6_0,nums6_1,nums6_2,nums6_3,nums6_4,nums6_5,nums6_6,nums6_7] v32).bind fun x5' =>
              (bif 3 == 0 then none
              else (S52 n (wr .i64 (Int.tdiv (wr .i64 ((wr .i64 x5') * d10)) 3)) d10).bind fun r6' =>
                (bif decide (v11.length + [r6'].length ≤ lim) then L16_1 n m1 long3 d10 v31 (wr .i64 (v32 + 1)) nums6_0 nums6_1 nums6_2 nums6_3 nums6_4 nums6_5 nums6_6 nums6_7 l9 (v11 ++ [r6']) v30
                else none))
            else none)
          else (bif decide (v11.length + [x3'].length ≤ lim) then L16_1 n m1 long3 d10 v31 (wr .i64 (v32 + 1)) nums6_0 nums6_1 nums6_2 nums6_3 nums6_4 nums6_5 nums6_6 nums6_7 l9 (v11 ++ [x3']) v30
            else none))
        else none)
      else none)
    else (bif 250 == 0 then none
      else (bif 2 == 0 then none
        else (bif bounds none (some (wr .i64 ((v11.length : Int) - (Int.tmod (wr .i64 (Int.tdiv (wr .i64 long3) 250)) 2)))) none v11.length then (bif ((((v11.drop (0 + 0)).take ((Int.toNat (wr .i64 ((v11.length : Int) - (Int.tmod (wr .i64 (Int.tdiv (wr .i64 long3) 250)) 2)))) - 0)).length : Int) != (l9.length : Int)) then L16_2 n n.1 (0 + 0) ((Int.toNat (wr .i64 ((v11.length : Int) - (Int.tmod (wr .i64 (Int.tdiv (wr .i64 long3) 250)) 2)))) - 0) 5 (0 + 0) ((Int.toNat (wr .i64 ((v11.length : Int) - (Int.tmod (wr .i64 (Int.tdiv (wr .i64 long3) 250)) 2)))) - 0) (((v11.drop (0 + 0)).take ((Int.toNat (wr .i64 ((v11.length : Int) - (Int.tmod (wr .i64 (Int.tdiv (wr .i64 long3) 250)) 2)))) - 0)).length : Int) 0 l9 v11
            else L16_2 n n.1 (0 + 0) ((Int.toNat (wr .i64 ((v11.length : Int) - (Int.tmod (wr .i64 (Int.tdiv (wr .i64 long3) 250)) 2)))) - 0) 0 (0 + 0) ((Int.toNat (wr .i64 ((v11.length : Int) - (Int.tmod (wr .i64 (Int.tdiv (wr .i64 long3) 250)) 2)))) - 0) (((v11.drop (0 + 0)).take ((Int.toNat (wr .i64 ((v11.length : Int) - (Int.tmod (wr .i64 (Int.tdiv (wr .i64 long3) 250)) 2)))) - 0)).length : Int) 0 l9 v11)
          else none)))) := by kernel_rfl
theorem L16_2_eq (m1 : Nat) (v11o : Nat) (v11w : Nat) (want14 : Int) (v69o : Nat) (v69w : Nat) (v70 : Int) (v71 : Int) (l9 : LP) (v11 : LP) : L16_2 n (m1 + 1) v11o v11w want14 v69o v69w v70 v71 l9 v11 =
    (bif decide (v71 < v70) then (bif inB v71 ((v11.drop v69o).take v69w).length then (idx ((v11.drop v69o).take v69w) v71).bind fun x7' =>
        ((bif ((want14 == 0) == true) then some (decide (x7'.2 > 72))
          else some false)).bind fun b8' =>
        (bif b8' then L16_3 n m1 v11o v11w 1 v69o v69w v70 v71 l9 v11
        else L16_3 n m1 v11o v11w want14 v69o v69w v70 v71 l9 v11)
      else none)
    else L16_4 n n.1 v11o v11w want14 1 l9 v11) := by kernel_rfl
theorem L16_3_raw (m1 : Nat) (v11o : Nat) (v11w : Nat) (want14 : Int) (v69o : Nat) (v69w : Nat) (v70 : Int) (v71 : Int) (l9 : LP) (v11 : LP) : (kq16_20 n m1) { tm := [uu,uu,uu,uu,uu,uu,uu,uu,uu,.own 9 none false,uu,.own 11 (some (v11o,v11w)) false,uu,uu,.c (.int .i64 want14),uu,uu,uu,uu,uu,uu,uu,uu,uu,uu,uu,uu,uu,uu,uu,uu,uu,uu,uu,uu,uu,uu,uu,uu,uu,uu,uu,uu,uu,uu,uu,uu,uu,uu,uu,uu,uu,uu,uu,uu,uu,uu,uu,uu,uu,uu,uu,uu,uu,uu,uu,uu,uu,uu,.own 11 (some (v69o,v69w)) false,.c (.int .i64 v70),.c (.int .i64 v71),uu,uu,uu,uu,uu,uu,uu,uu,uu,uu,uu,uu,uu,uu,uu,uu,uu,uu,uu,uu,uu,uu,uu,uu,uu,uu,uu,uu,uu,uu,uu,uu,uu,uu,uu,uu,uu,uu,uu,uu,uu,uu,uu,uu,uu,uu,uu,uu,uu,uu,uu,uu,uu,uu,uu,uu,uu,uu,uu,uu,uu,uu,uu,uu,uu,uu,uu,uu,uu,uu,uu,uu,uu,uu,uu,uu,uu,uu,uu,uu,uu,uu,uu,uu,uu,uu,uu,uu,uu,uu,uu,uu,uu,uu,uu,uu,uu,uu,uu,uu,uu,uu,uu,uu,uu,uu,uu,uu,uu,uu,uu,uu,uu,uu,uu,uu,uu,uu,uu,uu,uu,uu,uu,uu,uu,uu,uu,uu,uu,uu,uu,uu],hp := (upd (upd emp 11 (.arr (.pair (.int .i64) (.int .i64)) v11 true)) 9 (.arr (.pair (.int .i64) (.int .i64)) l9 false)) } =
    L16_2 n m1 v11o v11w want14 v69o v69w v70 (wr .i64 (v71 + 1)) l9 v11 := by kernel_rfl
theorem L16_4_eq (m1 : Nat) (v11o : Nat) (v11w : Nat) (want14 : Int) (i17 : Int) (l9 : LP) (v11 : LP) : L16_4 n (m1 + 1) v11o v11w want14 i17 l9 v11 =
    (bif decide (i17 < (((v11.drop v11o).take v11w).length : Int)) then ((bif ((want14 == 0) == true) then (bif inB i17 ((v11.drop v11o).take v11w).length then (idx ((v11.drop v11o).take v11w) i17).bind fun x9' =>
            (bif inB (wr .i64 (i17 - 1)) ((v11.drop v11o).take v11w).length then (idx ((v11.drop v11o).take v11w) (wr .i64 (i17 - 1))).bind fun x10' =>
              (S62 n x9' x10').bind fun r11' =>
              some (decide (r11' < 0))
            else none)
          else none)
        else some false)).bind fun b12' =>
      (bif b12' then L16_5 n m1 v11o v11w 7 i17 l9 v11
      else L16_5 n m1 v11o v11w want14 i17 l9 v11)
    else (bif (want14 == 0) then L16_6 n n.1 v11o v11w want14 0 1 (l9.length : Int) 0 l9 v11
      else (S39 n l9 ((v11.drop v11o).take v11w)).bind fun r13' =>
        ((bif ((r13' == want14) == true) then (S18 n).bind fun r14' =>
            some r14'
          else some false)).bind fun b15' =>
        some b15')) := by kernel_rfl
theorem L16_5_raw (m1 : Nat) (v11o : Nat) (v11w : Nat) (want14 : Int) (i17 : Int) (l9 : LP) (v11 : LP) : (kq16_30 n m1) { tm := [uu,uu,uu,uu,uu,uu,uu,uu,uu,.own 9 none false,uu,.own 11 (some (v11o,v11w)) false,uu,uu,.c (.int .i64 want14),uu,uu,.c (.int .i64 i17),uu,uu,uu,uu,uu,uu,uu,uu,uu,uu,uu,uu,uu,uu,uu,uu,uu,uu,uu,uu,uu,uu,uu,uu,uu,uu,uu,uu,uu,uu,uu,uu,uu,uu,uu,uu,uu,uu,uu,uu,uu,uu,uu,uu,uu,uu,uu,uu,uu,uu,uu,uu,uu,uu,uu,uu,uu,uu,uu,uu,uu,uu,uu,uu,uu,uu,uu,uu,uu,uu,uu,uu,uu,uu,uu,uu,uu,uu,uu,uu,uu,uu,uu,uu,uu,uu,uu,uu,uu,uu,uu,uu,uu,uu,uu,uu,uu,uu,uu,uu,uu,uu,uu,uu,uu,uu,uu,uu,uu,uu,uu,uu,uu,uu,uu,uu,uu,uu,uu,uu,uu,uu,uu,uu,uu,uu,uu,uu,uu,uu,uu,uu,uu,uu,uu,uu,uu,uu,uu,uu,uu,uu,uu,uu,uu,uu,uu,uu,uu,uu,uu,uu,uu,uu,uu,uu,uu,uu,uu,uu,uu,uu,uu,uu,uu,uu,uu,uu,uu,uu,uu,uu,uu,uu,uu,uu,uu,uu,uu,uu,uu,uu,uu,uu,uu,uu],hp := (upd (upd emp 11 (.arr (.pair (.int .i64) (.int .i64)) v11 true)) 9 (.arr (.pair (.int .i64) (.int .i64)) l9 false)) } =
    L16_4 n m1 v11o v11w want14 (wr .i64 (i17 + 1)) l9 v11 := by kernel_rfl
theorem L16_6_eq (m1 : Nat) (v11o : Nat) (v11w : Nat) (want14 : Int) (num18 : Int) (v19 : Int) (v107 : Int) (v108 : Int) (l9 : LP) (v11 : LP) : L16_6 n (m1 + 1) v11o v11w want14 num18 v19 v107 v108 l9 v11 =
    (bif decide (v108 < v107) then (bif inB v108 l9.length then (idx l9 v108).bind fun x16' =>
        (bif inB v108 ((v11.drop v11o).take v11w).length then (idx ((v11.drop v11o).take v11w) v108).bind fun x17' =>
          (S49 n v19 x17'.2).bind fun r18' =>
          (bif inB v108 ((v11.drop v11o).take v11w).length then (idx ((v11.drop v11o).take v11w) v108).bind fun x19' =>
            (bif r18' == 0 then none
            else (bif inB v108 ((v11.drop v11o).take v11w).length then (idx ((v11.drop v11o).take v11w) v108).bind fun x20' =>
                (bif inB v108 ((v11.drop v11o).take v11w).length then (idx ((v11.drop v11o).take v11w) v108).bind fun x21' =>
                  (bif r18' == 0 then none
                  else (bif r18' == 0 then none
                    else (bif inB v108 ((v11.drop v11o).take v11w).length then (idx ((v11.drop v11o).take v11w) v108).bind fun x22' =>
                        (S49 n (wr .i64 ((wr .i64 (num18 * (wr .i64 (Int.tdiv x19'.2 r18')))) + (wr .i64 ((wr .i64 (x16'.2 * (wr .i64 ((wr .i64 (x16'.1 * x20'.2)) - x21'.1)))) * (wr .i64 (Int.tdiv v19 r18')))))) (wr .i64 ((wr .i64 (Int.tdiv v19 r18')) * x22'.2))).bind fun r23' =>
                        (bif r23' == 0 then none
                        else (bif r23' == 0 then none
                          else ((bif (decide (wr .i64 (Int.tdiv (wr .i64 ((wr .i64 (num18 * (wr .i64 (Int.tdiv x19'.2 r18')))) + (wr .i64 ((wr .i64 (x16'.2 * (wr .i64 ((wr .i64 (x16'.1 * x20'.2)) - x21'.1)))) * (wr .i64 (Int.tdiv v19 r18')))))) r23') < 0) == false) then ((bif (decide (wr .i64 (Int.tdiv (wr .i64 ((wr .i64 (num18 * (wr .i64 (Int.tdiv x19'.2 r18')))) + (wr .i64 ((wr .i64 (x16'.2 * (wr .i64 ((wr .i64 (x16'.1 * x20'.2)) - x21'.1)))) * (wr .i64 (Int.tdiv v19 r18')))))) r23') > 0) == true) then ((bif (((wr .i64 (v108 + 1)) == (l9.length : Int)) == false) then (bif inB v108 ((v11.drop v11o).take v11w).length then (idx ((v11.drop v11o).take v11w) v108).bind fun x24' =>
                                          (bif inB (wr .i64 (v108 + 1)) ((v11.drop v11o).take v11w).length then (idx ((v11.drop v11o).take v11w) (wr .i64 (v108 + 1))).bind fun x25' =>
                                            (S62 n x24' x25').bind fun r26' =>
                                            some (decide (r26' < 0))
                                          else none)
                                        else none)
                                      else some true)).bind fun b27' =>
                                    some b27'
                                  else some false)).bind fun b28' =>
                                some b28'
                              else some true)).bind fun b29' =>
                            (bif b29' then (S39 n l9 ((v11.drop v11o).take v11w)).bind fun r30' =>
                              ((bif ((r30' == 14) == true) then (S18 n).bind fun r31' =>
                                  some r31'
                                else some false)).bind fun b32' =>
                              some b32'
                            else L16_6 n m1 v11o v11w want14 (wr .i64 (Int.tdiv (wr .i64 ((wr .i64 (num18 * (wr .i64 (Int.tdiv x19'.2 r18')))) + (wr .i64 ((wr .i64 (x16'.2 * (wr .i64 ((wr .i64 (x16'.1 * x20'.2)) - x21'.1)))) * (wr .i64 (Int.tdiv v19 r18')))))) r23')) (wr .i64 (Int.tdiv (wr .i64 ((wr .i64 (Int.tdiv v19 r18')) * x22'.2)) r23')) v107 (wr .i64 (v108 + 1)) l9 v11)))
                      else none)))
                else none)
              else none))
          else none)
        else none)
      else none)
    else (S39 n l9 ((v11.drop v11o).take v11w)).bind fun r33' =>
      ((bif ((r33' == want14) == true) then (S18 n).bind fun r34' =>
          some r34'
        else some false)).bind fun b35' =>
      some b35') := by kernel_rfl
noncomputable def S16 (a0 : Int × (Int × Int × Int × Int × Int × Int × Int × Int) × Int × Int × Int × Int × Int × Int × Int × Int) (den1 : Int) (nums2 : Int × Int × Int × Int × Int × Int × Int × Int) (long3 : Int) : Option R16 := run (E16 n) c16 an16 rt16 (fun _ _ => none) rt16 { tm := [.agg [.int .u8 a0.1,.int .u8 a0.2.1.1,.int .u8 a0.2.1.2.1,.int .u8 a0.2.1.2.2.1,.int .u8 a0.2.1.2.2.2.1,.int .u8 a0.2.1.2.2.2.2.1,.int .u8 a0.2.1.2.2.2.2.2.1,.int .u8 a0.2.1.2.2.2.2.2.2.1,.int .u8 a0.2.1.2.2.2.2.2.2.2,.int .u8 a0.2.2.1,.int .u8 a0.2.2.2.1,.int .u8 a0.2.2.2.2.1,.int .u8 a0.2.2.2.2.2.1,.int .u8 a0.2.2.2.2.2.2.1,.int .u8 a0.2.2.2.2.2.2.2.1,.int .u8 a0.2.2.2.2.2.2.2.2.1,.int .u8 a0.2.2.2.2.2.2.2.2.2],.c (.int .u8 den1),.agg [.int .u8 nums2.1,.int .u8 nums2.2.1,.int .u8 nums2.2.2.1,.int .u8 nums2.2.2.2.1,.int .u8 nums2.2.2.2.2.1,.int .u8 nums2.2.2.2.2.2.1,.int .u8 nums2.2.2.2.2.2.2.1,.int .u8 nums2.2.2.2.2.2.2.2],.c (.int .u8 long3),uu,uu,uu,uu,uu,uu,uu,uu,uu,uu,uu,uu,uu,uu,uu,uu,uu,uu,uu,uu,uu,uu,uu,uu,uu,uu,uu,uu,uu,uu,uu,uu,uu,uu,uu,uu,uu,uu,uu,uu,uu,uu,uu,uu,uu,uu,uu,uu,uu,uu,uu,uu,uu,uu,uu,uu,uu,uu,uu,uu,uu,uu,uu,uu,uu,uu,uu,uu,uu,uu,uu,uu,uu,uu,uu,uu,uu,uu,uu,uu,uu,uu,uu,uu,uu,uu,uu,uu,uu,uu,uu,uu,uu,uu,uu,uu,uu,uu,uu,uu,uu,uu,uu,uu,uu,uu,uu,uu,uu,uu,uu,uu,uu,uu,uu,uu,uu,uu,uu,uu,uu,uu,uu,uu,uu,uu,uu,uu,uu,uu,uu,uu,uu,uu,uu,uu,uu,uu,uu,uu,uu,uu,uu,uu,uu,uu,uu,uu,uu,uu,uu,uu,uu,uu,uu,uu,uu,uu,uu,uu,uu,uu,uu,uu,uu,uu,uu,uu,uu,uu,uu,uu,uu,uu,uu,uu,uu,uu,uu,uu,uu,uu,uu,uu,uu,uu,uu,uu,uu,uu,uu,uu,uu,uu,uu,uu,uu,uu,uu,uu],hp := emp }
theorem S16_eq (a0 : Int × (Int × Int × Int × Int × Int × Int × Int × Int) × Int × Int × Int × Int × Int × Int × Int × Int) (den1 : Int) (nums2 : Int × Int × Int × Int × Int × Int × Int × Int) (long3 : Int) : S16 n a0 den1 nums2 long3 =
    (S47 n a0 8 12).bind fun r1' =>
    (bif 74 == 0 then none
    else (S65 n r1').bind fun r2' =>
      L16_1 n n.1 long3 (wr .i64 (1 + (Int.tmod (wr .i64 den1) 74))) (r2'.length : Int) 0 nums2.1 nums2.2.1 nums2.2.2.1 nums2.2.2.2.1 nums2.2.2.2.2.1 nums2.2.2.2.2.2.1 nums2.2.2.2.2.2.2.1 nums2.2.2.2.2.2.2.2 r1' [] r2') := by kernel_rfl
theorem S16_run (xs : pksDen pk16) : S16 n xs.1 xs.2.1 xs.2.2.1 xs.2.2.2.1 = runG (E16 n) noScope c16 an16 (rtG rk16) (fun _ _ => none) (rtG rk16) (st0 pk16 xs Try.f16.ntmps) := by kernel_rfl
noncomputable def P16 := phiOf pk16 rk16 (fun xs => S16 n xs.1 xs.2.1 xs.2.2.1 xs.2.2.2.1)
theorem call16 : CallOK Try.prog 16 := callOK_of Try.func16 (by kernel_rfl) (by kernel_rfl)
theorem env16 : EnvOK Try.prog (E16 n) := envOK0 (consPhi_ok (FC18 n) call18 (consPhi_ok (FC39 n) call39 (consPhi_ok (FC47 n) call47 (consPhi_ok (FC49 n) call49 (consPhi_ok (FC52 n) call52 (consPhi_ok (FC62 n) call62 (consPhi_ok (FC65 n) call65 noPhi_ok))))))) rfl rfl
theorem par16 : EnvPar (E16 n) := envPar0 (consPhi_par phiOf_Par1 (consPhi_par phiOf_Par1 (consPhi_par phiOf_Par1 (consPhi_par phiOf_Par1 (consPhi_par phiOf_Par1 (consPhi_par phiOf_Par1 (consPhi_par phiOf_Par1 noPhi_par))))))) rfl
theorem FC16 : FCs Try.prog 16 (P16 n) := phiOf_FCs fun xs r h vs hv => FC.of_runG tabOK eqsOK (env16 n) (par16 n) mixed (fun _ => noScope_ok) Try.func16 (c := c16) (an := an16) (pks := pk16) (rks := rk16) (by kernel_rfl) (by kernel_rfl) hv ((S16_run n xs).symm.trans h)
/-D 16 -/
abbrev YLG161 := Nat → Nat → Int → Nat → Nat → Int → Int → LP → LP → Option R16
noncomputable def DL16_3 (n : Nat × Nat) (f1 : YLG161) (v11o : Nat) (v11w : Nat) (want14 : Int) (v69o : Nat) (v69w : Nat) (v70 : Int) (v71 : Int) (l9 : LP) (v11 : LP) : Option R16 :=
    f1 v11o v11w want14 v69o v69w v70 (wr .i64 (v71 + 1)) l9 v11
theorem DL16_3_eq (hn : n.2 = 1) (m1 : Nat) : L16_3 n m1 = DL16_3 n (L16_2 n m1) := by
  funext v11o v11w want14 v69o v69w v70 v71 l9 v11; refine ((held_eq hn _).trans (L16_3_raw n m1 v11o v11w want14 v69o v69w v70 v71 l9 v11)).trans ?_
  unfold DL16_3
  (try simp only [S18_D n hn,S39_D n hn,S47_D n hn,S49_D n hn,S52_D n hn,S62_D n hn,S65_D n hn]) <;> first | with_reducible rfl | rfl
abbrev YLG162 := Nat → Nat → Int → Int → LP → LP → Option R16
noncomputable def DL16_5 (n : Nat × Nat) (f1 : YLG162) (v11o : Nat) (v11w : Nat) (want14 : Int) (i17 : Int) (l9 : LP) (v11 : LP) : Option R16 :=
    f1 v11o v11w want14 (wr .i64 (i17 + 1)) l9 v11
theorem DL16_5_eq (hn : n.2 = 1) (m1 : Nat) : L16_5 n m1 = DL16_5 n (L16_4 n m1) := by
  funext v11o v11w want14 i17 l9 v11; refine ((held_eq hn _).trans (L16_5_raw n m1 v11o v11w want14 i17 l9 v11)).trans ?_
  unfold DL16_5
  (try simp only [DL16_3_eq n hn,S18_D n hn,S39_D n hn,S47_D n hn,S49_D n hn,S52_D n hn,S62_D n hn,S65_D n hn]) <;> first | with_reducible rfl | rfl
abbrev YLG163 := Nat → Nat → Int → Int → Int → Int → Int → LP → LP → Option R16
noncomputable def DF16_6 (f1 : YLG163) (v11o : Nat) (v11w : Nat) (want14 : Int) (num18 : Int) (v19 : Int) (v107 : Int) (v108 : Int) (l9 : LP) (v11 : LP) : Option R16 :=
    (bif decide (v108 < v107) then (bif inB v108 l9.length then (idx l9 v108).bind fun x16' =>
        (bif inB v108 ((v11.drop v11o).take v11w).length then (idx ((v11.drop v11o).take v11w) v108).bind fun x17' =>
          (D49 n v19 x17'.2).bind fun r18' =>
          (bif inB v108 ((v11.drop v11o).take v11w).length then (idx ((v11.drop v11o).take v11w) v108).bind fun x19' =>
            (bif r18' == 0 then none
            else (bif inB v108 ((v11.drop v11o).take v11w).length then (idx ((v11.drop v11o).take v11w) v108).bind fun x20' =>
                (bif inB v108 ((v11.drop v11o).take v11w).length then (idx ((v11.drop v11o).take v11w) v108).bind fun x21' =>
                  (bif r18' == 0 then none
                  else (bif r18' == 0 then none
                    else (bif inB v108 ((v11.drop v11o).take v11w).length then (idx ((v11.drop v11o).take v11w) v108).bind fun x22' =>
                        (D49 n (wr .i64 ((wr .i64 (num18 * (wr .i64 (Int.tdiv x19'.2 r18')))) + (wr .i64 ((wr .i64 (x16'.2 * (wr .i64 ((wr .i64 (x16'.1 * x20'.2)) - x21'.1)))) * (wr .i64 (Int.tdiv v19 r18')))))) (wr .i64 ((wr .i64 (Int.tdiv v19 r18')) * x22'.2))).bind fun r23' =>
                        (bif r23' == 0 then none
                        else (bif r23' == 0 then none
                          else ((bif (decide (wr .i64 (Int.tdiv (wr .i64 ((wr .i64 (num18 * (wr .i64 (Int.tdiv x19'.2 r18')))) + (wr .i64 ((wr .i64 (x16'.2 * (wr .i64 ((wr .i64 (x16'.1 * x20'.2)) - x21'.1)))) * (wr .i64 (Int.tdiv v19 r18')))))) r23') < 0) == false) then ((bif (decide (wr .i64 (Int.tdiv (wr .i64 ((wr .i64 (num18 * (wr .i64 (Int.tdiv x19'.2 r18')))) + (wr .i64 ((wr .i64 (x16'.2 * (wr .i64 ((wr .i64 (x16'.1 * x20'.2)) - x21'.1)))) * (wr .i64 (Int.tdiv v19 r18')))))) r23') > 0) == true) then ((bif (((wr .i64 (v108 + 1)) == (l9.length : Int)) == false) then (bif inB v108 ((v11.drop v11o).take v11w).length then (idx ((v11.drop v11o).take v11w) v108).bind fun x24' =>
                                          (bif inB (wr .i64 (v108 + 1)) ((v11.drop v11o).take v11w).length then (idx ((v11.drop v11o).take v11w) (wr .i64 (v108 + 1))).bind fun x25' =>
                                            (D62 n x24' x25').bind fun r26' =>
                                            some (decide (r26' < 0))
                                          else none)
                                        else none)
                                      else some true)).bind fun b27' =>
                                    some b27'
                                  else some false)).bind fun b28' =>
                                some b28'
                              else some true)).bind fun b29' =>
                            (bif b29' then (D39 n l9 ((v11.drop v11o).take v11w)).bind fun r30' =>
                              ((bif ((r30' == 14) == true) then (D18 n).bind fun r31' =>
                                  some r31'
                                else some false)).bind fun b32' =>
                              some b32'
                            else f1 v11o v11w want14 (wr .i64 (Int.tdiv (wr .i64 ((wr .i64 (num18 * (wr .i64 (Int.tdiv x19'.2 r18')))) + (wr .i64 ((wr .i64 (x16'.2 * (wr .i64 ((wr .i64 (x16'.1 * x20'.2)) - x21'.1)))) * (wr .i64 (Int.tdiv v19 r18')))))) r23')) (wr .i64 (Int.tdiv (wr .i64 ((wr .i64 (Int.tdiv v19 r18')) * x22'.2)) r23')) v107 (wr .i64 (v108 + 1)) l9 v11)))
                      else none)))
                else none)
              else none))
          else none)
        else none)
      else none)
    else (D39 n l9 ((v11.drop v11o).take v11w)).bind fun r33' =>
      ((bif ((r33' == want14) == true) then (D18 n).bind fun r34' =>
          some r34'
        else some false)).bind fun b35' =>
      some b35')
noncomputable def DL16_6 (m : Nat) : YLG163 := Nat.rec (motive := fun _ => YLG163) (fun _ _ _ _ _ _ _ _ _ => none) (fun _ ih => DF16_6 n ih) m
theorem DL16_6_succ (m : Nat) : DL16_6 n (m + 1) = DF16_6 n (DL16_6 n m) := rfl
theorem DL16_6_eq (n : Nat × Nat) (hn : n.2 = 1) : ∀ m,L16_6 n m = DL16_6 n m
  | 0 => by funext v11o v11w want14 num18 v19 v107 v108 l9 v11; kernel_rfl
  | m + 1 => by
    have ih := DL16_6_eq n hn m
    funext v11o v11w want14 num18 v19 v107 v108 l9 v11; refine (L16_6_eq n m v11o v11w want14 num18 v19 v107 v108 l9 v11).trans ?_
    rw [DL16_6_succ]
    unfold DF16_6
    (try simp only [ih,DL16_3_eq n hn,DL16_5_eq n hn,S18_D n hn,S39_D n hn,S47_D n hn,S49_D n hn,S52_D n hn,S62_D n hn,S65_D n hn]) <;> first | with_reducible rfl | rfl
noncomputable def DF16_4 (f1 : YLG162) (v11o : Nat) (v11w : Nat) (want14 : Int) (i17 : Int) (l9 : LP) (v11 : LP) : Option R16 :=
    (bif decide (i17 < (((v11.drop v11o).take v11w).length : Int)) then ((bif ((want14 == 0) == true) then (bif inB i17 ((v11.drop v11o).take v11w).length then (idx ((v11.drop v11o).take v11w) i17).bind fun x9' =>
            (bif inB (wr .i64 (i17 - 1)) ((v11.drop v11o).take v11w).length then (idx ((v11.drop v11o).take v11w) (wr .i64 (i17 - 1))).bind fun x10' =>
              (D62 n x9' x10').bind fun r11' =>
              some (decide (r11' < 0))
            else none)
          else none)
        else some false)).bind fun b12' =>
      (bif b12' then DL16_5 n f1 v11o v11w 7 i17 l9 v11
      else DL16_5 n f1 v11o v11w want14 i17 l9 v11)
    else (bif (want14 == 0) then DL16_6 n n.1 v11o v11w want14 0 1 (l9.length : Int) 0 l9 v11
      else (D39 n l9 ((v11.drop v11o).take v11w)).bind fun r13' =>
        ((bif ((r13' == want14) == true) then (D18 n).bind fun r14' =>
            some r14'
          else some false)).bind fun b15' =>
        some b15'))
noncomputable def DL16_4 (m : Nat) : YLG162 := Nat.rec (motive := fun _ => YLG162) (fun _ _ _ _ _ _ => none) (fun _ ih => DF16_4 n ih) m
theorem DL16_4_succ (m : Nat) : DL16_4 n (m + 1) = DF16_4 n (DL16_4 n m) := rfl
theorem DL16_4_eq (n : Nat × Nat) (hn : n.2 = 1) : ∀ m,L16_4 n m = DL16_4 n m
  | 0 => by funext v11o v11w want14 i17 l9 v11; kernel_rfl
  | m + 1 => by
    have ih := DL16_4_eq n hn m
    funext v11o v11w want14 i17 l9 v11; refine (L16_4_eq n m v11o v11w want14 i17 l9 v11).trans ?_
    rw [DL16_4_succ]
    unfold DF16_4
    (try simp only [ih,DL16_3_eq n hn,DL16_5_eq n hn,DL16_6_eq n hn,S18_D n hn,S39_D n hn,S47_D n hn,S49_D n hn,S52_D n hn,S62_D n hn,S65_D n hn]) <;> first | with_reducible rfl | rfl
noncomputable def DF16_2 (f1 : YLG161) (v11o : Nat) (v11w : Nat) (want14 : Int) (v69o : Nat) (v69w : Nat) (v70 : Int) (v71 : Int) (l9 : LP) (v11 : LP) : Option R16 :=
    (bif decide (v71 < v70) then (bif inB v71 ((v11.drop v69o).take v69w).length then (idx ((v11.drop v69o).take v69w) v71).bind fun x7' =>
        ((bif ((want14 == 0) == true) then some (decide (x7'.2 > 72))
          else some false)).bind fun b8' =>
        (bif b8' then DL16_3 n f1 v11o v11w 1 v69o v69w v70 v71 l9 v11
        else DL16_3 n f1 v11o v11w want14 v69o v69w v70 v71 l9 v11)
      else none)
    else DL16_4 n n.1 v11o v11w want14 1 l9 v11)
noncomputable def DL16_2 (m : Nat) : YLG161 := Nat.rec (motive := fun _ => YLG161) (fun _ _ _ _ _ _ _ _ _ => none) (fun _ ih => DF16_2 n ih) m
theorem DL16_2_succ (m : Nat) : DL16_2 n (m + 1) = DF16_2 n (DL16_2 n m) := rfl
theorem DL16_2_eq (n : Nat × Nat) (hn : n.2 = 1) : ∀ m,L16_2 n m = DL16_2 n m
  | 0 => by funext v11o v11w want14 v69o v69w v70 v71 l9 v11; kernel_rfl
  | m + 1 => by
    have ih := DL16_2_eq n hn m
    funext v11o v11w want14 v69o v69w v70 v71 l9 v11; refine (L16_2_eq n m v11o v11w want14 v69o v69w v70 v71 l9 v11).trans ?_
    rw [DL16_2_succ]
    unfold DF16_2
    (try simp only [ih,DL16_3_eq n hn,DL16_5_eq n hn,DL16_6_eq n hn,DL16_4_eq n hn,S18_D n hn,S39_D n hn,S47_D n hn,S49_D n hn,S52_D n hn,S62_D n hn,S65_D n hn]) <;> first | with_reducible rfl | rfl
abbrev YLG164 := Int → Int → Int → Int → Int → Int → Int → Int → Int → Int → Int → Int → LP → LP → LP → Option R16
noncomputable def DF16_1 (f1 : YLG164) (long3 : Int) (d10 : Int) (v31 : Int) (v32 : Int) (nums6_0 : Int) (nums6_1 : Int) (nums6_2 : Int) (nums6_3 : Int) (nums6_4 : Int) (nums6_5 : Int) (nums6_6 : Int) (nums6_7 : Int) (l9 : LP) (v11 : LP) (v30 : LP) : Option R16 :=
    (bif decide (v32 < v31) then (bif inB v32 v30.length then (idx v30 v32).bind fun x3' =>
        (bif inB v32 8 then (idx [nums6_0,nums6_1,nums6_2,nums6_3,nums6_4,nums6_5,nums6_6,nums6_7] v32).bind fun x4' =>
          (bif decide (x4' < 40) then (bif inB v32 8 then (idx [nums6_0,nums6_1,nums6_2,nums6_3,nums6_4,nums6_5,nums6_6,nums6_7] v32).bind fun x5' =>
              (bif 3 == 0 then none
              else (D52 n (wr .i64 (Int.tdiv (wr .i64 ((wr .i64 x5') * d10)) 3)) d10).bind fun r6' =>
                (bif decide (v11.length + [r6'].length ≤ lim) then f1 long3 d10 v31 (wr .i64 (v32 + 1)) nums6_0 nums6_1 nums6_2 nums6_3 nums6_4 nums6_5 nums6_6 nums6_7 l9 (v11 ++ [r6']) v30
                else none))
            else none)
          else (bif decide (v11.length + [x3'].length ≤ lim) then f1 long3 d10 v31 (wr .i64 (v32 + 1)) nums6_0 nums6_1 nums6_2 nums6_3 nums6_4 nums6_5 nums6_6 nums6_7 l9 (v11 ++ [x3']) v30
            else none))
        else none)
      else none)
    else (bif 250 == 0 then none
      else (bif 2 == 0 then none
        else (bif bounds none (some (wr .i64 ((v11.length : Int) - (Int.tmod (wr .i64 (Int.tdiv (wr .i64 long3) 250)) 2)))) none v11.length then (bif ((((v11.drop (0 + 0)).take ((Int.toNat (wr .i64 ((v11.length : Int) - (Int.tmod (wr .i64 (Int.tdiv (wr .i64 long3) 250)) 2)))) - 0)).length : Int) != (l9.length : Int)) then DL16_2 n n.1 (0 + 0) ((Int.toNat (wr .i64 ((v11.length : Int) - (Int.tmod (wr .i64 (Int.tdiv (wr .i64 long3) 250)) 2)))) - 0) 5 (0 + 0) ((Int.toNat (wr .i64 ((v11.length : Int) - (Int.tmod (wr .i64 (Int.tdiv (wr .i64 long3) 250)) 2)))) - 0) (((v11.drop (0 + 0)).take ((Int.toNat (wr .i64 ((v11.length : Int) - (Int.tmod (wr .i64 (Int.tdiv (wr .i64 long3) 250)) 2)))) - 0)).length : Int) 0 l9 v11
            else DL16_2 n n.1 (0 + 0) ((Int.toNat (wr .i64 ((v11.length : Int) - (Int.tmod (wr .i64 (Int.tdiv (wr .i64 long3) 250)) 2)))) - 0) 0 (0 + 0) ((Int.toNat (wr .i64 ((v11.length : Int) - (Int.tmod (wr .i64 (Int.tdiv (wr .i64 long3) 250)) 2)))) - 0) (((v11.drop (0 + 0)).take ((Int.toNat (wr .i64 ((v11.length : Int) - (Int.tmod (wr .i64 (Int.tdiv (wr .i64 long3) 250)) 2)))) - 0)).length : Int) 0 l9 v11)
          else none))))
noncomputable def DL16_1 (m : Nat) : YLG164 := Nat.rec (motive := fun _ => YLG164) (fun _ _ _ _ _ _ _ _ _ _ _ _ _ _ _ => none) (fun _ ih => DF16_1 n ih) m
theorem DL16_1_succ (m : Nat) : DL16_1 n (m + 1) = DF16_1 n (DL16_1 n m) := rfl
theorem DL16_1_eq (n : Nat × Nat) (hn : n.2 = 1) : ∀ m,L16_1 n m = DL16_1 n m
  | 0 => by funext long3 d10 v31 v32 nums6_0 nums6_1 nums6_2 nums6_3 nums6_4 nums6_5 nums6_6 nums6_7 l9 v11 v30; kernel_rfl
  | m + 1 => by
    have ih := DL16_1_eq n hn m
    funext long3 d10 v31 v32 nums6_0 nums6_1 nums6_2 nums6_3 nums6_4 nums6_5 nums6_6 nums6_7 l9 v11 v30; refine (L16_1_eq n m long3 d10 v31 v32 nums6_0 nums6_1 nums6_2 nums6_3 nums6_4 nums6_5 nums6_6 nums6_7 l9 v11 v30).trans ?_
    rw [DL16_1_succ]
    unfold DF16_1
    (try simp only [ih,DL16_3_eq n hn,DL16_5_eq n hn,DL16_6_eq n hn,DL16_4_eq n hn,DL16_2_eq n hn,S18_D n hn,S39_D n hn,S47_D n hn,S49_D n hn,S52_D n hn,S62_D n hn,S65_D n hn]) <;> first | with_reducible rfl | rfl
noncomputable def D16 (a0 : Int × (Int × Int × Int × Int × Int × Int × Int × Int) × Int × Int × Int × Int × Int × Int × Int × Int) (den1 : Int) (nums2 : Int × Int × Int × Int × Int × Int × Int × Int) (long3 : Int) : Option R16 :=
    (D47 n a0 8 12).bind fun r1' =>
    (bif 74 == 0 then none
    else (D65 n r1').bind fun r2' =>
      DL16_1 n n.1 long3 (wr .i64 (1 + (Int.tmod (wr .i64 den1) 74))) (r2'.length : Int) 0 nums2.1 nums2.2.1 nums2.2.2.1 nums2.2.2.2.1 nums2.2.2.2.2.1 nums2.2.2.2.2.2.1 nums2.2.2.2.2.2.2.1 nums2.2.2.2.2.2.2.2 r1' [] r2')
theorem S16_D (hn : n.2 = 1) : S16 n = D16 n := by
  funext a0 den1 nums2 long3; refine (S16_eq n a0 den1 nums2 long3).trans ?_
  unfold D16
  (try simp only [DL16_3_eq n hn,DL16_5_eq n hn,DL16_6_eq n hn,DL16_4_eq n hn,DL16_2_eq n hn,DL16_1_eq n hn,S18_D n hn,S39_D n hn,S47_D n hn,S49_D n hn,S52_D n hn,S62_D n hn,S65_D n hn]) <;> first | with_reducible rfl | rfl

end Go.Proofs.Ytombednapelokaa
