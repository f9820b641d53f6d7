/- Texts of this claim, joined: G44 to Gl. -/
import Derived.Carry
import Derived.JoinedCond
import Derived.KernelRfl
import Derived.LaidLaws
import Derived.OpenShut
import Derived.ProofKit
import Derived.Test.YtgmonagekfjnmaaDoorProg
import Derived.Test.YtgmonagekfjnmaaDoorRows
import Derived.WalkKit
import Derived.Test.YtgmonagekfjnmaaDoorP5
set_option linter.unusedVariables false
set_option linter.unusedSimpArgs false
set_option maxRecDepth 100000
namespace Go.Proofs.YtgmonagekfjnmaaDoor
open Go.Vi
abbrev R44 := Int × Int
noncomputable def c44 : Code := bodyOf Tryd.f44
noncomputable def an44 : Ann := (.s .l (.s (.s .l (.s .l (.j [0, 1] .l .l))) (.s .l (.s (.s .l (.j [] (.j [0, 1, 7, 20, 21] (.s .l (.s (.j [0, 1, 7, 20, 21] .l .l) (.s (.j [0, 1, 7, 20, 21] (.s .l (.s .l (.j [0, 1, 7, 20, 21] .l .l))) .l) .l))) .l) .l)) .l))))
def pk44 : List PK := [.c (.int .i64), .c (.sl (.int .i64))]
def rk44 : List RK := [.c (.int .i64) 4, .c (.int .i64) 5]
noncomputable def rt44 (st : St) : Option R44 := rtG rk44 st
noncomputable def E44 (n : Nat × Nat) : Env := { T := tab, phi := (consPhi 26 (fun _ => true) (P26 n) (consPhi 82 (fun _ => true) (P82 n) (consPhi 87 (fun _ => true) (P87 n) noPhi))), eff := fun _ => false, fuel := n.1, hold := n.2 }
noncomputable def kq44_3 (n : Nat × Nat) : St → Option R44 := run (E44 n) (cB (cB (cB (cB c44)))) (Ann.snd (Ann.snd (Ann.snd (Ann.snd an44)))) rt44 (fun _ _ => none) rt44
noncomputable def xb44_5 (n : Nat × Nat) : Nat → St → Option R44 := fun j s => bif Nat.beq j 0 then normC [] s (kq44_3 n) else (fun _ _ => none) j s
noncomputable def F44_6 (n : Nat × Nat) : (St → Option R44) → St → Option R44 := fun K s => run (E44 n) (cA (cA (cB (cA (cB (cB (cB c44))))))) (Ann.fst (Ann.fst (Ann.snd (Ann.fst (Ann.snd (Ann.snd (Ann.snd an44))))))) (fun s => normC [0, 1, 7, 20, 21] s K) (xb44_5 n) rt44 s
noncomputable def L44_1 (n : Nat × Nat) (m : Nat) (size0 : Int) (pieces1 : List Int) (v7 : Int) (v20 : Int) (v21 : Int) : Option R44 := loopN (F44_6 n) m { tm := [.c (.int .i64 size0), .c (.sl (.int .i64) pieces1 false), uu, uu, uu, uu, uu, .c (.int .i64 v7), uu, uu, uu, uu, uu, uu, uu, uu, uu, uu, uu, uu, .c (.int .i64 v20), .c (.int .i64 v21), uu, uu, uu, uu, uu, uu, uu, uu, uu, uu], hp := emp }
theorem L44_1_eq (n : Nat × Nat) (m1 : Nat) (size0 : Int) (pieces1 : List Int) (v7 : Int) (v20 : Int) (v21 : Int) : L44_1 n (m1 + 1) size0 pieces1 v7 v20 v21 =
 (bif decide (v21 < v20) then (S87 n size0 pieces1 v21).bind fun r3' =>
 (bif (r3' == v7) then some (v21, 0)
 else L44_1 n m1 size0 pieces1 v7 v20 (wr .i64 (v21 + 1)))
 else some (0, 12)) := by kernel_rfl
noncomputable def S44 (n : Nat × Nat) (size0 : Int) (pieces1 : List Int) : Option R44 := run (E44 n) c44 an44 rt44 (fun _ _ => none) rt44 { tm := [.c (.int .i64 size0), .c (.sl (.int .i64) pieces1 false), uu, uu, uu, uu, uu, uu, uu, uu, uu, uu, uu, uu, uu, uu, uu, uu, uu, uu, uu, uu, uu, uu, uu, uu, uu, uu, uu, uu, uu, uu], hp := emp }
theorem S44_eq (n : Nat × Nat) (size0 : Int) (pieces1 : List Int) : S44 n size0 pieces1 =
 (S26 n size0 pieces1).bind fun r1' =>
 (bif (r1' != 0) then some (0, r1')
 else (S82 n size0 pieces1).bind fun r2' =>
 (bif 2 == 0 then none
 else L44_1 n n.1 size0 pieces1 r2' (wr .i64 ((wr .i64 (Int.tdiv size0 2)) + 1)) 0)) := by kernel_rfl
theorem S44_run (n : Nat × Nat) (xs : pksDen pk44) : S44 n xs.1 xs.2.1 = runG (E44 n) noScope c44 an44 (rtG rk44) (fun _ _ => none) (rtG rk44) (st0 pk44 xs Tryd.f44.ntmps) := by kernel_rfl
noncomputable def P44 (n : Nat × Nat) := phiOf pk44 rk44 (fun xs => S44 n xs.1 xs.2.1)
theorem call44 : CallOK Tryd.prog 44 := callOK_of Tryd.func44 (by kernel_rfl) (by kernel_rfl)
theorem env44 (n : Nat × Nat) : EnvOK Tryd.prog (E44 n) := envOK0 (consPhi_ok (FC26 n) call26 (consPhi_ok (FC82 n) call82 (consPhi_ok (FC87 n) call87 noPhi_ok))) rfl rfl
theorem par44 (n : Nat × Nat) : EnvPar (E44 n) := envPar0 (consPhi_par phiOf_Par1 (consPhi_par phiOf_Par1 (consPhi_par phiOf_Par1 noPhi_par))) rfl
theorem FC44 (n : Nat × Nat) : FCs Tryd.prog 44 (P44 n) := phiOf_FCs fun xs r h vs hv => FC.of_runG tabOK eqsOK (env44 n) (par44 n) mixed (fun _ p _ => noScope_ok p.1 p.2) Tryd.func44 (c := c44) (an := an44) (pks := pk44) (rks := rk44) (by kernel_rfl) (by kernel_rfl) hv ((S44_run n xs).symm.trans h)
abbrev R24 := Bool
noncomputable def c24 : Code := bodyOf Tryd.f24
noncomputable def an24 : Ann := (.s .l (.s (.s .l (.j [0, 1] .l .l)) (.s (.s .l (.j [] (.j [0, 1, 5] (.s (.s .l (.j [0, 1, 5] .l .l)) (.s (.j [0, 1, 5] (.s .l (.j [0, 1, 5] .l .l)) .l) .l)) .l) .l)) .l)))
def pk24 : List PK := [.c (.sl (.int .i64)), .c (.sl (.int .i64))]
def rk24 : List RK := [.c .bool 4]
noncomputable def rt24 (st : St) : Option R24 := rtG rk24 st
noncomputable def E24 (n : Nat × Nat) : Env := { T := tab, phi := noPhi, eff := fun _ => false, fuel := n.1, hold := n.2 }
noncomputable def kq24_3 (n : Nat × Nat) : St → Option R24 := run (E24 n) (cB (cB (cB c24))) (Ann.snd (Ann.snd (Ann.snd an24))) rt24 (fun _ _ => none) rt24
noncomputable def xb24_5 (n : Nat × Nat) : Nat → St → Option R24 := fun j s => bif Nat.beq j 0 then normC [] s (kq24_3 n) else (fun _ _ => none) j s
noncomputable def F24_6 (n : Nat × Nat) : (St → Option R24) → St → Option R24 := fun K s => run (E24 n) (cA (cA (cB (cA (cB (cB c24)))))) (Ann.fst (Ann.fst (Ann.snd (Ann.fst (Ann.snd (Ann.snd an24)))))) (fun s => normC [0, 1, 5] s K) (xb24_5 n) rt24 s
noncomputable def L24_1 (n : Nat × Nat) (m : Nat) (a0 : List Int) (b1 : List Int) (i5 : Int) : Option R24 := loopN (F24_6 n) m { tm := [.c (.sl (.int .i64) a0 false), .c (.sl (.int .i64) b1 false), uu, uu, uu, .c (.int .i64 i5), uu, uu, uu, uu, uu, uu, uu, uu, uu, uu, uu, uu, uu, uu, uu, uu, uu, uu, uu, uu], hp := emp }
theorem L24_1_eq (n : Nat × Nat) (m1 : Nat) (a0 : List Int) (b1 : List Int) (i5 : Int) : L24_1 n (m1 + 1) a0 b1 i5 =
 (bif decide (i5 < (a0.length : Int)) then (idx a0 i5).bind fun x1' =>
 (idx b1 i5).bind fun x2' =>
 (bif (x1' != x2') then some false
 else L24_1 n m1 a0 b1 (wr .i64 (i5 + 1)))
 else some true) := by kernel_rfl
noncomputable def S24 (n : Nat × Nat) (a0 : List Int) (b1 : List Int) : Option R24 := run (E24 n) c24 an24 rt24 (fun _ _ => none) rt24 { tm := [.c (.sl (.int .i64) a0 false), .c (.sl (.int .i64) b1 false), uu, uu, uu, uu, uu, uu, uu, uu, uu, uu, uu, uu, uu, uu, uu, uu, uu, uu, uu, uu, uu, uu, uu, uu], hp := emp }
theorem S24_eq (n : Nat × Nat) (a0 : List Int) (b1 : List Int) : S24 n a0 b1 =
 (bif ((a0.length : Int) != (b1.length : Int)) then some false
 else L24_1 n n.1 a0 b1 0) := by kernel_rfl
theorem S24_run (n : Nat × Nat) (xs : pksDen pk24) : S24 n xs.1 xs.2.1 = runG (E24 n) noScope c24 an24 (rtG rk24) (fun _ _ => none) (rtG rk24) (st0 pk24 xs Tryd.f24.ntmps) := by kernel_rfl
noncomputable def P24 (n : Nat × Nat) := phiOf pk24 rk24 (fun xs => S24 n xs.1 xs.2.1)
theorem call24 : CallOK Tryd.prog 24 := callOK_of Tryd.func24 (by kernel_rfl) (by kernel_rfl)
theorem env24 (n : Nat × Nat) : EnvOK Tryd.prog (E24 n) := envOK0 noPhi_ok rfl rfl
theorem par24 (n : Nat × Nat) : EnvPar (E24 n) := envPar0 noPhi_par rfl
theorem FC24 (n : Nat × Nat) : FCs Tryd.prog 24 (P24 n) := phiOf_FCs fun xs r h vs hv => FC.of_runG tabOK eqsOK (env24 n) (par24 n) mixed (fun _ p _ => noScope_ok p.1 p.2) Tryd.func24 (c := c24) (an := an24) (pks := pk24) (rks := rk24) (by kernel_rfl) (by kernel_rfl) hv ((S24_run n xs).symm.trans h)
abbrev R25 := Bool
noncomputable def c25 : Code := bodyOf Tryd.f25
noncomputable def an25 : Ann := (.s .l (.s (.s .l (.j [0, 1] .l .l)) (.s (.s .l (.j [] (.j [0, 1, 5] (.s (.s .l (.j [0, 1, 5] .l .l)) (.s (.j [0, 1, 5] (.s .l (.j [0, 1, 5] .l .l)) .l) .l)) .l) .l)) .l)))
def pk25 : List PK := [.c (.sl (.sl (.int .i64))), .c (.sl (.sl (.int .i64)))]
def rk25 : List RK := [.c .bool 4]
noncomputable def rt25 (st : St) : Option R25 := rtG rk25 st
noncomputable def E25 (n : Nat × Nat) : Env := { T := tab, phi := (consPhi 24 (fun _ => true) (P24 n) noPhi), eff := fun _ => false, fuel := n.1, hold := n.2 }
noncomputable def kq25_3 (n : Nat × Nat) : St → Option R25 := run (E25 n) (cB (cB (cB c25))) (Ann.snd (Ann.snd (Ann.snd an25))) rt25 (fun _ _ => none) rt25
noncomputable def xb25_5 (n : Nat × Nat) : Nat → St → Option R25 := fun j s => bif Nat.beq j 0 then normC [] s (kq25_3 n) else (fun _ _ => none) j s
noncomputable def F25_6 (n : Nat × Nat) : (St → Option R25) → St → Option R25 := fun K s => run (E25 n) (cA (cA (cB (cA (cB (cB c25)))))) (Ann.fst (Ann.fst (Ann.snd (Ann.fst (Ann.snd (Ann.snd an25)))))) (fun s => normC [0, 1, 5] s K) (xb25_5 n) rt25 s
noncomputable def L25_1 (n : Nat × Nat) (m : Nat) (a0 : List (List Int)) (b1 : List (List Int)) (i5 : Int) : Option R25 := loopN (F25_6 n) m { tm := [.c (.sl (.sl (.int .i64)) a0 false), .c (.sl (.sl (.int .i64)) b1 false), uu, uu, uu, .c (.int .i64 i5), uu, uu, uu, uu, uu, uu, uu, uu, uu, uu, uu, uu, uu, uu, uu, uu, uu, uu, uu, uu, uu], hp := emp }
theorem L25_1_eq (n : Nat × Nat) (m1 : Nat) (a0 : List (List Int)) (b1 : List (List Int)) (i5 : Int) : L25_1 n (m1 + 1) a0 b1 i5 =
 (bif decide (i5 < (a0.length : Int)) then (idx a0 i5).bind fun x1' =>
 (idx b1 i5).bind fun x2' =>
 (S24 n x1' x2').bind fun r3' =>
 (bif (!r3') then some false
 else L25_1 n m1 a0 b1 (wr .i64 (i5 + 1)))
 else some true) := by kernel_rfl
noncomputable def S25 (n : Nat × Nat) (a0 : List (List Int)) (b1 : List (List Int)) : Option R25 := run (E25 n) c25 an25 rt25 (fun _ _ => none) rt25 { tm := [.c (.sl (.sl (.int .i64)) a0 false), .c (.sl (.sl (.int .i64)) b1 false), uu, uu, uu, uu, uu, uu, uu, uu, uu, uu, uu, uu, uu, uu, uu, uu, uu, uu, uu, uu, uu, uu, uu, uu, uu], hp := emp }
theorem S25_eq (n : Nat × Nat) (a0 : List (List Int)) (b1 : List (List Int)) : S25 n a0 b1 =
 (bif ((a0.length : Int) != (b1.length : Int)) then some false
 else L25_1 n n.1 a0 b1 0) := by kernel_rfl
theorem S25_run (n : Nat × Nat) (xs : pksDen pk25) : S25 n xs.1 xs.2.1 = runG (E25 n) noScope c25 an25 (rtG rk25) (fun _ _ => none) (rtG rk25) (st0 pk25 xs Tryd.f25.ntmps) := by kernel_rfl
noncomputable def P25 (n : Nat × Nat) := phiOf pk25 rk25 (fun xs => S25 n xs.1 xs.2.1)
theorem call25 : CallOK Tryd.prog 25 := callOK_of Tryd.func25 (by kernel_rfl) (by kernel_rfl)
theorem env25 (n : Nat × Nat) : EnvOK Tryd.prog (E25 n) := envOK0 (consPhi_ok (FC24 n) call24 noPhi_ok) rfl rfl
theorem par25 (n : Nat × Nat) : EnvPar (E25 n) := envPar0 (consPhi_par phiOf_Par1 noPhi_par) rfl
theorem FC25 (n : Nat × Nat) : FCs Tryd.prog 25 (P25 n) := phiOf_FCs fun xs r h vs hv => FC.of_runG tabOK eqsOK (env25 n) (par25 n) mixed (fun _ p _ => noScope_ok p.1 p.2) Tryd.func25 (c := c25) (an := an25) (pks := pk25) (rks := rk25) (by kernel_rfl) (by kernel_rfl) hv ((S25_run n xs).symm.trans h)
abbrev R46 := Int
noncomputable def c46 : Code := bodyOf Tryd.f46
noncomputable def an46 : Ann := (.s .l (.s .l (.s (.s .l (.j [0, 1, 3, 9] .l .l)) (.s (.s .l (.j [] (.s .l (.j [] .l (.s .l (.j [] .l .l)))) .l)) .l))))
def pk46 : List PK := [.c (.int .i64), .c (.sl (.int .i64)), .c (.sl (.int .i64)), .c (.int .i64)]
def rk46 : List RK := [.c (.int .i64) 8]
noncomputable def rt46 (st : St) : Option R46 := rtG rk46 st
noncomputable def E46 (n : Nat × Nat) : Env := { T := tab, phi := (consPhi 42 (fun _ => true) (P42 n) (consPhi 66 (fun _ => true) (P66 n) noPhi)), eff := fun _ => false, fuel := n.1, hold := n.2 }
noncomputable def S46 (n : Nat × Nat) (size0 : Int) (pieces1 : List Int) (plan2 : List Int) (k3 : Int) : Option R46 := run (E46 n) c46 an46 rt46 (fun _ _ => none) rt46 { tm := [.c (.int .i64 size0), .c (.sl (.int .i64) pieces1 false), .c (.sl (.int .i64) plan2 false), .c (.int .i64 k3), uu, uu, uu, uu, uu, uu, uu, uu, uu, uu, uu, uu, uu, uu, uu, uu, uu, uu, uu, uu, uu, uu, uu, uu, uu, uu, uu, uu, uu, uu, uu, uu, uu, uu, uu], hp := emp }
theorem S46_eq (n : Nat × Nat) (size0 : Int) (pieces1 : List Int) (plan2 : List Int) (k3 : Int) : S46 n size0 pieces1 plan2 k3 =
 (S66 n size0 pieces1 plan2).bind fun r1' =>
 (bif (r1'.2 != 0) then some r1'.2
 else (S42 n size0 pieces1 k3).bind fun r2' =>
 (bif (r2'.2 != 0) then some r2'.2
 else (bif (r2'.1 != (r1'.1.length : Int)) then some 14
 else some 0))) := by kernel_rfl
theorem S46_run (n : Nat × Nat) (xs : pksDen pk46) : S46 n xs.1 xs.2.1 xs.2.2.1 xs.2.2.2.1 = runG (E46 n) noScope c46 an46 (rtG rk46) (fun _ _ => none) (rtG rk46) (st0 pk46 xs Tryd.f46.ntmps) := by kernel_rfl
noncomputable def P46 (n : Nat × Nat) := phiOf pk46 rk46 (fun xs => S46 n xs.1 xs.2.1 xs.2.2.1 xs.2.2.2.1)
theorem call46 : CallOK Tryd.prog 46 := callOK_of Tryd.func46 (by kernel_rfl) (by kernel_rfl)
theorem env46 (n : Nat × Nat) : EnvOK Tryd.prog (E46 n) := envOK0 (consPhi_ok (FC42 n) call42 (consPhi_ok (FC66 n) call66 noPhi_ok)) rfl rfl
theorem par46 (n : Nat × Nat) : EnvPar (E46 n) := envPar0 (consPhi_par phiOf_Par1 (consPhi_par phiOf_Par1 noPhi_par)) rfl
theorem FC46 (n : Nat × Nat) : FCs Tryd.prog 46 (P46 n) := phiOf_FCs fun xs r h vs hv => FC.of_runG tabOK eqsOK (env46 n) (par46 n) mixed (fun _ p _ => noScope_ok p.1 p.2) Tryd.func46 (c := c46) (an := an46) (pks := pk46) (rks := rk46) (by kernel_rfl) (by kernel_rfl) hv ((S46_run n xs).symm.trans h)
abbrev R17 := Bool
noncomputable def c17 : Code := bodyOf Tryd.f17
noncomputable def an17 : Ann := (.s .l (.s .l (.s .l (.s .l (.s .l (.s .l (.s .l (.s .l (.s (.s .l (.j [1, 3, 5, 7, 9, 11, 13, 139, 140, 143, 144, 147, 148, 151, 152, 155, 156, 159, 160, 163, 164, 165, 166, 169, 170, 171, 172, 175, 176, 179, 180, 181, 182, 185, 186, 189, 190, 191, 192, 195, 196, 197, 198, 199, 200, 201, 202, 203, 204, 207, 208, 209, 212, 215, 216, 219, 220, 223, 224, 227, 228, 229, 230, 233, 234, 235, 236, 239, 240, 241, 242, 243] .l .l)) .l)))))))))
def pk17 : List PK := []
def rk17 : List RK := [.c .bool 0]
noncomputable def rt17 (st : St) : Option R17 := rtG rk17 st
noncomputable def E17 (n : Nat × Nat) : Env := { T := tabL, phi := (consPhi 18 (fun _ => true) (P18 n) (consPhi 20 (fun _ => true) (P20 n) (consPhi 22 (fun _ => true) (P22 n) (consPhi 24 (fun _ => true) (P24 n) (consPhi 25 (fun _ => true) (P25 n) (consPhi 28 (fun _ => true) (P28 n) (consPhi 30 (fun _ => true) (P30 n) (consPhi 32 (fun _ => true) (P32 n) (consPhi 34 (fun _ => true) (P34 n) (consPhi 36 (fun _ => true) (P36 n) (consPhi 38 (fun _ => true) (P38 n) (consPhi 40 (fun _ => true) (P40 n) (consPhi 42 (fun _ => true) (P42 n) (consPhi 44 (fun _ => true) (P44 n) (consPhi 46 (fun _ => true) (P46 n) (consPhi 57 (fun _ => true) (P57 n) (consPhi 58 (fun _ => true) (P58 n) (consPhi 60 (fun _ => true) (P60 n) (consPhi 65 (fun _ => true) (P65 n) noPhi))))))))))))))))))), eff := fun g => Nat.beq g 20 || Nat.beq g 36, fuel := n.1, hold := n.2 }
noncomputable def S17 (n : Nat × Nat) : Option R17 := run (E17 n) c17 an17 rt17 (fun _ _ => none) rt17 { tm := [uu, uu, uu, uu, uu, uu, uu, uu, uu, uu, uu, uu, uu, uu, uu, uu, uu, uu, uu, uu, uu, uu, uu, uu, uu, uu, uu, uu, uu, uu, uu, uu, uu, uu, uu, uu, uu, uu, uu, uu, uu, uu, uu, uu, uu, uu, uu, uu, uu, uu, uu, uu, uu, uu, uu, uu, uu, uu, uu, uu, uu, uu, uu, uu, uu, uu, uu, uu, uu, uu, uu, uu, uu, uu, uu, uu, uu, uu, uu, uu, uu, uu, uu, uu, uu, uu, uu, uu, uu, uu, uu, uu, uu, uu, uu, uu, uu, uu, uu, uu, uu, uu, uu, uu, uu, uu, uu, uu, uu, uu, uu, uu, uu, uu, uu, uu, uu, uu, uu, uu, uu, uu, uu, uu, uu, uu, uu, uu, uu, uu, uu, uu, uu, uu, uu, uu, uu, uu, uu, uu, uu, uu, uu, uu, uu, uu, uu, uu, uu, uu, uu, uu, uu, uu, uu, uu, uu, uu, uu, uu, uu, uu, uu, uu, uu, uu, uu, uu, uu, uu, uu, uu, uu, uu, uu, uu, uu, uu, uu, uu, uu, uu, uu, uu, uu, uu, uu, uu, uu, uu, uu, uu, uu, uu, uu, uu, uu, uu, uu, uu, uu, uu, uu, uu, uu, uu, uu, uu, uu, uu, uu, uu, uu, uu, uu, uu, uu, uu, uu, uu, uu, uu, uu, uu, uu, uu, uu, uu, uu, uu, uu, uu, uu, uu, uu, uu, uu, uu, uu, uu, uu, uu, uu, uu, uu], hp := emp }
theorem S17_eq (n : Nat × Nat) : S17 n =
 (S58 n).bind fun r1' =>
 (S30 n 10 r1').bind fun r2' =>
 (S58 n).bind fun r3' =>
 (S32 n 10 r3' [1, 0, 3, 2, 4]).bind fun r4' =>
 (S58 n).bind fun r5' =>
 (S34 n 10 r5').bind fun r6' =>
 (S57 n).bind fun r7' =>
 (S36 n 12 r7').bind fun r8' =>
 (S60 n).bind fun r9' =>
 (S38 n 10 r9').bind fun r10' =>
 (S58 n).bind fun r11' =>
 (S18 n 10 r11' [0, 1, 1, 0, 2]).bind fun r12' =>
 (S58 n).bind fun r13' =>
 (S20 n 10 r13' [0, 1, 1, 0, 2]).bind fun r14' =>
 ((bif ((r2'.2 != 0) == false) then some (r4'.2 != 0)
 else some true)).bind fun b15' =>
 ((bif (b15' == false) then some (r6'.2 != 0)
 else some true)).bind fun b16' =>
 ((bif (b16' == false) then some (r8'.2 != 0)
 else some true)).bind fun b17' =>
 ((bif (b17' == false) then some (r10'.2 != 0)
 else some true)).bind fun b18' =>
 ((bif (b18' == false) then some (r12'.2 != 0)
 else some true)).bind fun b19' =>
 ((bif (b19' == false) then some (r14'.2 != 0)
 else some true)).bind fun b20' =>
 (bif b20' then some false
 else (S58 n).bind fun r21' =>
 (S22 n 10 r21' ([[4], [2, 1], [3, 0]])).bind fun r22' =>
 (S57 n).bind fun r23' =>
 (S40 n 12 r23').bind fun r24' =>
 (S58 n).bind fun r25' =>
 (S40 n 10 r25').bind fun r26' =>
 (S65 n).bind fun r27' =>
 (S42 n 10 r27' 4).bind fun r28' =>
 (S58 n).bind fun r29' =>
 (S44 n 10 r29').bind fun r30' =>
 (S60 n).bind fun r31' =>
 (S44 n 10 r31').bind fun r32' =>
 (S58 n).bind fun r33' =>
 (S22 n 10 r33' ([[0, 3], [3]])).bind fun r34' =>
 ((bif ((r22'.2 == 0) == true) then some (r24'.2 == 0)
 else some false)).bind fun b35' =>
 ((bif (b35' == true) then some (r26'.2 == 0)
 else some false)).bind fun b36' =>
 ((bif (b36' == true) then some (r28'.2 == 0)
 else some false)).bind fun b37' =>
 ((bif (b37' == true) then some (r30'.2 == 0)
 else some false)).bind fun b38' =>
 ((bif (b38' == true) then some (r32'.2 == 12)
 else some false)).bind fun b39' =>
 ((bif (b39' == true) then some (r34'.2 == 6)
 else some false)).bind fun b40' =>
 ((bif (b40' == true) then (S24 n r2'.1 [1, 0, 3, 2, 4]).bind fun r41' =>
 some r41'
 else some false)).bind fun b42' =>
 ((bif (b42' == true) then (S24 n r4'.1 [0, 1, 1, 0, 2]).bind fun r43' =>
 some r43'
 else some false)).bind fun b44' =>
 ((bif (b44' == true) then some (r6'.1 == 3)
 else some false)).bind fun b45' =>
 ((bif (b45' == true) then (S24 n r8'.1 [0, 0, 1, 0, 1, 1]).bind fun r46' =>
 some r46'
 else some false)).bind fun b47' =>
 ((bif (b47' == true) then some (r10'.1 == 15)
 else some false)).bind fun b48' =>
 ((bif (b48' == true) then (S24 n r12'.1 [0, 0, 7]).bind fun r49' =>
 some r49'
 else some false)).bind fun b50' =>
 ((bif (b50' == true) then (S25 n r14'.1 ([[0, 3], [1, 2], [4]])).bind fun r51' =>
 some r51'
 else some false)).bind fun b52' =>
 ((bif (b52' == true) then (S24 n r22'.1 r4'.1).bind fun r53' =>
 some r53'
 else some false)).bind fun b54' =>
 ((bif (b54' == true) then some r24'.1
 else some false)).bind fun b55' =>
 ((bif (b55' == true) then some (!r26'.1)
 else some false)).bind fun b56' =>
 ((bif (b56' == true) then some (r28'.1 == 3)
 else some false)).bind fun b57' =>
 ((bif (b57' == true) then some (r30'.1 == 0)
 else some false)).bind fun b58' =>
 ((bif (b58' == true) then (S58 n).bind fun r59' =>
 (S46 n 10 r59' r4'.1 0).bind fun r60' =>
 some (r60' == 0)
 else some false)).bind fun b61' =>
 ((bif (b61' == true) then (S58 n).bind fun r62' =>
 (S46 n 10 r62' r4'.1 4).bind fun r63' =>
 some (r63' == 14)
 else some false)).bind fun b64' =>
 ((bif (b64' == true) then (S58 n).bind fun r65' =>
 (S28 n 10 r65' [0, 0, 1, 1, 2]).bind fun r66' =>
 some (r66' == 15)
 else some false)).bind fun b67' =>
 some b67') := by kernel_rfl
theorem S17_run (n : Nat × Nat) (xs : pksDen pk17) : S17 n = runG (E17 n) noScope c17 an17 (rtG rk17) (fun _ _ => none) (rtG rk17) (st0 pk17 xs Tryd.f17.ntmps) := by kernel_rfl
noncomputable def P17 (n : Nat × Nat) := phiOf pk17 rk17 (fun xs => S17 n)
theorem call17 : CallOK Tryd.prog 17 := callOK_of Tryd.func17 (by kernel_rfl) (by kernel_rfl)
theorem env17 (n : Nat × Nat) : EnvOK Tryd.prog (E17 n) := envOK0 (consPhi_ok (FC18 n) call18 (consPhi_ok (FC20 n) call20 (consPhi_ok (FC22 n) call22 (consPhi_ok (FC24 n) call24 (consPhi_ok (FC25 n) call25 (consPhi_ok (FC28 n) call28 (consPhi_ok (FC30 n) call30 (consPhi_ok (FC32 n) call32 (consPhi_ok (FC34 n) call34 (consPhi_ok (FC36 n) call36 (consPhi_ok (FC38 n) call38 (consPhi_ok (FC40 n) call40 (consPhi_ok (FC42 n) call42 (consPhi_ok (FC44 n) call44 (consPhi_ok (FC46 n) call46 (consPhi_ok (FC57 n) call57 (consPhi_ok (FC58 n) call58 (consPhi_ok (FC60 n) call60 (consPhi_ok (FC65 n) call65 noPhi_ok))))))))))))))))))) rfl rfl
theorem par17 (n : Nat × Nat) : EnvPar (E17 n) := envPar0 (consPhi_par phiOf_Par1 (consPhi_par phiOf_Par1 (consPhi_par phiOf_Par1 (consPhi_par phiOf_Par1 (consPhi_par phiOf_Par1 (consPhi_par phiOf_Par1 (consPhi_par phiOf_Par1 (consPhi_par phiOf_Par1 (consPhi_par phiOf_Par1 (consPhi_par phiOf_Par1 (consPhi_par phiOf_Par1 (consPhi_par phiOf_Par1 (consPhi_par phiOf_Par1 (consPhi_par phiOf_Par1 (consPhi_par phiOf_Par1 (consPhi_par phiOf_Par1 (consPhi_par phiOf_Par1 (consPhi_par phiOf_Par1 (consPhi_par phiOf_Par1 noPhi_par))))))))))))))))))) rfl
theorem FC17 (n : Nat × Nat) : FCs Tryd.prog 17 (P17 n) := phiOf_FCs fun xs r h vs hv => FC.of_runG tabLOK eqsLOK (env17 n) (par17 n) mixed (fun _ p _ => noScope_ok p.1 p.2) Tryd.func17 (c := c17) (an := an17) (pks := pk17) (rks := rk17) (by kernel_rfl) (by kernel_rfl) hv ((S17_run n xs).symm.trans h)
/-D 58 -/
noncomputable def D58 (n : Nat × Nat) : Option R58 :=
 some [5, 6, 4, 5, 3]
theorem S58_D (n : Nat × Nat) (hn : n.2 = 1) : S58 n = D58 n := by
  refine (S58_eq n).trans ?_
  unfold D58
  first | with_reducible rfl | rfl
/-D 76 -/
noncomputable def D76 (n : Nat × Nat) (p0 : Int) (v1 : Int) : Option R76 :=
 ((bif (decide (p0 < 1) == false) then some (decide (p0 > v1))
 else some true)).bind fun b1' =>
 some b1'
theorem S76_D (n : Nat × Nat) (hn : n.2 = 1) : S76 n = D76 n := by
  funext p0 v1; refine (S76_eq n p0 v1).trans ?_
  unfold D76
  first | with_reducible rfl | rfl
/-D 79c76 -/
noncomputable def DF79c76_1 (n : Nat × Nat) (f1 : List Int → Int → Int → Int → Option R79c76) (s0 : List Int) (f1_0 : Int) (v7 : Int) (v8 : Int) : Option R79c76 :=
 (bif decide (v8 < v7) then (idx s0 v8).bind fun x1' =>
 (D76 n x1' f1_0).bind fun r2' =>
 (bif r2' then some v8
 else f1 s0 f1_0 v7 (wr .i64 (v8 + 1)))
 else some (-1))
noncomputable def DL79c76_1 (n : Nat × Nat) (m : Nat) : List Int → Int → Int → Int → Option R79c76 := Nat.rec (motive := fun _ => List Int → Int → Int → Int → Option R79c76) (fun _ _ _ _ => none) (fun _ ih => DF79c76_1 n ih) m
theorem DL79c76_1_succ (n : Nat × Nat) (m : Nat) : DL79c76_1 n (m + 1) = DF79c76_1 n (DL79c76_1 n m) := rfl
theorem DL79c76_1_eq (n : Nat × Nat) (hn : n.2 = 1) : ∀ m, L79c76_1 n m = DL79c76_1 n m
  | 0 => by funext s0 f1_0 v7 v8; kernel_rfl
  | m + 1 => by
    have ih := DL79c76_1_eq n hn m
    funext s0 f1_0 v7 v8; refine (L79c76_1_eq n m s0 f1_0 v7 v8).trans ?_
    rw [DL79c76_1_succ]
    unfold DF79c76_1
    (try simp only [ih, S76_D n hn]) <;> first | with_reducible rfl | rfl
noncomputable def D79c76 (n : Nat × Nat) (s0 : List Int) (cp_1_0 : Int) : Option R79c76 :=
    DL79c76_1 n n.1 s0 cp_1_0 (s0.length : Int) 0
theorem S79c76_D (n : Nat × Nat) (hn : n.2 = 1) : S79c76 n = D79c76 n := by
  funext s0 cp_1_0; refine (S79c76_eq n s0 cp_1_0).trans ?_
  unfold D79c76
  (try simp only [DL79c76_1_eq n hn, S76_D n hn]) <;> first | with_reducible rfl | rfl
/-D 75c76 -/
noncomputable def D75c76 (n : Nat × Nat) (s0 : List Int) (cp_1_0 : Int) : Option R75c76 :=
 (D79c76 n s0 cp_1_0).bind fun r1' =>
 some (decide (r1' ≥ 0))
theorem S75c76_D (n : Nat × Nat) (hn : n.2 = 1) : S75c76 n = D75c76 n := by
  funext s0 cp_1_0; refine (S75c76_eq n s0 cp_1_0).trans ?_
  unfold D75c76
  (try simp only [S79c76_D n hn]) <;> first | with_reducible rfl | rfl
/-D 26 -/
noncomputable def D26 (n : Nat × Nat) (size0 : Int) (pieces1 : List Int) : Option R26 :=
 ((bif (decide (size0 < 1) == false) then some (decide (size0 > 24))
 else some true)).bind fun b1' =>
 (bif b1' then some 1
 else (bif decide ((pieces1.length : Int) > 8) then some 3
 else (D75c76 n pieces1 size0).bind fun r2' =>
 (bif r2' then some 1
 else some 0)))
theorem S26_D (n : Nat × Nat) (hn : n.2 = 1) : S26 n = D26 n := by
  funext size0 pieces1; refine (S26_eq n size0 pieces1).trans ?_
  unfold D26
  (try simp only [S75c76_D n hn]) <;> first | with_reducible rfl | rfl
/-D 97 -/
noncomputable def D97 (n : Nat × Nat) (i0 : Int) (j1 : Int) (v2 : List Int) : Option R97 :=
 (idx v2 j1).bind fun x1' =>
 (idx v2 i0).bind fun x2' =>
 some (wr .i64 (x1' - x2'))
theorem S97_D (n : Nat × Nat) (hn : n.2 = 1) : S97 n = D97 n := by
  funext i0 j1 v2; refine (S97_eq n i0 j1 v2).trans ?_
  unfold D97
  first | with_reducible rfl | rfl
/-D 105c97io1001 -/
noncomputable def DF105c97io1001_2 (n : Nat × Nat) (f1 : Int → Int → Int → List Int → List Int → Option R105c97io1001) (f2 : Int → Int → Int → Int → List Int → List Int → Option R105c97io1001) (a1 : Int) (b2 : Int) (i8 : Int) (j9 : Int) (u0 : List Int) (u1 : List Int) : Option R105c97io1001 :=
 ((bif (decide (j9 > a1) == true) then (bif inB j9 u0.length then (idx u0 j9).bind fun x1' =>
 (bif inB (wr .i64 (j9 - 1)) u0.length then (idx u0 (wr .i64 (j9 - 1))).bind fun x2' =>
 (D97 n x1' x2' u1).bind fun r3' =>
 some (decide (r3' < 0))
 else none)
 else none)
 else some false)).bind fun b4' =>
 (bif b4' then (bif inB (wr .i64 (j9 - 1)) u0.length then (idx u0 (wr .i64 (j9 - 1))).bind fun x5' =>
 (bif inB j9 u0.length then (idx u0 j9).bind fun x6' =>
 (bif inB j9 u0.length then (idx u0 j9).bind fun x7' =>
 (bif inB (wr .i64 (j9 - 1)) (u0.set (Int.toNat j9) x5').length then (idx (u0.set (Int.toNat j9) x5') (wr .i64 (j9 - 1))).bind fun x8' =>
              f2 a1 b2 i8 (wr .i64 (j9 - 1)) ((u0.set (Int.toNat j9) x5').set (Int.toNat (wr .i64 (j9 - 1))) x6') u1
 else none)
 else none)
 else none)
 else none)
 else f1 a1 b2 (wr .i64 (i8 + 1)) u0 u1)
noncomputable def DL105c97io1001_2 (n : Nat × Nat) (f1 : Int → Int → Int → List Int → List Int → Option R105c97io1001) (m : Nat) : Int → Int → Int → Int → List Int → List Int → Option R105c97io1001 := Nat.rec (motive := fun _ => Int → Int → Int → Int → List Int → List Int → Option R105c97io1001) (fun _ _ _ _ _ _ => none) (fun _ ih => DF105c97io1001_2 n f1 ih) m
theorem DL105c97io1001_2_succ (n : Nat × Nat) (f1 : Int → Int → Int → List Int → List Int → Option R105c97io1001) (m : Nat) : DL105c97io1001_2 n f1 (m + 1) = DF105c97io1001_2 n f1 (DL105c97io1001_2 n f1 m) := rfl
theorem DL105c97io1001_2_eq (n : Nat × Nat) (hn : n.2 = 1) (m1 : Nat) : ∀ m, L105c97io1001_2 n m1 m = DL105c97io1001_2 n (L105c97io1001_1 n m1) m
  | 0 => by funext a1 b2 i8 j9 u0 u1; kernel_rfl
  | m + 1 => by
    have ih := DL105c97io1001_2_eq n hn m1 m
    funext a1 b2 i8 j9 u0 u1; refine (L105c97io1001_2_eq n m1 m a1 b2 i8 j9 u0 u1).trans ?_
    rw [DL105c97io1001_2_succ]
    unfold DF105c97io1001_2
    (try simp only [ih, S97_D n hn]) <;> first | with_reducible rfl | rfl
noncomputable def DF105c97io1001_1 (n : Nat × Nat) (f1 : Int → Int → Int → List Int → List Int → Option R105c97io1001) (a1 : Int) (b2 : Int) (i8 : Int) (u0 : List Int) (u1 : List Int) : Option R105c97io1001 :=
 (bif decide (i8 < b2) then DL105c97io1001_2 n f1 n.1 a1 b2 i8 i8 u0 u1
 else some ((), u0, u1, ()))
noncomputable def DL105c97io1001_1 (n : Nat × Nat) (m : Nat) : Int → Int → Int → List Int → List Int → Option R105c97io1001 := Nat.rec (motive := fun _ => Int → Int → Int → List Int → List Int → Option R105c97io1001) (fun _ _ _ _ _ => none) (fun _ ih => DF105c97io1001_1 n ih) m
theorem DL105c97io1001_1_succ (n : Nat × Nat) (m : Nat) : DL105c97io1001_1 n (m + 1) = DF105c97io1001_1 n (DL105c97io1001_1 n m) := rfl
theorem DL105c97io1001_1_eq (n : Nat × Nat) (hn : n.2 = 1) : ∀ m, L105c97io1001_1 n m = DL105c97io1001_1 n m
  | 0 => by funext a1 b2 i8 u0 u1; kernel_rfl
  | m + 1 => by
    have ih := DL105c97io1001_1_eq n hn m
    funext a1 b2 i8 u0 u1; refine (L105c97io1001_1_eq n m a1 b2 i8 u0 u1).trans ?_
    rw [DL105c97io1001_1_succ]
    unfold DF105c97io1001_1
    (try simp only [ih, DL105c97io1001_2_eq n hn, S97_D n hn]) <;> first | with_reducible rfl | rfl
noncomputable def D105c97io1001 (n : Nat × Nat) (data0 : List Int) (a1 : Int) (b2 : Int) (cp_3_0 : List Int) : Option R105c97io1001 :=
    DL105c97io1001_1 n n.1 a1 b2 (wr .i64 (a1 + 1)) data0 cp_3_0
theorem S105c97io1001_D (n : Nat × Nat) (hn : n.2 = 1) : S105c97io1001 n = D105c97io1001 n := by
  funext data0 a1 b2 cp_3_0; refine (S105c97io1001_eq n data0 a1 b2 cp_3_0).trans ?_
  unfold D105c97io1001
  (try simp only [DL105c97io1001_2_eq n hn, DL105c97io1001_1_eq n hn, S97_D n hn]) <;> first | with_reducible rfl | rfl
noncomputable def D106c97io10001 (n : Nat × Nat) (data0 : List Int) (a1 : Int) (m2 : Int) (b3 : Int) (cp_4_0 : List Int) : Option R106c97io10001 := none
theorem S106c97io10001_D (n : Nat × Nat) (hn : n.2 = 1) : S106c97io10001 n = D106c97io10001 n := rfl
/-D 104c97io101 -/
noncomputable def DF104c97io101_3 (n : Nat × Nat) (f1 : Int → Int → List Int → List Int → Option R104c97io101) (f2 : Int → Int → Int → Int → List Int → List Int → Option R104c97io101) (v1 : Int) (blockSize6 : Int) (a7 : Int) (b8 : Int) (u0 : List Int) (u1 : List Int) : Option R104c97io101 :=
 (bif decide (b8 ≤ v1) then (D106c97io10001 n u0 a7 (wr .i64 (a7 + blockSize6)) b8 u1).bind fun r3' =>
 (bif Nat.beq r3'.2.1.length u0.length then f2 v1 blockSize6 b8 (wr .i64 (b8 + (wr .i64 (2 * blockSize6)))) r3'.2.1 r3'.2.2.1
 else none)
 else (bif decide (wr .i64 (a7 + blockSize6) < v1) then (D106c97io10001 n u0 a7 (wr .i64 (a7 + blockSize6)) v1 u1).bind fun r4' =>
 (bif Nat.beq r4'.2.1.length u0.length then f1 v1 (wr .i64 (blockSize6 * 2)) r4'.2.1 r4'.2.2.1
 else none)
 else f1 v1 (wr .i64 (blockSize6 * 2)) u0 u1))
noncomputable def DL104c97io101_3 (n : Nat × Nat) (f1 : Int → Int → List Int → List Int → Option R104c97io101) (m : Nat) : Int → Int → Int → Int → List Int → List Int → Option R104c97io101 := Nat.rec (motive := fun _ => Int → Int → Int → Int → List Int → List Int → Option R104c97io101) (fun _ _ _ _ _ _ => none) (fun _ ih => DF104c97io101_3 n f1 ih) m
theorem DL104c97io101_3_succ (n : Nat × Nat) (f1 : Int → Int → List Int → List Int → Option R104c97io101) (m : Nat) : DL104c97io101_3 n f1 (m + 1) = DF104c97io101_3 n f1 (DL104c97io101_3 n f1 m) := rfl
theorem DL104c97io101_3_eq (n : Nat × Nat) (hn : n.2 = 1) (m1 : Nat) : ∀ m, L104c97io101_3 n m1 m = DL104c97io101_3 n (L104c97io101_2 n m1) m
  | 0 => by funext v1 blockSize6 a7 b8 u0 u1; kernel_rfl
  | m + 1 => by
    have ih := DL104c97io101_3_eq n hn m1 m
    funext v1 blockSize6 a7 b8 u0 u1; refine (L104c97io101_3_eq n m1 m v1 blockSize6 a7 b8 u0 u1).trans ?_
    rw [DL104c97io101_3_succ]
    unfold DF104c97io101_3
    (try simp only [ih, S105c97io1001_D n hn, S106c97io10001_D n hn]) <;> first | with_reducible rfl | rfl
noncomputable def DF104c97io101_2 (n : Nat × Nat) (f1 : Int → Int → List Int → List Int → Option R104c97io101) (v1 : Int) (blockSize6 : Int) (u0 : List Int) (u1 : List Int) : Option R104c97io101 :=
 (bif decide (blockSize6 < v1) then DL104c97io101_3 n f1 n.1 v1 blockSize6 0 (wr .i64 (2 * blockSize6)) u0 u1
 else some ((), u0, u1, ()))
noncomputable def DL104c97io101_2 (n : Nat × Nat) (m : Nat) : Int → Int → List Int → List Int → Option R104c97io101 := Nat.rec (motive := fun _ => Int → Int → List Int → List Int → Option R104c97io101) (fun _ _ _ _ => none) (fun _ ih => DF104c97io101_2 n ih) m
theorem DL104c97io101_2_succ (n : Nat × Nat) (m : Nat) : DL104c97io101_2 n (m + 1) = DF104c97io101_2 n (DL104c97io101_2 n m) := rfl
theorem DL104c97io101_2_eq (n : Nat × Nat) (hn : n.2 = 1) : ∀ m, L104c97io101_2 n m = DL104c97io101_2 n m
  | 0 => by funext v1 blockSize6 u0 u1; kernel_rfl
  | m + 1 => by
    have ih := DL104c97io101_2_eq n hn m
    funext v1 blockSize6 u0 u1; refine (L104c97io101_2_eq n m v1 blockSize6 u0 u1).trans ?_
    rw [DL104c97io101_2_succ]
    unfold DF104c97io101_2
    (try simp only [ih, DL104c97io101_3_eq n hn, S105c97io1001_D n hn, S106c97io10001_D n hn]) <;> first | with_reducible rfl | rfl
noncomputable def DF104c97io101_1 (n : Nat × Nat) (f1 : Int → Int → Int → Int → List Int → List Int → Option R104c97io101) (v1 : Int) (blockSize6 : Int) (a7 : Int) (b8 : Int) (u0 : List Int) (u1 : List Int) : Option R104c97io101 :=
 (bif decide (b8 ≤ v1) then (D105c97io1001 n u0 a7 b8 u1).bind fun r1' =>
 (bif Nat.beq r1'.2.1.length u0.length then f1 v1 blockSize6 b8 (wr .i64 (b8 + blockSize6)) r1'.2.1 r1'.2.2.1
 else none)
 else (D105c97io1001 n u0 a7 v1 u1).bind fun r2' =>
 (bif Nat.beq r2'.2.1.length u0.length then DL104c97io101_2 n n.1 v1 blockSize6 r2'.2.1 r2'.2.2.1
 else none))
noncomputable def DL104c97io101_1 (n : Nat × Nat) (m : Nat) : Int → Int → Int → Int → List Int → List Int → Option R104c97io101 := Nat.rec (motive := fun _ => Int → Int → Int → Int → List Int → List Int → Option R104c97io101) (fun _ _ _ _ _ _ => none) (fun _ ih => DF104c97io101_1 n ih) m
theorem DL104c97io101_1_succ (n : Nat × Nat) (m : Nat) : DL104c97io101_1 n (m + 1) = DF104c97io101_1 n (DL104c97io101_1 n m) := rfl
theorem DL104c97io101_1_eq (n : Nat × Nat) (hn : n.2 = 1) : ∀ m, L104c97io101_1 n m = DL104c97io101_1 n m
  | 0 => by funext v1 blockSize6 a7 b8 u0 u1; kernel_rfl
  | m + 1 => by
    have ih := DL104c97io101_1_eq n hn m
    funext v1 blockSize6 a7 b8 u0 u1; refine (L104c97io101_1_eq n m v1 blockSize6 a7 b8 u0 u1).trans ?_
    rw [DL104c97io101_1_succ]
    unfold DF104c97io101_1
    (try simp only [ih, DL104c97io101_3_eq n hn, DL104c97io101_2_eq n hn, S105c97io1001_D n hn, S106c97io10001_D n hn]) <;> first | with_reducible rfl | rfl
noncomputable def D104c97io101 (n : Nat × Nat) (data0 : List Int) (v1 : Int) (cp_2_0 : List Int) : Option R104c97io101 :=
    DL104c97io101_1 n n.1 v1 20 0 20 data0 cp_2_0
theorem S104c97io101_D (n : Nat × Nat) (hn : n.2 = 1) : S104c97io101 n = D104c97io101 n := by
  funext data0 v1 cp_2_0; refine (S104c97io101_eq n data0 v1 cp_2_0).trans ?_
  unfold D104c97io101
  (try simp only [DL104c97io101_3_eq n hn, DL104c97io101_2_eq n hn, DL104c97io101_1_eq n hn, S105c97io1001_D n hn, S106c97io10001_D n hn]) <;> first | with_reducible rfl | rfl
/-D 96c97io11 -/
noncomputable def D96c97io11 (n : Nat × Nat) (x0 : List Int) (cp_1_0 : List Int) : Option R96c97io11 :=
 (D104c97io101 n x0 (x0.length : Int) cp_1_0).bind fun r1' =>
 (bif Nat.beq r1'.2.1.length x0.length then some ((), r1'.2.1, r1'.2.2.1, ())
 else none)
theorem S96c97io11_D (n : Nat × Nat) (hn : n.2 = 1) : S96c97io11 n = D96c97io11 n := by
  funext x0 cp_1_0; refine (S96c97io11_eq n x0 cp_1_0).trans ?_
  unfold D96c97io11
  (try simp only [S104c97io101_D n hn]) <;> first | with_reducible rfl | rfl
/-D 77 -/
noncomputable def DF77_1 (n : Nat × Nat) (f1 : Int → Int → List Int → List Int → Option R77) (v9 : Int) (v10 : Int) (pieces1 : List Int) (out3 : List Int) : Option R77 :=
 (bif decide (v10 < v9) then (bif inB v10 out3.length then (idx out3 v10).bind fun x1' =>
        f1 v9 (wr .i64 (v10 + 1)) pieces1 (out3.set (Int.toNat v10) v10)
 else none)
 else (D96c97io11 n out3 pieces1).bind fun r2' =>
 (bif Nat.beq r2'.2.1.length out3.length then some r2'.2.1
 else none))
noncomputable def DL77_1 (n : Nat × Nat) (m : Nat) : Int → Int → List Int → List Int → Option R77 := Nat.rec (motive := fun _ => Int → Int → List Int → List Int → Option R77) (fun _ _ _ _ => none) (fun _ ih => DF77_1 n ih) m
theorem DL77_1_succ (n : Nat × Nat) (m : Nat) : DL77_1 n (m + 1) = DF77_1 n (DL77_1 n m) := rfl
theorem DL77_1_eq (n : Nat × Nat) (hn : n.2 = 1) : ∀ m, L77_1 n m = DL77_1 n m
  | 0 => by funext v9 v10 pieces1 out3; kernel_rfl
  | m + 1 => by
    have ih := DL77_1_eq n hn m
    funext v9 v10 pieces1 out3; refine (L77_1_eq n m v9 v10 pieces1 out3).trans ?_
    rw [DL77_1_succ]
    unfold DF77_1
    (try simp only [ih, S96c97io11_D n hn]) <;> first | with_reducible rfl | rfl
noncomputable def D77 (n : Nat × Nat) (pieces0 : List Int) : Option R77 :=
 (bif decide (0 ≤ (pieces0.length : Int)) && decide ((pieces0.length : Int) ≤ (pieces0.length : Int)) && decide ((pieces0.length : Int) ≤ lim) then DL77_1 n n.1 ((List.replicate (Int.toNat (pieces0.length : Int)) (0 : Int)).length : Int) 0 pieces0 (List.replicate (Int.toNat (pieces0.length : Int)) (0 : Int))
 else none)
theorem S77_D (n : Nat × Nat) (hn : n.2 = 1) : S77 n = D77 n := by
  funext pieces0; refine (S77_eq n pieces0).trans ?_
  unfold D77
  (try simp only [DL77_1_eq n hn, S96c97io11_D n hn]) <;> first | with_reducible rfl | rfl
/-D 30 -/
noncomputable def D30 (n : Nat × Nat) (size0 : Int) (pieces1 : List Int) : Option R30 :=
 (D26 n size0 pieces1).bind fun r1' =>
 (bif (r1' != 0) then some ([], r1')
 else (D77 n pieces1).bind fun r2' =>
 some (r2', 0))
theorem S30_D (n : Nat × Nat) (hn : n.2 = 1) : S30 n = D30 n := by
  funext size0 pieces1; refine (S30_eq n size0 pieces1).trans ?_
  unfold D30
  (try simp only [S26_D n hn, S77_D n hn]) <;> first | with_reducible rfl | rfl
/-D 102 -/
noncomputable def D102 (n : Nat × Nat) (x0 : Int) (y1 : Int) : Option R102 :=
 (bif decide (32 < 0) then none
 else some (wr .u32 (Int.fdiv (wr .u64 ((wr .u64 x0) * (wr .u64 y1))) (2 ^ (min (Int.toNat 32) (IntKind.bits .u64)))), wr .u32 (wr .u64 ((wr .u64 x0) * (wr .u64 y1)))))
theorem S102_D (n : Nat × Nat) (hn : n.2 = 1) : S102 n = D102 n := by
  funext x0 y1; refine (S102_eq n x0 y1).trans ?_
  unfold D102
  first | with_reducible rfl | rfl
/-D 103 -/
noncomputable def D103 (n : Nat × Nat) (x0 : Int) (y1 : Int) : Option R103 :=
 (bif decide (32 < 0) then none
 else (bif decide (32 < 0) then none
 else (bif decide (32 < 0) then none
 else (bif decide (32 < 0) then none
 else (bif decide (32 < 0) then none
 else some (wr .u64 ((wr .u64 ((wr .u64 ((Int.fdiv x0 (2 ^ (min (Int.toNat 32) (IntKind.bits .u64)))) * (Int.fdiv y1 (2 ^ (min (Int.toNat 32) (IntKind.bits .u64)))))) + (Int.fdiv (wr .u64 ((wr .u64 ((Int.fdiv x0 (2 ^ (min (Int.toNat 32) (IntKind.bits .u64)))) * (wr .u64 (BitVec.ofInt (IntKind.bits .u64) y1 &&& BitVec.ofInt (IntKind.bits .u64) 4294967295).toNat))) + (Int.fdiv (wr .u64 ((wr .u64 (BitVec.ofInt (IntKind.bits .u64) x0 &&& BitVec.ofInt (IntKind.bits .u64) 4294967295).toNat) * (wr .u64 (BitVec.ofInt (IntKind.bits .u64) y1 &&& BitVec.ofInt (IntKind.bits .u64) 4294967295).toNat))) (2 ^ (min (Int.toNat 32) (IntKind.bits .u64)))))) (2 ^ (min (Int.toNat 32) (IntKind.bits .u64)))))) + (Int.fdiv (wr .u64 ((wr .u64 (BitVec.ofInt (IntKind.bits .u64) (wr .u64 ((wr .u64 ((Int.fdiv x0 (2 ^ (min (Int.toNat 32) (IntKind.bits .u64)))) * (wr .u64 (BitVec.ofInt (IntKind.bits .u64) y1 &&& BitVec.ofInt (IntKind.bits .u64) 4294967295).toNat))) + (Int.fdiv (wr .u64 ((wr .u64 (BitVec.ofInt (IntKind.bits .u64) x0 &&& BitVec.ofInt (IntKind.bits .u64) 4294967295).toNat) * (wr .u64 (BitVec.ofInt (IntKind.bits .u64) y1 &&& BitVec.ofInt (IntKind.bits .u64) 4294967295).toNat))) (2 ^ (min (Int.toNat 32) (IntKind.bits .u64)))))) &&& BitVec.ofInt (IntKind.bits .u64) 4294967295).toNat) + (wr .u64 ((wr .u64 (BitVec.ofInt (IntKind.bits .u64) x0 &&& BitVec.ofInt (IntKind.bits .u64) 4294967295).toNat) * (Int.fdiv y1 (2 ^ (min (Int.toNat 32) (IntKind.bits .u64)))))))) (2 ^ (min (Int.toNat 32) (IntKind.bits .u64))))), wr .u64 (x0 * y1)))))))
theorem S103_D (n : Nat × Nat) (hn : n.2 = 1) : S103 n = D103 n := by
  funext x0 y1; refine (S103_eq n x0 y1).trans ?_
  unfold D103
  first | with_reducible rfl | rfl
/-D 94 -/
noncomputable def D94 (n : Nat × Nat) (x0 : Int) (y1 : Int) : Option R94 :=
 (bif false then (D102 n (wr .u32 x0) (wr .u32 y1)).bind fun r1' =>
 some (wr .u64 r1'.1, wr .u64 r1'.2)
 else (D103 n x0 y1).bind fun r2' =>
 some (r2'.1, r2'.2))
theorem S94_D (n : Nat × Nat) (hn : n.2 = 1) : S94 n = D94 n := by
  funext x0 y1; refine (S94_eq n x0 y1).trans ?_
  unfold D94
  (try simp only [S102_D n hn, S103_D n hn]) <;> first | with_reducible rfl | rfl
/-D 69 -/
noncomputable def DF69_1 (n : Nat × Nat) (f1 : Int → List Int → Option R69) (v8 : Int) (newslice7 : List Int) : Option R69 :=
 (bif decide (v8 < (newslice7.length : Int)) then (bif bounds (some v8) none none newslice7.length then (bif bounds none (some v8) none newslice7.length then f1 (wr .i64 (v8 + ((min ((newslice7.drop (0 + 0)).take ((Int.toNat v8) - 0)).length ((newslice7.drop (0 + (Int.toNat v8))).take (newslice7.length - (Int.toNat v8))).length : Nat) : Int))) (newslice7.take (0 + (Int.toNat v8)) ++ ((newslice7.drop (0 + 0)).take ((Int.toNat v8) - 0)).take (min ((newslice7.drop (0 + 0)).take ((Int.toNat v8) - 0)).length ((newslice7.drop (0 + (Int.toNat v8))).take (newslice7.length - (Int.toNat v8))).length) ++ newslice7.drop ((0 + (Int.toNat v8)) + min ((newslice7.drop (0 + 0)).take ((Int.toNat v8) - 0)).length ((newslice7.drop (0 + (Int.toNat v8))).take (newslice7.length - (Int.toNat v8))).length))
 else none)
 else none)
 else some newslice7)
noncomputable def DL69_1 (n : Nat × Nat) (m : Nat) : Int → List Int → Option R69 := Nat.rec (motive := fun _ => Int → List Int → Option R69) (fun _ _ => none) (fun _ ih => DF69_1 n ih) m
theorem DL69_1_succ (n : Nat × Nat) (m : Nat) : DL69_1 n (m + 1) = DF69_1 n (DL69_1 n m) := rfl
theorem DL69_1_eq (n : Nat × Nat) (hn : n.2 = 1) : ∀ m, L69_1 n m = DL69_1 n m
  | 0 => by funext v8 newslice7; kernel_rfl
  | m + 1 => by
    have ih := DL69_1_eq n hn m
    funext v8 newslice7; refine (L69_1_eq n m v8 newslice7).trans ?_
    rw [DL69_1_succ]
    unfold DF69_1
    (try simp only [ih, S94_D n hn]) <;> first | with_reducible rfl | rfl
noncomputable def D69 (n : Nat × Nat) (x0 : List Int) (count1 : Int) : Option R69 :=
 (bif decide (count1 < 0) then none
 else (D94 n (wr .u64 (x0.length : Int)) (wr .u64 count1)).bind fun r1' =>
 ((bif (decide (r1'.1 > 0) == false) then some (decide (r1'.2 > 9223372036854775807))
 else some true)).bind fun b2' =>
 (bif b2' then none
 else (bif decide (0 ≤ wr .i64 r1'.2) && decide (wr .i64 r1'.2 ≤ wr .i64 r1'.2) && decide (wr .i64 r1'.2 ≤ lim) then DL69_1 n n.1 ((min x0.length (List.replicate (Int.toNat (wr .i64 r1'.2)) (0 : Int)).length : Nat) : Int) ((List.replicate (Int.toNat (wr .i64 r1'.2)) (0 : Int)).take 0 ++ x0.take (min x0.length (List.replicate (Int.toNat (wr .i64 r1'.2)) (0 : Int)).length) ++ (List.replicate (Int.toNat (wr .i64 r1'.2)) (0 : Int)).drop (0 + min x0.length (List.replicate (Int.toNat (wr .i64 r1'.2)) (0 : Int)).length))
 else none)))
theorem S69_D (n : Nat × Nat) (hn : n.2 = 1) : S69 n = D69 n := by
  funext x0 count1; refine (S69_eq n x0 count1).trans ?_
  unfold D69
  (try simp only [DL69_1_eq n hn, S94_D n hn]) <;> first | with_reducible rfl | rfl
/-D 80 -/
noncomputable def D80 (n : Nat × Nat) (v0 : Int) (v1 : List Int) (v2 : Int) : Option R80 :=
 (idx v1 v2).bind fun x1' =>
 some (decide (v0 ≥ x1'))
theorem S80_D (n : Nat × Nat) (hn : n.2 = 1) : S80 n = D80 n := by
  funext v0 v1 v2; refine (S80_eq n v0 v1 v2).trans ?_
  unfold D80
  first | with_reducible rfl | rfl
/-D 79c80 -/
noncomputable def DF79c80_1 (n : Nat × Nat) (f1 : List Int → List Int → Int → Int → Int → Option R79c80) (s0 : List Int) (f1_0 : List Int) (f1_0x : Int) (v7 : Int) (v8 : Int) : Option R79c80 :=
 (bif decide (v8 < v7) then (idx s0 v8).bind fun x1' =>
 (D80 n x1' f1_0 f1_0x).bind fun r2' =>
 (bif r2' then some v8
 else f1 s0 f1_0 f1_0x v7 (wr .i64 (v8 + 1)))
 else some (-1))
noncomputable def DL79c80_1 (n : Nat × Nat) (m : Nat) : List Int → List Int → Int → Int → Int → Option R79c80 := Nat.rec (motive := fun _ => List Int → List Int → Int → Int → Int → Option R79c80) (fun _ _ _ _ _ => none) (fun _ ih => DF79c80_1 n ih) m
theorem DL79c80_1_succ (n : Nat × Nat) (m : Nat) : DL79c80_1 n (m + 1) = DF79c80_1 n (DL79c80_1 n m) := rfl
theorem DL79c80_1_eq (n : Nat × Nat) (hn : n.2 = 1) : ∀ m, L79c80_1 n m = DL79c80_1 n m
  | 0 => by funext s0 f1_0 f1_0x v7 v8; kernel_rfl
  | m + 1 => by
    have ih := DL79c80_1_eq n hn m
    funext s0 f1_0 f1_0x v7 v8; refine (L79c80_1_eq n m s0 f1_0 f1_0x v7 v8).trans ?_
    rw [DL79c80_1_succ]
    unfold DF79c80_1
    (try simp only [ih, S80_D n hn]) <;> first | with_reducible rfl | rfl
noncomputable def D79c80 (n : Nat × Nat) (s0 : List Int) (cp_1_0 : List Int) (cp_1_1 : Int) : Option R79c80 :=
    DL79c80_1 n n.1 s0 cp_1_0 cp_1_1 (s0.length : Int) 0
theorem S79c80_D (n : Nat × Nat) (hn : n.2 = 1) : S79c80 n = D79c80 n := by
  funext s0 cp_1_0 cp_1_1; refine (S79c80_eq n s0 cp_1_0 cp_1_1).trans ?_
  unfold D79c80
  (try simp only [DL79c80_1_eq n hn, S80_D n hn]) <;> first | with_reducible rfl | rfl
/-D 95 -/
noncomputable def DF95_1 (n : Nat × Nat) (f1 : List Int → Int → Int → Int → Option R95) (s0 : List Int) (v1 : Int) (v7 : Int) (v8 : Int) : Option R95 :=
 (bif decide (v8 < v7) then (idx s0 v8).bind fun x1' =>
 (bif (v1 == x1') then some v8
 else f1 s0 v1 v7 (wr .i64 (v8 + 1)))
 else some (-1))
noncomputable def DL95_1 (n : Nat × Nat) (m : Nat) : List Int → Int → Int → Int → Option R95 := Nat.rec (motive := fun _ => List Int → Int → Int → Int → Option R95) (fun _ _ _ _ => none) (fun _ ih => DF95_1 n ih) m
theorem DL95_1_succ (n : Nat × Nat) (m : Nat) : DL95_1 n (m + 1) = DF95_1 n (DL95_1 n m) := rfl
theorem DL95_1_eq (n : Nat × Nat) (hn : n.2 = 1) : ∀ m, L95_1 n m = DL95_1 n m
  | 0 => by funext s0 v1 v7 v8; kernel_rfl
  | m + 1 => by
    have ih := DL95_1_eq n hn m
    funext s0 v1 v7 v8; refine (L95_1_eq n m s0 v1 v7 v8).trans ?_
    rw [DL95_1_succ]
    unfold DF95_1
    (try simp only [ih]) <;> first | with_reducible rfl | rfl
noncomputable def D95 (n : Nat × Nat) (s0 : List Int) (v1 : Int) : Option R95 :=
    DL95_1 n n.1 s0 v1 (s0.length : Int) 0
theorem S95_D (n : Nat × Nat) (hn : n.2 = 1) : S95 n = D95 n := by
  funext s0 v1; refine (S95_eq n s0 v1).trans ?_
  unfold D95
  (try simp only [DL95_1_eq n hn]) <;> first | with_reducible rfl | rfl
/-D 71 -/
noncomputable def DF71_1 (n : Nat × Nat) (f1 : List Int → Int → Int → List Int → List Int → Option R71) (v8 : List Int) (v9 : Int) (v10 : Int) (met3 : List Int) (out4 : List Int) : Option R71 :=
 (bif decide (v10 < v9) then (idx v8 v10).bind fun x1' =>
 (D95 n met3 x1').bind fun r2' =>
 (bif decide (r2' < 0) then (bif decide (met3.length + [x1'].length ≤ lim) then (bif decide (out4.length + [(met3.length : Int)].length ≤ lim) then f1 v8 v9 (wr .i64 (v10 + 1)) (met3 ++ [x1']) (out4 ++ [(met3.length : Int)])
 else none)
 else none)
 else (bif decide (out4.length + [r2'].length ≤ lim) then f1 v8 v9 (wr .i64 (v10 + 1)) met3 (out4 ++ [r2'])
 else none))
 else some out4)
noncomputable def DL71_1 (n : Nat × Nat) (m : Nat) : List Int → Int → Int → List Int → List Int → Option R71 := Nat.rec (motive := fun _ => List Int → Int → Int → List Int → List Int → Option R71) (fun _ _ _ _ _ => none) (fun _ ih => DF71_1 n ih) m
theorem DL71_1_succ (n : Nat × Nat) (m : Nat) : DL71_1 n (m + 1) = DF71_1 n (DL71_1 n m) := rfl
theorem DL71_1_eq (n : Nat × Nat) (hn : n.2 = 1) : ∀ m, L71_1 n m = DL71_1 n m
  | 0 => by funext v8 v9 v10 met3 out4; kernel_rfl
  | m + 1 => by
    have ih := DL71_1_eq n hn m
    funext v8 v9 v10 met3 out4; refine (L71_1_eq n m v8 v9 v10 met3 out4).trans ?_
    rw [DL71_1_succ]
    unfold DF71_1
    (try simp only [ih, S95_D n hn]) <;> first | with_reducible rfl | rfl
noncomputable def D71 (n : Nat × Nat) (plan0 : List Int) : Option R71 :=
    DL71_1 n n.1 plan0 (plan0.length : Int) 0 [] []
theorem S71_D (n : Nat × Nat) (hn : n.2 = 1) : S71 n = D71 n := by
  funext plan0; refine (S71_eq n plan0).trans ?_
  unfold D71
  (try simp only [DL71_1_eq n hn, S95_D n hn]) <;> first | with_reducible rfl | rfl
/-D 32 -/
noncomputable def DF32_1 (n : Nat × Nat) (f1 : Int → List Int → Int → Int → List Int → List Int → List Int → Option R32) (size0 : Int) (v31 : List Int) (v32 : Int) (v33 : Int) (pieces4 : List Int) (out9 : List Int) (left10 : List Int) : Option R32 :=
 (bif decide (v33 < v32) then (idx v31 v33).bind fun x3' =>
 ((bif (decide (x3' < 0) == false) then some (decide (x3' ≥ (pieces4.length : Int)))
 else some true)).bind fun b4' =>
 (bif b4' then some ([], 2)
 else (bif inB x3' out9.length then (idx out9 x3').bind fun x5' =>
 (bif decide (x5' ≥ 0) then some ([], 6)
 else (D79c80 n left10 pieces4 x3').bind fun r6' =>
 (bif decide (r6' < 0) then (bif decide (left10.length + [size0].length ≤ lim) then (bif inB (left10.length : Int) (left10 ++ [size0]).length then (idx (left10 ++ [size0]) (left10.length : Int)).bind fun x7' =>
 (idx pieces4 x3').bind fun x8' =>
 (bif inB (left10.length : Int) (left10 ++ [size0]).length then (idx (left10 ++ [size0]) (left10.length : Int)).bind fun x9' =>
 (bif inB x3' out9.length then (idx out9 x3').bind fun x10' =>
                      f1 size0 v31 v32 (wr .i64 (v33 + 1)) pieces4 (out9.set (Int.toNat x3') (left10.length : Int)) ((left10 ++ [size0]).set (Int.toNat (left10.length : Int)) (wr .i64 (x7' - x8')))
 else none)
 else none)
 else none)
 else none)
 else (bif inB r6' left10.length then (idx left10 r6').bind fun x11' =>
 (idx pieces4 x3').bind fun x12' =>
 (bif inB r6' left10.length then (idx left10 r6').bind fun x13' =>
 (bif inB x3' out9.length then (idx out9 x3').bind fun x14' =>
                    f1 size0 v31 v32 (wr .i64 (v33 + 1)) pieces4 (out9.set (Int.toNat x3') r6') (left10.set (Int.toNat r6') (wr .i64 (x11' - x12')))
 else none)
 else none)
 else none)))
 else none))
 else (D71 n out9).bind fun r15' =>
 some (r15', 0))
noncomputable def DL32_1 (n : Nat × Nat) (m : Nat) : Int → List Int → Int → Int → List Int → List Int → List Int → Option R32 := Nat.rec (motive := fun _ => Int → List Int → Int → Int → List Int → List Int → List Int → Option R32) (fun _ _ _ _ _ _ _ => none) (fun _ ih => DF32_1 n ih) m
theorem DL32_1_succ (n : Nat × Nat) (m : Nat) : DL32_1 n (m + 1) = DF32_1 n (DL32_1 n m) := rfl
theorem DL32_1_eq (n : Nat × Nat) (hn : n.2 = 1) : ∀ m, L32_1 n m = DL32_1 n m
  | 0 => by funext size0 v31 v32 v33 pieces4 out9 left10; kernel_rfl
  | m + 1 => by
    have ih := DL32_1_eq n hn m
    funext size0 v31 v32 v33 pieces4 out9 left10; refine (L32_1_eq n m size0 v31 v32 v33 pieces4 out9 left10).trans ?_
    rw [DL32_1_succ]
    unfold DF32_1
    (try simp only [ih, S26_D n hn, S69_D n hn, S71_D n hn, S79c80_D n hn]) <;> first | with_reducible rfl | rfl
noncomputable def D32 (n : Nat × Nat) (size0 : Int) (pieces1 : List Int) (order2 : List Int) : Option R32 :=
 (D26 n size0 pieces1).bind fun r1' =>
 (bif (r1' != 0) then some ([], r1')
 else (bif ((order2.length : Int) != (pieces1.length : Int)) then some ([], 5)
 else (D69 n [-1] (pieces1.length : Int)).bind fun r2' =>
        DL32_1 n n.1 size0 order2 (order2.length : Int) 0 pieces1 r2' []))
theorem S32_D (n : Nat × Nat) (hn : n.2 = 1) : S32 n = D32 n := by
  funext size0 pieces1 order2; refine (S32_eq n size0 pieces1 order2).trans ?_
  unfold D32
  (try simp only [DL32_1_eq n hn, S26_D n hn, S69_D n hn, S71_D n hn, S79c80_D n hn]) <;> first | with_reducible rfl | rfl
/-D 98io11 -/
noncomputable def D98io11 (n : Nat × Nat) (v0 : List Int) (v1 : Bool) : Option R98io11 :=
 some (false, v0, true, ())
theorem S98io11_D (n : Nat × Nat) (hn : n.2 = 1) : S98io11 n = D98io11 n := by
  funext v0 v1; refine (S98io11_eq n v0 v1).trans ?_
  unfold D98io11
  first | with_reducible rfl | rfl
/-D 84c98io0001 -/
noncomputable def DF84c98io0001_4 (n : Nat × Nat) (f1 : (Int → List Int → Int → Int → Bool → List Int → List Int → Option R84c98io0001) × (Int → List Int → Int → Int → Bool → List Int → List Int → Option R84c98io0001)) (f2 : Int → List Int → Int → Int → Bool → List Int → List Int → Option R84c98io0001) (size0 : Int) (pieces1 : List Int) (most2 : Int) (i10 : Int) (u0 : Bool) (plan8 : List Int) (left9 : List Int) : Option R84c98io0001 :=
 (bif inB i10 plan8.length then (idx plan8 i10).bind fun x21' =>
 (bif inB i10 plan8.length then (idx plan8 i10).bind fun x22' =>
 (bif inB i10 (plan8.set (Int.toNat i10) (wr .i64 (x21' + 1))).length then (idx (plan8.set (Int.toNat i10) (wr .i64 (x21' + 1))) i10).bind fun x23' =>
 ((bif (decide (x23' ≥ most2) == false) then ((bif (decide (x23' > 0) == true) then (bif inB (wr .i64 (x23' - 1)) left9.length then (idx left9 (wr .i64 (x23' - 1))).bind fun x24' =>
 some (x24' == size0)
 else none)
 else some false)).bind fun b25' =>
 some b25'
 else some true)).bind fun b26' =>
 (bif b26' then (bif inB i10 (plan8.set (Int.toNat i10) (wr .i64 (x21' + 1))).length then (idx (plan8.set (Int.toNat i10) (wr .i64 (x21' + 1))) i10).bind fun x27' =>
              f1.1 size0 pieces1 most2 i10 u0 ((plan8.set (Int.toNat i10) (wr .i64 (x21' + 1))).set (Int.toNat i10) (-1)) left9
 else none)
 else (bif inB x23' left9.length then (idx left9 x23').bind fun x28' =>
 (idx pieces1 i10).bind fun x29' =>
 (bif decide (x28' ≥ x29') then (bif inB x23' left9.length then (idx left9 x23').bind fun x30' =>
 (idx pieces1 i10).bind fun x31' =>
 (bif inB x23' left9.length then (idx left9 x23').bind fun x32' =>
                    f1.2 size0 pieces1 most2 (wr .i64 (i10 + 1)) u0 (plan8.set (Int.toNat i10) (wr .i64 (x21' + 1))) (left9.set (Int.toNat x23') (wr .i64 (x30' - x31')))
 else none)
 else none)
 else f2 size0 pieces1 most2 i10 u0 (plan8.set (Int.toNat i10) (wr .i64 (x21' + 1))) left9)
 else none))
 else none)
 else none)
 else none)
noncomputable def DL84c98io0001_4 (n : Nat × Nat) (f1 : (Int → List Int → Int → Int → Bool → List Int → List Int → Option R84c98io0001) × (Int → List Int → Int → Int → Bool → List Int → List Int → Option R84c98io0001)) (m : Nat) : Int → List Int → Int → Int → Bool → List Int → List Int → Option R84c98io0001 := Nat.rec (motive := fun _ => Int → List Int → Int → Int → Bool → List Int → List Int → Option R84c98io0001) (fun _ _ _ _ _ _ _ => none) (fun _ ih => DF84c98io0001_4 n f1 ih) m
theorem DL84c98io0001_4_succ (n : Nat × Nat) (f1 : (Int → List Int → Int → Int → Bool → List Int → List Int → Option R84c98io0001) × (Int → List Int → Int → Int → Bool → List Int → List Int → Option R84c98io0001)) (m : Nat) : DL84c98io0001_4 n f1 (m + 1) = DF84c98io0001_4 n f1 (DL84c98io0001_4 n f1 m) := rfl
theorem DL84c98io0001_4_eq (n : Nat × Nat) (hn : n.2 = 1) (m1 : Nat) : ∀ m, L84c98io0001_4 n m1 m = DL84c98io0001_4 n (L84c98io0001_1 n m1, L84c98io0001_3 n m1) m
  | 0 => by funext size0 pieces1 most2 i10 u0 plan8 left9; kernel_rfl
  | m + 1 => by
    have ih := DL84c98io0001_4_eq n hn m1 m
    funext size0 pieces1 most2 i10 u0 plan8 left9; refine (L84c98io0001_4_eq n m1 m size0 pieces1 most2 i10 u0 plan8 left9).trans ?_
    rw [DL84c98io0001_4_succ]
    unfold DF84c98io0001_4
    (try simp only [ih, S69_D n hn, S98io11_D n hn]) <;> first | with_reducible rfl | rfl
noncomputable def DF84c98io0001_1 (n : Nat × Nat) (f1 : (Int → List Int → Int → Int → Bool → List Int → List Int → Option R84c98io0001) × (Int → List Int → Int → Int → Bool → List Int → List Int → Option R84c98io0001)) (size0 : Int) (pieces1 : List Int) (most2 : Int) (i10 : Int) (u0 : Bool) (plan8 : List Int) (left9 : List Int) : Option R84c98io0001 :=
 (bif decide (wr .i64 (i10 - 1) < 0) then some ((), u0, ())
 else (bif inB (wr .i64 (i10 - 1)) plan8.length then (idx plan8 (wr .i64 (i10 - 1))).bind fun x4' =>
 (bif inB x4' left9.length then (idx left9 x4').bind fun x5' =>
 (idx pieces1 (wr .i64 (i10 - 1))).bind fun x6' =>
 (bif inB x4' left9.length then (idx left9 x4').bind fun x7' =>
            f1.2 size0 pieces1 most2 (wr .i64 (i10 - 1)) u0 plan8 (left9.set (Int.toNat x4') (wr .i64 (x5' + x6')))
 else none)
 else none)
 else none))
noncomputable def DF84c98io0001_3 (n : Nat × Nat) (f1 : (Int → List Int → Int → Int → Bool → List Int → List Int → Option R84c98io0001) × (Int → List Int → Int → Int → Bool → List Int → List Int → Option R84c98io0001)) (size0 : Int) (pieces1 : List Int) (most2 : Int) (i10 : Int) (u0 : Bool) (plan8 : List Int) (left9 : List Int) : Option R84c98io0001 :=
 (bif (i10 == (pieces1.length : Int)) then (D98io11 n plan8 u0).bind fun r20' =>
 (bif Nat.beq r20'.2.1.length plan8.length then (bif (!r20'.1) then some ((), r20'.2.2.1, ())
 else f1.1 size0 pieces1 most2 i10 r20'.2.2.1 r20'.2.1 left9)
 else none)
 else DL84c98io0001_4 n f1 n.1 size0 pieces1 most2 i10 u0 plan8 left9)
noncomputable def DG84c98io0001_1 (n : Nat × Nat) (m : Nat) : (Int → List Int → Int → Int → Bool → List Int → List Int → Option R84c98io0001) × (Int → List Int → Int → Int → Bool → List Int → List Int → Option R84c98io0001) := Nat.rec (motive := fun _ => (Int → List Int → Int → Int → Bool → List Int → List Int → Option R84c98io0001) × (Int → List Int → Int → Int → Bool → List Int → List Int → Option R84c98io0001)) ((fun _ _ _ _ _ _ _ => none), (fun _ _ _ _ _ _ _ => none)) (fun _ ih => (DF84c98io0001_1 n ih, DF84c98io0001_3 n ih)) m
theorem DG84c98io0001_1_succ (n : Nat × Nat) (m : Nat) : DG84c98io0001_1 n (m + 1) = (DF84c98io0001_1 n (DG84c98io0001_1 n m), DF84c98io0001_3 n (DG84c98io0001_1 n m)) := rfl
noncomputable def DL84c98io0001_1 (n : Nat × Nat) (m : Nat) : Int → List Int → Int → Int → Bool → List Int → List Int → Option R84c98io0001 := (DG84c98io0001_1 n m).1
noncomputable def DL84c98io0001_3 (n : Nat × Nat) (m : Nat) : Int → List Int → Int → Int → Bool → List Int → List Int → Option R84c98io0001 := (DG84c98io0001_1 n m).2
theorem DG84c98io0001_1_eq (n : Nat × Nat) (hn : n.2 = 1) : ∀ m, (L84c98io0001_1 n m, L84c98io0001_3 n m) = DG84c98io0001_1 n m
  | 0 => by
    have z1 : L84c98io0001_1 n 0 = (fun _ _ _ _ _ _ _ => none) := by funext size0 pieces1 most2 i10 u0 plan8 left9; kernel_rfl
    have z3 : L84c98io0001_3 n 0 = (fun _ _ _ _ _ _ _ => none) := by funext size0 pieces1 most2 i10 u0 plan8 left9; kernel_rfl
    rw [z1, z3]
    rfl
  | m + 1 => by
    have ih := DG84c98io0001_1_eq n hn m
    have ih1 : L84c98io0001_1 n m = (DG84c98io0001_1 n m).1 := congrArg (fun p => p.1) ih; have ih3 : L84c98io0001_3 n m = (DG84c98io0001_1 n m).2 := congrArg (fun p => p.2) ih
    have e1 : L84c98io0001_1 n (m + 1) = DF84c98io0001_1 n (DG84c98io0001_1 n m) := by
      funext size0 pieces1 most2 i10 u0 plan8 left9; refine (L84c98io0001_1_eq n m size0 pieces1 most2 i10 u0 plan8 left9).trans ?_
      unfold DF84c98io0001_1
      (try simp only [ih1, ih3, DL84c98io0001_4_eq n hn, S69_D n hn, S98io11_D n hn]) <;> first | with_reducible rfl | rfl
    have e3 : L84c98io0001_3 n (m + 1) = DF84c98io0001_3 n (DG84c98io0001_1 n m) := by
      funext size0 pieces1 most2 i10 u0 plan8 left9; refine (L84c98io0001_3_eq n m size0 pieces1 most2 i10 u0 plan8 left9).trans ?_
      unfold DF84c98io0001_3
      (try simp only [ih1, ih3, DL84c98io0001_4_eq n hn, S69_D n hn, S98io11_D n hn]) <;> first | with_reducible rfl | rfl
    rw [DG84c98io0001_1_succ, e1, e3]
theorem DL84c98io0001_1_eq (n : Nat × Nat) (hn : n.2 = 1) (m : Nat) : L84c98io0001_1 n m = DL84c98io0001_1 n m := congrArg (fun p => p.1) (DG84c98io0001_1_eq n hn m)
theorem DL84c98io0001_3_eq (n : Nat × Nat) (hn : n.2 = 1) (m : Nat) : L84c98io0001_3 n m = DL84c98io0001_3 n m := congrArg (fun p => p.2) (DG84c98io0001_1_eq n hn m)
noncomputable def DF84c98io0001_2 (n : Nat × Nat) (f1 : Int → List Int → Int → Int → Bool → List Int → List Int → Option R84c98io0001) (size0 : Int) (pieces1 : List Int) (most2 : Int) (i10 : Int) (u0 : Bool) (plan8 : List Int) (left9 : List Int) : Option R84c98io0001 :=
 (bif inB i10 plan8.length then (idx plan8 i10).bind fun x8' =>
 (bif inB i10 plan8.length then (idx plan8 i10).bind fun x9' =>
 (bif inB i10 (plan8.set (Int.toNat i10) (wr .i64 (x8' + 1))).length then (idx (plan8.set (Int.toNat i10) (wr .i64 (x8' + 1))) i10).bind fun x10' =>
 ((bif (decide (x10' ≥ most2) == false) then ((bif (decide (x10' > 0) == true) then (bif inB (wr .i64 (x10' - 1)) left9.length then (idx left9 (wr .i64 (x10' - 1))).bind fun x11' =>
 some (x11' == size0)
 else none)
 else some false)).bind fun b12' =>
 some b12'
 else some true)).bind fun b13' =>
 (bif b13' then (bif inB i10 (plan8.set (Int.toNat i10) (wr .i64 (x8' + 1))).length then (idx (plan8.set (Int.toNat i10) (wr .i64 (x8' + 1))) i10).bind fun x14' =>
              DL84c98io0001_1 n n.1 size0 pieces1 most2 i10 u0 ((plan8.set (Int.toNat i10) (wr .i64 (x8' + 1))).set (Int.toNat i10) (-1)) left9
 else none)
 else (bif inB x10' left9.length then (idx left9 x10').bind fun x15' =>
 (idx pieces1 i10).bind fun x16' =>
 (bif decide (x15' ≥ x16') then (bif inB x10' left9.length then (idx left9 x10').bind fun x17' =>
 (idx pieces1 i10).bind fun x18' =>
 (bif inB x10' left9.length then (idx left9 x10').bind fun x19' =>
                    DL84c98io0001_3 n n.1 size0 pieces1 most2 (wr .i64 (i10 + 1)) u0 (plan8.set (Int.toNat i10) (wr .i64 (x8' + 1))) (left9.set (Int.toNat x10') (wr .i64 (x17' - x18')))
 else none)
 else none)
 else f1 size0 pieces1 most2 i10 u0 (plan8.set (Int.toNat i10) (wr .i64 (x8' + 1))) left9)
 else none))
 else none)
 else none)
 else none)
noncomputable def DL84c98io0001_2 (n : Nat × Nat) (m : Nat) : Int → List Int → Int → Int → Bool → List Int → List Int → Option R84c98io0001 := Nat.rec (motive := fun _ => Int → List Int → Int → Int → Bool → List Int → List Int → Option R84c98io0001) (fun _ _ _ _ _ _ _ => none) (fun _ ih => DF84c98io0001_2 n ih) m
theorem DL84c98io0001_2_succ (n : Nat × Nat) (m : Nat) : DL84c98io0001_2 n (m + 1) = DF84c98io0001_2 n (DL84c98io0001_2 n m) := rfl
theorem DL84c98io0001_2_eq (n : Nat × Nat) (hn : n.2 = 1) : ∀ m, L84c98io0001_2 n m = DL84c98io0001_2 n m
  | 0 => by funext size0 pieces1 most2 i10 u0 plan8 left9; kernel_rfl
  | m + 1 => by
    have ih := DL84c98io0001_2_eq n hn m
    funext size0 pieces1 most2 i10 u0 plan8 left9; refine (L84c98io0001_2_eq n m size0 pieces1 most2 i10 u0 plan8 left9).trans ?_
    rw [DL84c98io0001_2_succ]
    unfold DF84c98io0001_2
    (try simp only [ih, DL84c98io0001_4_eq n hn, DL84c98io0001_1_eq n hn, DL84c98io0001_3_eq n hn, S69_D n hn, S98io11_D n hn]) <;> first | with_reducible rfl | rfl
noncomputable def D84c98io0001 (n : Nat × Nat) (size0 : Int) (pieces1 : List Int) (most2 : Int) (cp_3_0 : Bool) : Option R84c98io0001 :=
 (D69 n [-1] (pieces1.length : Int)).bind fun r1' =>
 (D69 n [size0] most2).bind fun r2' =>
 (bif (0 == (pieces1.length : Int)) then (D98io11 n r1' cp_3_0).bind fun r3' =>
 (bif Nat.beq r3'.2.1.length r1'.length then (bif (!r3'.1) then some ((), r3'.2.2.1, ())
 else DL84c98io0001_1 n n.1 size0 pieces1 most2 0 r3'.2.2.1 r3'.2.1 r2')
 else none)
 else DL84c98io0001_2 n n.1 size0 pieces1 most2 0 cp_3_0 r1' r2')
theorem S84c98io0001_D (n : Nat × Nat) (hn : n.2 = 1) : S84c98io0001 n = D84c98io0001 n := by
  funext size0 pieces1 most2 cp_3_0; refine (S84c98io0001_eq n size0 pieces1 most2 cp_3_0).trans ?_
  unfold D84c98io0001
  (try simp only [DL84c98io0001_4_eq n hn, DL84c98io0001_1_eq n hn, DL84c98io0001_3_eq n hn, DL84c98io0001_2_eq n hn, S69_D n hn, S98io11_D n hn]) <;> first | with_reducible rfl | rfl
/-D 82 -/
noncomputable def DF82_1 (n : Nat × Nat) (f1 : Int → List Int → Int → Option R82) (size0 : Int) (pieces1 : List Int) (most5 : Int) : Option R82 :=
 (D84c98io0001 n size0 pieces1 most5 false).bind fun r1' =>
 ((bif (r1'.2.1 == false) then some (most5 == (pieces1.length : Int))
 else some true)).bind fun b2' =>
 (bif b2' then some most5
 else f1 size0 pieces1 (wr .i64 (most5 + 1)))
noncomputable def DL82_1 (n : Nat × Nat) (m : Nat) : Int → List Int → Int → Option R82 := Nat.rec (motive := fun _ => Int → List Int → Int → Option R82) (fun _ _ _ => none) (fun _ ih => DF82_1 n ih) m
theorem DL82_1_succ (n : Nat × Nat) (m : Nat) : DL82_1 n (m + 1) = DF82_1 n (DL82_1 n m) := rfl
theorem DL82_1_eq (n : Nat × Nat) (hn : n.2 = 1) : ∀ m, L82_1 n m = DL82_1 n m
  | 0 => by funext size0 pieces1 most5; kernel_rfl
  | m + 1 => by
    have ih := DL82_1_eq n hn m
    funext size0 pieces1 most5; refine (L82_1_eq n m size0 pieces1 most5).trans ?_
    rw [DL82_1_succ]
    unfold DF82_1
    (try simp only [ih, S84c98io0001_D n hn]) <;> first | with_reducible rfl | rfl
noncomputable def D82 (n : Nat × Nat) (size0 : Int) (pieces1 : List Int) : Option R82 :=
    DL82_1 n n.1 size0 pieces1 0
theorem S82_D (n : Nat × Nat) (hn : n.2 = 1) : S82 n = D82 n := by
  funext size0 pieces1; refine (S82_eq n size0 pieces1).trans ?_
  unfold D82
  (try simp only [DL82_1_eq n hn, S84c98io0001_D n hn]) <;> first | with_reducible rfl | rfl
/-D 34 -/
noncomputable def D34 (n : Nat × Nat) (size0 : Int) (pieces1 : List Int) : Option R34 :=
 (D26 n size0 pieces1).bind fun r1' =>
 (bif (r1' != 0) then some (0, r1')
 else (D82 n size0 pieces1).bind fun r2' =>
 some (r2', 0))
theorem S34_D (n : Nat × Nat) (hn : n.2 = 1) : S34 n = D34 n := by
  funext size0 pieces1; refine (S34_eq n size0 pieces1).trans ?_
  unfold D34
  (try simp only [S26_D n hn, S82_D n hn]) <;> first | with_reducible rfl | rfl
/-D 57 -/
noncomputable def D57 (n : Nat × Nat) : Option R57 :=
 some [6, 3, 6, 1, 3, 3]
theorem S57_D (n : Nat × Nat) (hn : n.2 = 1) : S57 n = D57 n := by
  refine (S57_eq n).trans ?_
  unfold D57
  first | with_reducible rfl | rfl
/-D 56 -/
noncomputable def D56 (n : Nat × Nat) (s0 : List Int) : Option R56 := HF56 s0
theorem S56_D (n : Nat × Nat) (hn : n.2 = 1) : S56 n = D56 n := by unfold S56 D56; rfl
/-D 56v -/
noncomputable def D56v (n : Nat × Nat) := D56 n
theorem S56v_D (n : Nat × Nat) (hn : n.2 = 1) : S56v n = D56v n := S56_D n hn
/-D 85io11 -/
noncomputable def D85io11 (n : Nat × Nat) (plan0 : List Int) (v1 : List Int) : Option R85io11 :=
 (D56v n plan0).bind fun r1' =>
 some (false, plan0, r1', ())
theorem S85io11_D (n : Nat × Nat) (hn : n.2 = 1) : S85io11 n = D85io11 n := by
  funext plan0 v1; refine (S85io11_eq n plan0 v1).trans ?_
  unfold D85io11
  (try simp only [S56v_D n hn]) <;> first | with_reducible rfl | rfl
/-D 84c85io0001 -/
noncomputable def DF84c85io0001_4 (n : Nat × Nat) (f1 : (Int → List Int → Int → Int → List Int → List Int → List Int → Option R84c85io0001) × (Int → List Int → Int → Int → List Int → List Int → List Int → Option R84c85io0001)) (f2 : Int → List Int → Int → Int → List Int → List Int → List Int → Option R84c85io0001) (size0 : Int) (pieces1 : List Int) (most2 : Int) (i10 : Int) (u0 : List Int) (plan8 : List Int) (left9 : List Int) : Option R84c85io0001 :=
 (bif inB i10 plan8.length then (idx plan8 i10).bind fun x21' =>
 (bif inB i10 plan8.length then (idx plan8 i10).bind fun x22' =>
 (bif inB i10 (plan8.set (Int.toNat i10) (wr .i64 (x21' + 1))).length then (idx (plan8.set (Int.toNat i10) (wr .i64 (x21' + 1))) i10).bind fun x23' =>
 ((bif (decide (x23' ≥ most2) == false) then ((bif (decide (x23' > 0) == true) then (bif inB (wr .i64 (x23' - 1)) left9.length then (idx left9 (wr .i64 (x23' - 1))).bind fun x24' =>
 some (x24' == size0)
 else none)
 else some false)).bind fun b25' =>
 some b25'
 else some true)).bind fun b26' =>
 (bif b26' then (bif inB i10 (plan8.set (Int.toNat i10) (wr .i64 (x21' + 1))).length then (idx (plan8.set (Int.toNat i10) (wr .i64 (x21' + 1))) i10).bind fun x27' =>
              f1.1 size0 pieces1 most2 i10 u0 ((plan8.set (Int.toNat i10) (wr .i64 (x21' + 1))).set (Int.toNat i10) (-1)) left9
 else none)
 else (bif inB x23' left9.length then (idx left9 x23').bind fun x28' =>
 (idx pieces1 i10).bind fun x29' =>
 (bif decide (x28' ≥ x29') then (bif inB x23' left9.length then (idx left9 x23').bind fun x30' =>
 (idx pieces1 i10).bind fun x31' =>
 (bif inB x23' left9.length then (idx left9 x23').bind fun x32' =>
                    f1.2 size0 pieces1 most2 (wr .i64 (i10 + 1)) u0 (plan8.set (Int.toNat i10) (wr .i64 (x21' + 1))) (left9.set (Int.toNat x23') (wr .i64 (x30' - x31')))
 else none)
 else none)
 else f2 size0 pieces1 most2 i10 u0 (plan8.set (Int.toNat i10) (wr .i64 (x21' + 1))) left9)
 else none))
 else none)
 else none)
 else none)
noncomputable def DL84c85io0001_4 (n : Nat × Nat) (f1 : (Int → List Int → Int → Int → List Int → List Int → List Int → Option R84c85io0001) × (Int → List Int → Int → Int → List Int → List Int → List Int → Option R84c85io0001)) (m : Nat) : Int → List Int → Int → Int → List Int → List Int → List Int → Option R84c85io0001 := Nat.rec (motive := fun _ => Int → List Int → Int → Int → List Int → List Int → List Int → Option R84c85io0001) (fun _ _ _ _ _ _ _ => none) (fun _ ih => DF84c85io0001_4 n f1 ih) m
theorem DL84c85io0001_4_succ (n : Nat × Nat) (f1 : (Int → List Int → Int → Int → List Int → List Int → List Int → Option R84c85io0001) × (Int → List Int → Int → Int → List Int → List Int → List Int → Option R84c85io0001)) (m : Nat) : DL84c85io0001_4 n f1 (m + 1) = DF84c85io0001_4 n f1 (DL84c85io0001_4 n f1 m) := rfl
theorem DL84c85io0001_4_eq (n : Nat × Nat) (hn : n.2 = 1) (m1 : Nat) : ∀ m, L84c85io0001_4 n m1 m = DL84c85io0001_4 n (L84c85io0001_1 n m1, L84c85io0001_3 n m1) m
  | 0 => by funext size0 pieces1 most2 i10 u0 plan8 left9; kernel_rfl
  | m + 1 => by
    have ih := DL84c85io0001_4_eq n hn m1 m
    funext size0 pieces1 most2 i10 u0 plan8 left9; refine (L84c85io0001_4_eq n m1 m size0 pieces1 most2 i10 u0 plan8 left9).trans ?_
    rw [DL84c85io0001_4_succ]
    unfold DF84c85io0001_4
    (try simp only [ih, S69_D n hn, S85io11_D n hn]) <;> first | with_reducible rfl | rfl
noncomputable def DF84c85io0001_1 (n : Nat × Nat) (f1 : (Int → List Int → Int → Int → List Int → List Int → List Int → Option R84c85io0001) × (Int → List Int → Int → Int → List Int → List Int → List Int → Option R84c85io0001)) (size0 : Int) (pieces1 : List Int) (most2 : Int) (i10 : Int) (u0 : List Int) (plan8 : List Int) (left9 : List Int) : Option R84c85io0001 :=
 (bif decide (wr .i64 (i10 - 1) < 0) then some ((), u0, ())
 else (bif inB (wr .i64 (i10 - 1)) plan8.length then (idx plan8 (wr .i64 (i10 - 1))).bind fun x4' =>
 (bif inB x4' left9.length then (idx left9 x4').bind fun x5' =>
 (idx pieces1 (wr .i64 (i10 - 1))).bind fun x6' =>
 (bif inB x4' left9.length then (idx left9 x4').bind fun x7' =>
            f1.2 size0 pieces1 most2 (wr .i64 (i10 - 1)) u0 plan8 (left9.set (Int.toNat x4') (wr .i64 (x5' + x6')))
 else none)
 else none)
 else none))
noncomputable def DF84c85io0001_3 (n : Nat × Nat) (f1 : (Int → List Int → Int → Int → List Int → List Int → List Int → Option R84c85io0001) × (Int → List Int → Int → Int → List Int → List Int → List Int → Option R84c85io0001)) (size0 : Int) (pieces1 : List Int) (most2 : Int) (i10 : Int) (u0 : List Int) (plan8 : List Int) (left9 : List Int) : Option R84c85io0001 :=
 (bif (i10 == (pieces1.length : Int)) then (D85io11 n plan8 u0).bind fun r20' =>
 (bif Nat.beq r20'.2.1.length plan8.length then (bif (!r20'.1) then some ((), r20'.2.2.1, ())
 else f1.1 size0 pieces1 most2 i10 r20'.2.2.1 r20'.2.1 left9)
 else none)
 else DL84c85io0001_4 n f1 n.1 size0 pieces1 most2 i10 u0 plan8 left9)
noncomputable def DG84c85io0001_1 (n : Nat × Nat) (m : Nat) : (Int → List Int → Int → Int → List Int → List Int → List Int → Option R84c85io0001) × (Int → List Int → Int → Int → List Int → List Int → List Int → Option R84c85io0001) := Nat.rec (motive := fun _ => (Int → List Int → Int → Int → List Int → List Int → List Int → Option R84c85io0001) × (Int → List Int → Int → Int → List Int → List Int → List Int → Option R84c85io0001)) ((fun _ _ _ _ _ _ _ => none), (fun _ _ _ _ _ _ _ => none)) (fun _ ih => (DF84c85io0001_1 n ih, DF84c85io0001_3 n ih)) m
theorem DG84c85io0001_1_succ (n : Nat × Nat) (m : Nat) : DG84c85io0001_1 n (m + 1) = (DF84c85io0001_1 n (DG84c85io0001_1 n m), DF84c85io0001_3 n (DG84c85io0001_1 n m)) := rfl
noncomputable def DL84c85io0001_1 (n : Nat × Nat) (m : Nat) : Int → List Int → Int → Int → List Int → List Int → List Int → Option R84c85io0001 := (DG84c85io0001_1 n m).1
noncomputable def DL84c85io0001_3 (n : Nat × Nat) (m : Nat) : Int → List Int → Int → Int → List Int → List Int → List Int → Option R84c85io0001 := (DG84c85io0001_1 n m).2
theorem DG84c85io0001_1_eq (n : Nat × Nat) (hn : n.2 = 1) : ∀ m, (L84c85io0001_1 n m, L84c85io0001_3 n m) = DG84c85io0001_1 n m
  | 0 => by
    have z1 : L84c85io0001_1 n 0 = (fun _ _ _ _ _ _ _ => none) := by funext size0 pieces1 most2 i10 u0 plan8 left9; kernel_rfl
    have z3 : L84c85io0001_3 n 0 = (fun _ _ _ _ _ _ _ => none) := by funext size0 pieces1 most2 i10 u0 plan8 left9; kernel_rfl
    rw [z1, z3]
    rfl
  | m + 1 => by
    have ih := DG84c85io0001_1_eq n hn m
    have ih1 : L84c85io0001_1 n m = (DG84c85io0001_1 n m).1 := congrArg (fun p => p.1) ih; have ih3 : L84c85io0001_3 n m = (DG84c85io0001_1 n m).2 := congrArg (fun p => p.2) ih
    have e1 : L84c85io0001_1 n (m + 1) = DF84c85io0001_1 n (DG84c85io0001_1 n m) := by
      funext size0 pieces1 most2 i10 u0 plan8 left9; refine (L84c85io0001_1_eq n m size0 pieces1 most2 i10 u0 plan8 left9).trans ?_
      unfold DF84c85io0001_1
      (try simp only [ih1, ih3, DL84c85io0001_4_eq n hn, S69_D n hn, S85io11_D n hn]) <;> first | with_reducible rfl | rfl
    have e3 : L84c85io0001_3 n (m + 1) = DF84c85io0001_3 n (DG84c85io0001_1 n m) := by
      funext size0 pieces1 most2 i10 u0 plan8 left9; refine (L84c85io0001_3_eq n m size0 pieces1 most2 i10 u0 plan8 left9).trans ?_
      unfold DF84c85io0001_3
      (try simp only [ih1, ih3, DL84c85io0001_4_eq n hn, S69_D n hn, S85io11_D n hn]) <;> first | with_reducible rfl | rfl
    rw [DG84c85io0001_1_succ, e1, e3]
theorem DL84c85io0001_1_eq (n : Nat × Nat) (hn : n.2 = 1) (m : Nat) : L84c85io0001_1 n m = DL84c85io0001_1 n m := congrArg (fun p => p.1) (DG84c85io0001_1_eq n hn m)
theorem DL84c85io0001_3_eq (n : Nat × Nat) (hn : n.2 = 1) (m : Nat) : L84c85io0001_3 n m = DL84c85io0001_3 n m := congrArg (fun p => p.2) (DG84c85io0001_1_eq n hn m)
noncomputable def DF84c85io0001_2 (n : Nat × Nat) (f1 : Int → List Int → Int → Int → List Int → List Int → List Int → Option R84c85io0001) (size0 : Int) (pieces1 : List Int) (most2 : Int) (i10 : Int) (u0 : List Int) (plan8 : List Int) (left9 : List Int) : Option R84c85io0001 :=
 (bif inB i10 plan8.length then (idx plan8 i10).bind fun x8' =>
 (bif inB i10 plan8.length then (idx plan8 i10).bind fun x9' =>
 (bif inB i10 (plan8.set (Int.toNat i10) (wr .i64 (x8' + 1))).length then (idx (plan8.set (Int.toNat i10) (wr .i64 (x8' + 1))) i10).bind fun x10' =>
 ((bif (decide (x10' ≥ most2) == false) then ((bif (decide (x10' > 0) == true) then (bif inB (wr .i64 (x10' - 1)) left9.length then (idx left9 (wr .i64 (x10' - 1))).bind fun x11' =>
 some (x11' == size0)
 else none)
 else some false)).bind fun b12' =>
 some b12'
 else some true)).bind fun b13' =>
 (bif b13' then (bif inB i10 (plan8.set (Int.toNat i10) (wr .i64 (x8' + 1))).length then (idx (plan8.set (Int.toNat i10) (wr .i64 (x8' + 1))) i10).bind fun x14' =>
              DL84c85io0001_1 n n.1 size0 pieces1 most2 i10 u0 ((plan8.set (Int.toNat i10) (wr .i64 (x8' + 1))).set (Int.toNat i10) (-1)) left9
 else none)
 else (bif inB x10' left9.length then (idx left9 x10').bind fun x15' =>
 (idx pieces1 i10).bind fun x16' =>
 (bif decide (x15' ≥ x16') then (bif inB x10' left9.length then (idx left9 x10').bind fun x17' =>
 (idx pieces1 i10).bind fun x18' =>
 (bif inB x10' left9.length then (idx left9 x10').bind fun x19' =>
                    DL84c85io0001_3 n n.1 size0 pieces1 most2 (wr .i64 (i10 + 1)) u0 (plan8.set (Int.toNat i10) (wr .i64 (x8' + 1))) (left9.set (Int.toNat x10') (wr .i64 (x17' - x18')))
 else none)
 else none)
 else f1 size0 pieces1 most2 i10 u0 (plan8.set (Int.toNat i10) (wr .i64 (x8' + 1))) left9)
 else none))
 else none)
 else none)
 else none)
noncomputable def DL84c85io0001_2 (n : Nat × Nat) (m : Nat) : Int → List Int → Int → Int → List Int → List Int → List Int → Option R84c85io0001 := Nat.rec (motive := fun _ => Int → List Int → Int → Int → List Int → List Int → List Int → Option R84c85io0001) (fun _ _ _ _ _ _ _ => none) (fun _ ih => DF84c85io0001_2 n ih) m
theorem DL84c85io0001_2_succ (n : Nat × Nat) (m : Nat) : DL84c85io0001_2 n (m + 1) = DF84c85io0001_2 n (DL84c85io0001_2 n m) := rfl
theorem DL84c85io0001_2_eq (n : Nat × Nat) (hn : n.2 = 1) : ∀ m, L84c85io0001_2 n m = DL84c85io0001_2 n m
  | 0 => by funext size0 pieces1 most2 i10 u0 plan8 left9; kernel_rfl
  | m + 1 => by
    have ih := DL84c85io0001_2_eq n hn m
    funext size0 pieces1 most2 i10 u0 plan8 left9; refine (L84c85io0001_2_eq n m size0 pieces1 most2 i10 u0 plan8 left9).trans ?_
    rw [DL84c85io0001_2_succ]
    unfold DF84c85io0001_2
    (try simp only [ih, DL84c85io0001_4_eq n hn, DL84c85io0001_1_eq n hn, DL84c85io0001_3_eq n hn, S69_D n hn, S85io11_D n hn]) <;> first | with_reducible rfl | rfl
noncomputable def D84c85io0001 (n : Nat × Nat) (size0 : Int) (pieces1 : List Int) (most2 : Int) (cp_3_0 : List Int) : Option R84c85io0001 :=
 (D69 n [-1] (pieces1.length : Int)).bind fun r1' =>
 (D69 n [size0] most2).bind fun r2' =>
 (bif (0 == (pieces1.length : Int)) then (D85io11 n r1' cp_3_0).bind fun r3' =>
 (bif Nat.beq r3'.2.1.length r1'.length then (bif (!r3'.1) then some ((), r3'.2.2.1, ())
 else DL84c85io0001_1 n n.1 size0 pieces1 most2 0 r3'.2.2.1 r3'.2.1 r2')
 else none)
 else DL84c85io0001_2 n n.1 size0 pieces1 most2 0 cp_3_0 r1' r2')
theorem S84c85io0001_D (n : Nat × Nat) (hn : n.2 = 1) : S84c85io0001 n = D84c85io0001 n := by
  funext size0 pieces1 most2 cp_3_0; refine (S84c85io0001_eq n size0 pieces1 most2 cp_3_0).trans ?_
  unfold D84c85io0001
  (try simp only [DL84c85io0001_4_eq n hn, DL84c85io0001_1_eq n hn, DL84c85io0001_3_eq n hn, DL84c85io0001_2_eq n hn, S69_D n hn, S85io11_D n hn]) <;> first | with_reducible rfl | rfl
/-D 36 -/
noncomputable def D36 (n : Nat × Nat) (size0 : Int) (pieces1 : List Int) : Option R36 :=
 (D26 n size0 pieces1).bind fun r1' =>
 (bif (r1' != 0) then some ([], r1')
 else (D82 n size0 pieces1).bind fun r2' =>
 (D84c85io0001 n size0 pieces1 r2' []).bind fun r3' =>
 some (r3'.2.1, 0))
theorem S36_D (n : Nat × Nat) (hn : n.2 = 1) : S36 n = D36 n := by
  funext size0 pieces1; refine (S36_eq n size0 pieces1).trans ?_
  unfold D36
  (try simp only [S26_D n hn, S82_D n hn, S84c85io0001_D n hn]) <;> first | with_reducible rfl | rfl
/-D 60 -/
noncomputable def D60 (n : Nat × Nat) : Option R60 :=
 some [4, 4, 4, 4, 4]
theorem S60_D (n : Nat × Nat) (hn : n.2 = 1) : S60 n = D60 n := by
  refine (S60_eq n).trans ?_
  unfold D60
  first | with_reducible rfl | rfl
/-D 86io11 -/
noncomputable def D86io11 (n : Nat × Nat) (v0 : List Int) (v1 : Int) : Option R86io11 :=
 some (true, v0, wr .i64 (v1 + 1), ())
theorem S86io11_D (n : Nat × Nat) (hn : n.2 = 1) : S86io11 n = D86io11 n := by
  funext v0 v1; refine (S86io11_eq n v0 v1).trans ?_
  unfold D86io11
  first | with_reducible rfl | rfl
/-D 84c86io0001 -/
noncomputable def DF84c86io0001_4 (n : Nat × Nat) (f1 : (Int → List Int → Int → Int → Int → List Int → List Int → Option R84c86io0001) × (Int → List Int → Int → Int → Int → List Int → List Int → Option R84c86io0001)) (f2 : Int → List Int → Int → Int → Int → List Int → List Int → Option R84c86io0001) (size0 : Int) (pieces1 : List Int) (most2 : Int) (i10 : Int) (u0 : Int) (plan8 : List Int) (left9 : List Int) : Option R84c86io0001 :=
 (bif inB i10 plan8.length then (idx plan8 i10).bind fun x21' =>
 (bif inB i10 plan8.length then (idx plan8 i10).bind fun x22' =>
 (bif inB i10 (plan8.set (Int.toNat i10) (wr .i64 (x21' + 1))).length then (idx (plan8.set (Int.toNat i10) (wr .i64 (x21' + 1))) i10).bind fun x23' =>
 ((bif (decide (x23' ≥ most2) == false) then ((bif (decide (x23' > 0) == true) then (bif inB (wr .i64 (x23' - 1)) left9.length then (idx left9 (wr .i64 (x23' - 1))).bind fun x24' =>
 some (x24' == size0)
 else none)
 else some false)).bind fun b25' =>
 some b25'
 else some true)).bind fun b26' =>
 (bif b26' then (bif inB i10 (plan8.set (Int.toNat i10) (wr .i64 (x21' + 1))).length then (idx (plan8.set (Int.toNat i10) (wr .i64 (x21' + 1))) i10).bind fun x27' =>
              f1.1 size0 pieces1 most2 i10 u0 ((plan8.set (Int.toNat i10) (wr .i64 (x21' + 1))).set (Int.toNat i10) (-1)) left9
 else none)
 else (bif inB x23' left9.length then (idx left9 x23').bind fun x28' =>
 (idx pieces1 i10).bind fun x29' =>
 (bif decide (x28' ≥ x29') then (bif inB x23' left9.length then (idx left9 x23').bind fun x30' =>
 (idx pieces1 i10).bind fun x31' =>
 (bif inB x23' left9.length then (idx left9 x23').bind fun x32' =>
                    f1.2 size0 pieces1 most2 (wr .i64 (i10 + 1)) u0 (plan8.set (Int.toNat i10) (wr .i64 (x21' + 1))) (left9.set (Int.toNat x23') (wr .i64 (x30' - x31')))
 else none)
 else none)
 else f2 size0 pieces1 most2 i10 u0 (plan8.set (Int.toNat i10) (wr .i64 (x21' + 1))) left9)
 else none))
 else none)
 else none)
 else none)
noncomputable def DL84c86io0001_4 (n : Nat × Nat) (f1 : (Int → List Int → Int → Int → Int → List Int → List Int → Option R84c86io0001) × (Int → List Int → Int → Int → Int → List Int → List Int → Option R84c86io0001)) (m : Nat) : Int → List Int → Int → Int → Int → List Int → List Int → Option R84c86io0001 := Nat.rec (motive := fun _ => Int → List Int → Int → Int → Int → List Int → List Int → Option R84c86io0001) (fun _ _ _ _ _ _ _ => none) (fun _ ih => DF84c86io0001_4 n f1 ih) m
theorem DL84c86io0001_4_succ (n : Nat × Nat) (f1 : (Int → List Int → Int → Int → Int → List Int → List Int → Option R84c86io0001) × (Int → List Int → Int → Int → Int → List Int → List Int → Option R84c86io0001)) (m : Nat) : DL84c86io0001_4 n f1 (m + 1) = DF84c86io0001_4 n f1 (DL84c86io0001_4 n f1 m) := rfl
theorem DL84c86io0001_4_eq (n : Nat × Nat) (hn : n.2 = 1) (m1 : Nat) : ∀ m, L84c86io0001_4 n m1 m = DL84c86io0001_4 n (L84c86io0001_1 n m1, L84c86io0001_3 n m1) m
  | 0 => by funext size0 pieces1 most2 i10 u0 plan8 left9; kernel_rfl
  | m + 1 => by
    have ih := DL84c86io0001_4_eq n hn m1 m
    funext size0 pieces1 most2 i10 u0 plan8 left9; refine (L84c86io0001_4_eq n m1 m size0 pieces1 most2 i10 u0 plan8 left9).trans ?_
    rw [DL84c86io0001_4_succ]
    unfold DF84c86io0001_4
    (try simp only [ih, S69_D n hn, S86io11_D n hn]) <;> first | with_reducible rfl | rfl
noncomputable def DF84c86io0001_1 (n : Nat × Nat) (f1 : (Int → List Int → Int → Int → Int → List Int → List Int → Option R84c86io0001) × (Int → List Int → Int → Int → Int → List Int → List Int → Option R84c86io0001)) (size0 : Int) (pieces1 : List Int) (most2 : Int) (i10 : Int) (u0 : Int) (plan8 : List Int) (left9 : List Int) : Option R84c86io0001 :=
 (bif decide (wr .i64 (i10 - 1) < 0) then some ((), u0, ())
 else (bif inB (wr .i64 (i10 - 1)) plan8.length then (idx plan8 (wr .i64 (i10 - 1))).bind fun x4' =>
 (bif inB x4' left9.length then (idx left9 x4').bind fun x5' =>
 (idx pieces1 (wr .i64 (i10 - 1))).bind fun x6' =>
 (bif inB x4' left9.length then (idx left9 x4').bind fun x7' =>
            f1.2 size0 pieces1 most2 (wr .i64 (i10 - 1)) u0 plan8 (left9.set (Int.toNat x4') (wr .i64 (x5' + x6')))
 else none)
 else none)
 else none))
noncomputable def DF84c86io0001_3 (n : Nat × Nat) (f1 : (Int → List Int → Int → Int → Int → List Int → List Int → Option R84c86io0001) × (Int → List Int → Int → Int → Int → List Int → List Int → Option R84c86io0001)) (size0 : Int) (pieces1 : List Int) (most2 : Int) (i10 : Int) (u0 : Int) (plan8 : List Int) (left9 : List Int) : Option R84c86io0001 :=
 (bif (i10 == (pieces1.length : Int)) then (D86io11 n plan8 u0).bind fun r20' =>
 (bif Nat.beq r20'.2.1.length plan8.length then (bif (!r20'.1) then some ((), r20'.2.2.1, ())
 else f1.1 size0 pieces1 most2 i10 r20'.2.2.1 r20'.2.1 left9)
 else none)
 else DL84c86io0001_4 n f1 n.1 size0 pieces1 most2 i10 u0 plan8 left9)
noncomputable def DG84c86io0001_1 (n : Nat × Nat) (m : Nat) : (Int → List Int → Int → Int → Int → List Int → List Int → Option R84c86io0001) × (Int → List Int → Int → Int → Int → List Int → List Int → Option R84c86io0001) := Nat.rec (motive := fun _ => (Int → List Int → Int → Int → Int → List Int → List Int → Option R84c86io0001) × (Int → List Int → Int → Int → Int → List Int → List Int → Option R84c86io0001)) ((fun _ _ _ _ _ _ _ => none), (fun _ _ _ _ _ _ _ => none)) (fun _ ih => (DF84c86io0001_1 n ih, DF84c86io0001_3 n ih)) m
theorem DG84c86io0001_1_succ (n : Nat × Nat) (m : Nat) : DG84c86io0001_1 n (m + 1) = (DF84c86io0001_1 n (DG84c86io0001_1 n m), DF84c86io0001_3 n (DG84c86io0001_1 n m)) := rfl
noncomputable def DL84c86io0001_1 (n : Nat × Nat) (m : Nat) : Int → List Int → Int → Int → Int → List Int → List Int → Option R84c86io0001 := (DG84c86io0001_1 n m).1
noncomputable def DL84c86io0001_3 (n : Nat × Nat) (m : Nat) : Int → List Int → Int → Int → Int → List Int → List Int → Option R84c86io0001 := (DG84c86io0001_1 n m).2
theorem DG84c86io0001_1_eq (n : Nat × Nat) (hn : n.2 = 1) : ∀ m, (L84c86io0001_1 n m, L84c86io0001_3 n m) = DG84c86io0001_1 n m
  | 0 => by
    have z1 : L84c86io0001_1 n 0 = (fun _ _ _ _ _ _ _ => none) := by funext size0 pieces1 most2 i10 u0 plan8 left9; kernel_rfl
    have z3 : L84c86io0001_3 n 0 = (fun _ _ _ _ _ _ _ => none) := by funext size0 pieces1 most2 i10 u0 plan8 left9; kernel_rfl
    rw [z1, z3]
    rfl
  | m + 1 => by
    have ih := DG84c86io0001_1_eq n hn m
    have ih1 : L84c86io0001_1 n m = (DG84c86io0001_1 n m).1 := congrArg (fun p => p.1) ih; have ih3 : L84c86io0001_3 n m = (DG84c86io0001_1 n m).2 := congrArg (fun p => p.2) ih
    have e1 : L84c86io0001_1 n (m + 1) = DF84c86io0001_1 n (DG84c86io0001_1 n m) := by
      funext size0 pieces1 most2 i10 u0 plan8 left9; refine (L84c86io0001_1_eq n m size0 pieces1 most2 i10 u0 plan8 left9).trans ?_
      unfold DF84c86io0001_1
      (try simp only [ih1, ih3, DL84c86io0001_4_eq n hn, S69_D n hn, S86io11_D n hn]) <;> first | with_reducible rfl | rfl
    have e3 : L84c86io0001_3 n (m + 1) = DF84c86io0001_3 n (DG84c86io0001_1 n m) := by
      funext size0 pieces1 most2 i10 u0 plan8 left9; refine (L84c86io0001_3_eq n m size0 pieces1 most2 i10 u0 plan8 left9).trans ?_
      unfold DF84c86io0001_3
      (try simp only [ih1, ih3, DL84c86io0001_4_eq n hn, S69_D n hn, S86io11_D n hn]) <;> first | with_reducible rfl | rfl
    rw [DG84c86io0001_1_succ, e1, e3]
theorem DL84c86io0001_1_eq (n : Nat × Nat) (hn : n.2 = 1) (m : Nat) : L84c86io0001_1 n m = DL84c86io0001_1 n m := congrArg (fun p => p.1) (DG84c86io0001_1_eq n hn m)
theorem DL84c86io0001_3_eq (n : Nat × Nat) (hn : n.2 = 1) (m : Nat) : L84c86io0001_3 n m = DL84c86io0001_3 n m := congrArg (fun p => p.2) (DG84c86io0001_1_eq n hn m)
noncomputable def DF84c86io0001_2 (n : Nat × Nat) (f1 : Int → List Int → Int → Int → Int → List Int → List Int → Option R84c86io0001) (size0 : Int) (pieces1 : List Int) (most2 : Int) (i10 : Int) (u0 : Int) (plan8 : List Int) (left9 : List Int) : Option R84c86io0001 :=
 (bif inB i10 plan8.length then (idx plan8 i10).bind fun x8' =>
 (bif inB i10 plan8.length then (idx plan8 i10).bind fun x9' =>
 (bif inB i10 (plan8.set (Int.toNat i10) (wr .i64 (x8' + 1))).length then (idx (plan8.set (Int.toNat i10) (wr .i64 (x8' + 1))) i10).bind fun x10' =>
 ((bif (decide (x10' ≥ most2) == false) then ((bif (decide (x10' > 0) == true) then (bif inB (wr .i64 (x10' - 1)) left9.length then (idx left9 (wr .i64 (x10' - 1))).bind fun x11' =>
 some (x11' == size0)
 else none)
 else some false)).bind fun b12' =>
 some b12'
 else some true)).bind fun b13' =>
 (bif b13' then (bif inB i10 (plan8.set (Int.toNat i10) (wr .i64 (x8' + 1))).length then (idx (plan8.set (Int.toNat i10) (wr .i64 (x8' + 1))) i10).bind fun x14' =>
              DL84c86io0001_1 n n.1 size0 pieces1 most2 i10 u0 ((plan8.set (Int.toNat i10) (wr .i64 (x8' + 1))).set (Int.toNat i10) (-1)) left9
 else none)
 else (bif inB x10' left9.length then (idx left9 x10').bind fun x15' =>
 (idx pieces1 i10).bind fun x16' =>
 (bif decide (x15' ≥ x16') then (bif inB x10' left9.length then (idx left9 x10').bind fun x17' =>
 (idx pieces1 i10).bind fun x18' =>
 (bif inB x10' left9.length then (idx left9 x10').bind fun x19' =>
                    DL84c86io0001_3 n n.1 size0 pieces1 most2 (wr .i64 (i10 + 1)) u0 (plan8.set (Int.toNat i10) (wr .i64 (x8' + 1))) (left9.set (Int.toNat x10') (wr .i64 (x17' - x18')))
 else none)
 else none)
 else f1 size0 pieces1 most2 i10 u0 (plan8.set (Int.toNat i10) (wr .i64 (x8' + 1))) left9)
 else none))
 else none)
 else none)
 else none)
noncomputable def DL84c86io0001_2 (n : Nat × Nat) (m : Nat) : Int → List Int → Int → Int → Int → List Int → List Int → Option R84c86io0001 := Nat.rec (motive := fun _ => Int → List Int → Int → Int → Int → List Int → List Int → Option R84c86io0001) (fun _ _ _ _ _ _ _ => none) (fun _ ih => DF84c86io0001_2 n ih) m
theorem DL84c86io0001_2_succ (n : Nat × Nat) (m : Nat) : DL84c86io0001_2 n (m + 1) = DF84c86io0001_2 n (DL84c86io0001_2 n m) := rfl
theorem DL84c86io0001_2_eq (n : Nat × Nat) (hn : n.2 = 1) : ∀ m, L84c86io0001_2 n m = DL84c86io0001_2 n m
  | 0 => by funext size0 pieces1 most2 i10 u0 plan8 left9; kernel_rfl
  | m + 1 => by
    have ih := DL84c86io0001_2_eq n hn m
    funext size0 pieces1 most2 i10 u0 plan8 left9; refine (L84c86io0001_2_eq n m size0 pieces1 most2 i10 u0 plan8 left9).trans ?_
    rw [DL84c86io0001_2_succ]
    unfold DF84c86io0001_2
    (try simp only [ih, DL84c86io0001_4_eq n hn, DL84c86io0001_1_eq n hn, DL84c86io0001_3_eq n hn, S69_D n hn, S86io11_D n hn]) <;> first | with_reducible rfl | rfl
noncomputable def D84c86io0001 (n : Nat × Nat) (size0 : Int) (pieces1 : List Int) (most2 : Int) (cp_3_0 : Int) : Option R84c86io0001 :=
 (D69 n [-1] (pieces1.length : Int)).bind fun r1' =>
 (D69 n [size0] most2).bind fun r2' =>
 (bif (0 == (pieces1.length : Int)) then (D86io11 n r1' cp_3_0).bind fun r3' =>
 (bif Nat.beq r3'.2.1.length r1'.length then (bif (!r3'.1) then some ((), r3'.2.2.1, ())
 else DL84c86io0001_1 n n.1 size0 pieces1 most2 0 r3'.2.2.1 r3'.2.1 r2')
 else none)
 else DL84c86io0001_2 n n.1 size0 pieces1 most2 0 cp_3_0 r1' r2')
theorem S84c86io0001_D (n : Nat × Nat) (hn : n.2 = 1) : S84c86io0001 n = D84c86io0001 n := by
  funext size0 pieces1 most2 cp_3_0; refine (S84c86io0001_eq n size0 pieces1 most2 cp_3_0).trans ?_
  unfold D84c86io0001
  (try simp only [DL84c86io0001_4_eq n hn, DL84c86io0001_1_eq n hn, DL84c86io0001_3_eq n hn, DL84c86io0001_2_eq n hn, S69_D n hn, S86io11_D n hn]) <;> first | with_reducible rfl | rfl
/-D 38 -/
noncomputable def D38 (n : Nat × Nat) (size0 : Int) (pieces1 : List Int) : Option R38 :=
 (D26 n size0 pieces1).bind fun r1' =>
 (bif (r1' != 0) then some (0, r1')
 else (D82 n size0 pieces1).bind fun r2' =>
 (D84c86io0001 n size0 pieces1 r2' 0).bind fun r3' =>
 some (r3'.2.1, 0))
theorem S38_D (n : Nat × Nat) (hn : n.2 = 1) : S38 n = D38 n := by
  funext size0 pieces1; refine (S38_eq n size0 pieces1).trans ?_
  unfold D38
  (try simp only [S26_D n hn, S82_D n hn, S84c86io0001_D n hn]) <;> first | with_reducible rfl | rfl
/-D 93 -/
noncomputable def D93 (n : Nat × Nat) (v0 : Int) : Option R93 :=
 some (decide (v0 < 0))
theorem S93_D (n : Nat × Nat) (hn : n.2 = 1) : S93 n = D93 n := by
  funext v0; refine (S93_eq n v0).trans ?_
  unfold D93
  first | with_reducible rfl | rfl
/-D 79c93 -/
noncomputable def DF79c93_1 (n : Nat × Nat) (f1 : List Int → Int → Int → Option R79c93) (s0 : List Int) (v7 : Int) (v8 : Int) : Option R79c93 :=
 (bif decide (v8 < v7) then (idx s0 v8).bind fun x1' =>
 (D93 n x1').bind fun r2' =>
 (bif r2' then some v8
 else f1 s0 v7 (wr .i64 (v8 + 1)))
 else some (-1))
noncomputable def DL79c93_1 (n : Nat × Nat) (m : Nat) : List Int → Int → Int → Option R79c93 := Nat.rec (motive := fun _ => List Int → Int → Int → Option R79c93) (fun _ _ _ => none) (fun _ ih => DF79c93_1 n ih) m
theorem DL79c93_1_succ (n : Nat × Nat) (m : Nat) : DL79c93_1 n (m + 1) = DF79c93_1 n (DL79c93_1 n m) := rfl
theorem DL79c93_1_eq (n : Nat × Nat) (hn : n.2 = 1) : ∀ m, L79c93_1 n m = DL79c93_1 n m
  | 0 => by funext s0 v7 v8; kernel_rfl
  | m + 1 => by
    have ih := DL79c93_1_eq n hn m
    funext s0 v7 v8; refine (L79c93_1_eq n m s0 v7 v8).trans ?_
    rw [DL79c93_1_succ]
    unfold DF79c93_1
    (try simp only [ih, S93_D n hn]) <;> first | with_reducible rfl | rfl
noncomputable def D79c93 (n : Nat × Nat) (s0 : List Int) : Option R79c93 :=
    DL79c93_1 n n.1 s0 (s0.length : Int) 0
theorem S79c93_D (n : Nat × Nat) (hn : n.2 = 1) : S79c93 n = D79c93 n := by
  funext s0; refine (S79c93_eq n s0).trans ?_
  unfold D79c93
  (try simp only [DL79c93_1_eq n hn, S93_D n hn]) <;> first | with_reducible rfl | rfl
/-D 75c93 -/
noncomputable def D75c93 (n : Nat × Nat) (s0 : List Int) : Option R75c93 :=
 (D79c93 n s0).bind fun r1' =>
 some (decide (r1' ≥ 0))
theorem S75c93_D (n : Nat × Nat) (hn : n.2 = 1) : S75c93 n = D75c93 n := by
  funext s0; refine (S75c93_eq n s0).trans ?_
  unfold D75c93
  (try simp only [S79c93_D n hn]) <;> first | with_reducible rfl | rfl
/-D 66 -/
noncomputable def DL66_2 (n : Nat × Nat) (f1 : Int → List Int → List Int → Int → Int → List Int → Option R66) (size0 : Int) (pieces1 : List Int) (i10 : Int) (s11 : Int) (v25 : List Int) (v26 : Int) (v27 : Int) (left9 : List Int) : Option R66 :=
 (bif inB s11 left9.length then (idx left9 s11).bind fun x4' =>
 (idx pieces1 i10).bind fun x5' =>
 (bif inB s11 left9.length then (idx left9 s11).bind fun x6' =>
        f1 size0 pieces1 v25 v26 (wr .i64 (v27 + 1)) (left9.set (Int.toNat s11) (wr .i64 (x4' - x5')))
 else none)
 else none)
theorem DL66_2_eq (n : Nat × Nat) (hn : n.2 = 1) (m1 : Nat) : L66_2 n m1 = DL66_2 n (L66_1 n m1) := by
  funext size0 pieces1 i10 s11 v25 v26 v27 left9; refine ((held_eq hn _).trans (L66_2_raw n m1 size0 pieces1 i10 s11 v25 v26 v27 left9)).trans ?_
  unfold DL66_2
  (try simp only [S26_D n hn, S75c93_D n hn]) <;> first | with_reducible rfl | rfl
noncomputable def DF66_1 (n : Nat × Nat) (f1 : Int → List Int → List Int → Int → Int → List Int → Option R66) (size0 : Int) (pieces1 : List Int) (v25 : List Int) (v26 : Int) (v27 : Int) (left9 : List Int) : Option R66 :=
 (bif decide (v27 < v26) then (idx v25 v27).bind fun x2' =>
 (bif decide (x2' < 0) then some ([], 2)
 else (bif decide (x2' > (left9.length : Int)) then some ([], 7)
 else (bif (x2' == (left9.length : Int)) then (bif decide (left9.length + [size0].length ≤ lim) then DL66_2 n f1 size0 pieces1 v27 x2' v25 v26 v27 (left9 ++ [size0])
 else none)
 else DL66_2 n f1 size0 pieces1 v27 x2' v25 v26 v27 left9)))
 else (D75c93 n left9).bind fun r3' =>
 (bif r3' then some ([], 15)
 else some (left9, 0)))
noncomputable def DL66_1 (n : Nat × Nat) (m : Nat) : Int → List Int → List Int → Int → Int → List Int → Option R66 := Nat.rec (motive := fun _ => Int → List Int → List Int → Int → Int → List Int → Option R66) (fun _ _ _ _ _ _ => none) (fun _ ih => DF66_1 n ih) m
theorem DL66_1_succ (n : Nat × Nat) (m : Nat) : DL66_1 n (m + 1) = DF66_1 n (DL66_1 n m) := rfl
theorem DL66_1_eq (n : Nat × Nat) (hn : n.2 = 1) : ∀ m, L66_1 n m = DL66_1 n m
  | 0 => by funext size0 pieces1 v25 v26 v27 left9; kernel_rfl
  | m + 1 => by
    have ih := DL66_1_eq n hn m
    funext size0 pieces1 v25 v26 v27 left9; refine (L66_1_eq n m size0 pieces1 v25 v26 v27 left9).trans ?_
    rw [DL66_1_succ]
    unfold DF66_1
    (try simp only [ih, DL66_2_eq n hn, S26_D n hn, S75c93_D n hn]) <;> first | with_reducible rfl | rfl
noncomputable def D66 (n : Nat × Nat) (size0 : Int) (pieces1 : List Int) (plan2 : List Int) : Option R66 :=
 (D26 n size0 pieces1).bind fun r1' =>
 (bif (r1' != 0) then some ([], r1')
 else (bif ((plan2.length : Int) != (pieces1.length : Int)) then some ([], 5)
 else DL66_1 n n.1 size0 pieces1 plan2 (plan2.length : Int) 0 []))
theorem S66_D (n : Nat × Nat) (hn : n.2 = 1) : S66 n = D66 n := by
  funext size0 pieces1 plan2; refine (S66_eq n size0 pieces1 plan2).trans ?_
  unfold D66
  (try simp only [DL66_2_eq n hn, DL66_1_eq n hn, S26_D n hn, S75c93_D n hn]) <;> first | with_reducible rfl | rfl
/-D 18 -/
noncomputable def D18 (n : Nat × Nat) (size0 : Int) (pieces1 : List Int) (plan2 : List Int) : Option R18 :=
 (D66 n size0 pieces1 plan2).bind fun r1' =>
 some (r1'.1, r1'.2)
theorem S18_D (n : Nat × Nat) (hn : n.2 = 1) : S18 n = D18 n := by
  funext size0 pieces1 plan2; refine (S18_eq n size0 pieces1 plan2).trans ?_
  unfold D18
  (try simp only [S66_D n hn]) <;> first | with_reducible rfl | rfl
/-D 20 -/
noncomputable def D20 (n : Nat × Nat) (size0 : Int) (pieces1 : List Int) (plan2 : List Int) : Option R20 := HF20 (D66 n) size0 pieces1 plan2
theorem S20_D (n : Nat × Nat) (hn : n.2 = 1) : S20 n = D20 n := by unfold S20 D20; rw [S66_D n hn]
/-D 28 -/
noncomputable def D28 (n : Nat × Nat) (size0 : Int) (pieces1 : List Int) (plan2 : List Int) : Option R28 :=
 (D66 n size0 pieces1 plan2).bind fun r1' =>
 some r1'.2
theorem S28_D (n : Nat × Nat) (hn : n.2 = 1) : S28 n = D28 n := by
  funext size0 pieces1 plan2; refine (S28_eq n size0 pieces1 plan2).trans ?_
  unfold D28
  (try simp only [S66_D n hn]) <;> first | with_reducible rfl | rfl
/-D 70 -/
noncomputable def D70 (n : Nat × Nat) (s0 : List Int) (v1 : Int) : Option R70 :=
 (D95 n s0 v1).bind fun r1' =>
 some (decide (r1' ≥ 0))
theorem S70_D (n : Nat × Nat) (hn : n.2 = 1) : S70 n = D70 n := by
  funext s0 v1; refine (S70_eq n s0 v1).trans ?_
  unfold D70
  (try simp only [S95_D n hn]) <;> first | with_reducible rfl | rfl
/-D 22 -/
noncomputable def DF22_2 (n : Nat × Nat) (f1 : Int → List Int → List (List Int) → Int → Int → List Int → Option R22) (f2 : Int → List Int → Int → List (List Int) → Int → Int → List Int → Int → Int → List Int → Option R22) (size0 : Int) (pieces1 : List Int) (g10 : Int) (v25 : List (List Int)) (v26 : Int) (v27 : Int) (v35 : List Int) (v36 : Int) (v37 : Int) (out9 : List Int) : Option R22 :=
 (bif decide (v37 < v36) then (idx v35 v37).bind fun x7' =>
 ((bif (decide (x7' < 0) == false) then some (decide (x7' ≥ (pieces1.length : Int)))
 else some true)).bind fun b8' =>
 (bif b8' then some ([], 2)
 else (bif inB x7' out9.length then (idx out9 x7').bind fun x9' =>
 (bif decide (x9' ≥ 0) then some ([], 6)
 else (bif inB x7' out9.length then (idx out9 x7').bind fun x10' =>
              f2 size0 pieces1 g10 v25 v26 v27 v35 v36 (wr .i64 (v37 + 1)) (out9.set (Int.toNat x7') g10)
 else none))
 else none))
 else f1 size0 pieces1 v25 v26 (wr .i64 (v27 + 1)) out9)
noncomputable def DL22_2 (n : Nat × Nat) (f1 : Int → List Int → List (List Int) → Int → Int → List Int → Option R22) (m : Nat) : Int → List Int → Int → List (List Int) → Int → Int → List Int → Int → Int → List Int → Option R22 := Nat.rec (motive := fun _ => Int → List Int → Int → List (List Int) → Int → Int → List Int → Int → Int → List Int → Option R22) (fun _ _ _ _ _ _ _ _ _ _ => none) (fun _ ih => DF22_2 n f1 ih) m
theorem DL22_2_succ (n : Nat × Nat) (f1 : Int → List Int → List (List Int) → Int → Int → List Int → Option R22) (m : Nat) : DL22_2 n f1 (m + 1) = DF22_2 n f1 (DL22_2 n f1 m) := rfl
theorem DL22_2_eq (n : Nat × Nat) (hn : n.2 = 1) (m1 : Nat) : ∀ m, L22_2 n m1 m = DL22_2 n (L22_1 n m1) m
  | 0 => by funext size0 pieces1 g10 v25 v26 v27 v35 v36 v37 out9; kernel_rfl
  | m + 1 => by
    have ih := DL22_2_eq n hn m1 m
    funext size0 pieces1 g10 v25 v26 v27 v35 v36 v37 out9; refine (L22_2_eq n m1 m size0 pieces1 g10 v25 v26 v27 v35 v36 v37 out9).trans ?_
    rw [DL22_2_succ]
    unfold DF22_2
    (try simp only [ih, S26_D n hn, S28_D n hn, S69_D n hn, S70_D n hn, S71_D n hn]) <;> first | with_reducible rfl | rfl
noncomputable def DF22_1 (n : Nat × Nat) (f1 : Int → List Int → List (List Int) → Int → Int → List Int → Option R22) (size0 : Int) (pieces1 : List Int) (v25 : List (List Int)) (v26 : Int) (v27 : Int) (out9 : List Int) : Option R22 :=
 (bif decide (v27 < v26) then (idx v25 v27).bind fun x3' =>
 (bif ((x3'.length : Int) == 0) then some ([], 5)
 else DL22_2 n f1 n.1 size0 pieces1 v27 v25 v26 v27 x3' (x3'.length : Int) 0 out9)
 else (D70 n out9 (-1)).bind fun r4' =>
 (bif r4' then some ([], 5)
 else (D71 n out9).bind fun r5' =>
 (D28 n size0 pieces1 r5').bind fun r6' =>
 (bif (r6' != 0) then some ([], r6')
 else some (r5', 0))))
noncomputable def DL22_1 (n : Nat × Nat) (m : Nat) : Int → List Int → List (List Int) → Int → Int → List Int → Option R22 := Nat.rec (motive := fun _ => Int → List Int → List (List Int) → Int → Int → List Int → Option R22) (fun _ _ _ _ _ _ => none) (fun _ ih => DF22_1 n ih) m
theorem DL22_1_succ (n : Nat × Nat) (m : Nat) : DL22_1 n (m + 1) = DF22_1 n (DL22_1 n m) := rfl
theorem DL22_1_eq (n : Nat × Nat) (hn : n.2 = 1) : ∀ m, L22_1 n m = DL22_1 n m
  | 0 => by funext size0 pieces1 v25 v26 v27 out9; kernel_rfl
  | m + 1 => by
    have ih := DL22_1_eq n hn m
    funext size0 pieces1 v25 v26 v27 out9; refine (L22_1_eq n m size0 pieces1 v25 v26 v27 out9).trans ?_
    rw [DL22_1_succ]
    unfold DF22_1
    (try simp only [ih, DL22_2_eq n hn, S26_D n hn, S28_D n hn, S69_D n hn, S70_D n hn, S71_D n hn]) <;> first | with_reducible rfl | rfl
noncomputable def D22 (n : Nat × Nat) (size0 : Int) (pieces1 : List Int) (groups2 : List (List Int)) : Option R22 :=
 (D26 n size0 pieces1).bind fun r1' =>
 (bif (r1' != 0) then some ([], r1')
 else (D69 n [-1] (pieces1.length : Int)).bind fun r2' =>
      DL22_1 n n.1 size0 pieces1 groups2 (groups2.length : Int) 0 r2')
theorem S22_D (n : Nat × Nat) (hn : n.2 = 1) : S22 n = D22 n := by
  funext size0 pieces1 groups2; refine (S22_eq n size0 pieces1 groups2).trans ?_
  unfold D22
  (try simp only [DL22_2_eq n hn, DL22_1_eq n hn, S26_D n hn, S28_D n hn, S69_D n hn, S70_D n hn, S71_D n hn]) <;> first | with_reducible rfl | rfl
/-D 40 -/
noncomputable def DF40_1 (n : Nat × Nat) (f1 : Int → List Int → Int → Int → List Int → Option R40) (size0 : Int) (pieces1 : List Int) (v17 : Int) (v18 : Int) (v16 : List Int) : Option R40 :=
 (bif decide (v18 < v17) then (bif inB v18 v16.length then (idx v16 v18).bind fun x3' =>
 (idx ([0, 2, 6, 10, 22, 34, 78, 130, 278, 522, 1062, 2050, 4190, 8194, 16518, 32810, 65814, 131074, 262734, 524290, 1049654, 2097290, 4196358, 8388610, 16781662] : List Int) size0).bind fun x4' =>
 (idx pieces1 x3').bind fun x5' =>
 (bif decide (x5' < 0) then none
 else (bif ((wr .u32 (BitVec.ofInt (IntKind.bits .u32) (Int.fdiv x4' (2 ^ (min (Int.toNat x5') (IntKind.bits .u32)))) &&& BitVec.ofInt (IntKind.bits .u32) 1).toNat) == 0) then some (false, 0)
 else (idx pieces1 x3').bind fun x6' =>
            f1 x6' pieces1 v17 (wr .i64 (v18 + 1)) v16))
 else none)
 else some (true, 0))
noncomputable def DL40_1 (n : Nat × Nat) (m : Nat) : Int → List Int → Int → Int → List Int → Option R40 := Nat.rec (motive := fun _ => Int → List Int → Int → Int → List Int → Option R40) (fun _ _ _ _ _ => none) (fun _ ih => DF40_1 n ih) m
theorem DL40_1_succ (n : Nat × Nat) (m : Nat) : DL40_1 n (m + 1) = DF40_1 n (DL40_1 n m) := rfl
theorem DL40_1_eq (n : Nat × Nat) (hn : n.2 = 1) : ∀ m, L40_1 n m = DL40_1 n m
  | 0 => by funext size0 pieces1 v17 v18 v16; kernel_rfl
  | m + 1 => by
    have ih := DL40_1_eq n hn m
    funext size0 pieces1 v17 v18 v16; refine (L40_1_eq n m size0 pieces1 v17 v18 v16).trans ?_
    rw [DL40_1_succ]
    unfold DF40_1
    (try simp only [ih, S26_D n hn, S77_D n hn]) <;> first | with_reducible rfl | rfl
noncomputable def D40 (n : Nat × Nat) (size0 : Int) (pieces1 : List Int) : Option R40 :=
 (D26 n size0 pieces1).bind fun r1' =>
 (bif (r1' != 0) then some (false, r1')
 else (D77 n pieces1).bind fun r2' =>
      DL40_1 n n.1 size0 pieces1 (r2'.length : Int) 0 r2')
theorem S40_D (n : Nat × Nat) (hn : n.2 = 1) : S40 n = D40 n := by
  funext size0 pieces1; refine (S40_eq n size0 pieces1).trans ?_
  unfold D40
  (try simp only [DL40_1_eq n hn, S26_D n hn, S77_D n hn]) <;> first | with_reducible rfl | rfl
/-D 65 -/
noncomputable def D65 (n : Nat × Nat) : Option R65 :=
 some [7, 7, 4, 4]
theorem S65_D (n : Nat × Nat) (hn : n.2 = 1) : S65 n = D65 n := by
  refine (S65_eq n).trans ?_
  unfold D65
  first | with_reducible rfl | rfl
/-D 87 -/
noncomputable def DL87_2 (n : Nat × Nat) (f1 : Int → Int → Int → Int → List Int → Int → Int → Option R87) (size0 : Int) (k2 : Int) (alone7 : Int) (over8 : Int) (v11 : List Int) (v12 : Int) (v13 : Int) : Option R87 :=
    f1 size0 k2 alone7 over8 v11 v12 (wr .i64 (v13 + 1))
theorem DL87_2_eq (n : Nat × Nat) (hn : n.2 = 1) (m1 : Nat) : L87_2 n m1 = DL87_2 n (L87_1 n m1) := by
  funext size0 k2 alone7 over8 v11 v12 v13; refine ((held_eq hn _).trans (L87_2_raw n m1 size0 k2 alone7 over8 v11 v12 v13)).trans ?_
  unfold DL87_2
  first | with_reducible rfl | rfl
noncomputable def DF87_1 (n : Nat × Nat) (f1 : Int → Int → Int → Int → List Int → Int → Int → Option R87) (size0 : Int) (k2 : Int) (alone7 : Int) (over8 : Int) (v11 : List Int) (v12 : Int) (v13 : Int) : Option R87 :=
 (bif decide (v13 < v12) then (idx v11 v13).bind fun x1' =>
 (bif decide (x1' > wr .i64 (size0 - k2)) then DL87_2 n f1 size0 k2 (wr .i64 (alone7 + 1)) over8 v11 v12 v13
 else (bif decide (wr .i64 (2 * x1') > size0) then DL87_2 n f1 size0 k2 (wr .i64 (alone7 + 1)) (wr .i64 (over8 - (wr .i64 (size0 - x1')))) v11 v12 v13
 else (bif decide (x1' ≥ k2) then DL87_2 n f1 size0 k2 alone7 (wr .i64 (over8 + x1')) v11 v12 v13
 else DL87_2 n f1 size0 k2 alone7 over8 v11 v12 v13)))
 else (bif size0 == 0 then none
 else some (wr .i64 (alone7 + (wr .i64 (Int.tdiv (wr .i64 ((wr .i64 ((if 0 > over8 then 0 else over8) + size0)) - 1)) size0))))))
noncomputable def DL87_1 (n : Nat × Nat) (m : Nat) : Int → Int → Int → Int → List Int → Int → Int → Option R87 := Nat.rec (motive := fun _ => Int → Int → Int → Int → List Int → Int → Int → Option R87) (fun _ _ _ _ _ _ _ => none) (fun _ ih => DF87_1 n ih) m
theorem DL87_1_succ (n : Nat × Nat) (m : Nat) : DL87_1 n (m + 1) = DF87_1 n (DL87_1 n m) := rfl
theorem DL87_1_eq (n : Nat × Nat) (hn : n.2 = 1) : ∀ m, L87_1 n m = DL87_1 n m
  | 0 => by funext size0 k2 alone7 over8 v11 v12 v13; kernel_rfl
  | m + 1 => by
    have ih := DL87_1_eq n hn m
    funext size0 k2 alone7 over8 v11 v12 v13; refine (L87_1_eq n m size0 k2 alone7 over8 v11 v12 v13).trans ?_
    rw [DL87_1_succ]
    unfold DF87_1
    (try simp only [ih, DL87_2_eq n hn]) <;> first | with_reducible rfl | rfl
noncomputable def D87 (n : Nat × Nat) (size0 : Int) (pieces1 : List Int) (k2 : Int) : Option R87 :=
    DL87_1 n n.1 size0 k2 0 0 pieces1 (pieces1.length : Int) 0
theorem S87_D (n : Nat × Nat) (hn : n.2 = 1) : S87 n = D87 n := by
  funext size0 pieces1 k2; refine (S87_eq n size0 pieces1 k2).trans ?_
  unfold D87
  (try simp only [DL87_2_eq n hn, DL87_1_eq n hn]) <;> first | with_reducible rfl | rfl
/-D 42 -/
noncomputable def D42 (n : Nat × Nat) (size0 : Int) (pieces1 : List Int) (k2 : Int) : Option R42 :=
 (D26 n size0 pieces1).bind fun r1' =>
 (bif (r1' != 0) then some (0, r1')
 else ((bif (decide (k2 < 0) == false) then (bif 2 == 0 then none
 else some (decide (k2 > wr .i64 (Int.tdiv size0 2))))
 else some true)).bind fun b2' =>
 (bif b2' then some (0, 1)
 else (D87 n size0 pieces1 k2).bind fun r3' =>
 some (r3', 0)))
theorem S42_D (n : Nat × Nat) (hn : n.2 = 1) : S42 n = D42 n := by
  funext size0 pieces1 k2; refine (S42_eq n size0 pieces1 k2).trans ?_
  unfold D42
  (try simp only [S26_D n hn, S87_D n hn]) <;> first | with_reducible rfl | rfl
/-D 44 -/
noncomputable def DF44_1 (n : Nat × Nat) (f1 : Int → List Int → Int → Int → Int → Option R44) (size0 : Int) (pieces1 : List Int) (v7 : Int) (v20 : Int) (v21 : Int) : Option R44 :=
 (bif decide (v21 < v20) then (D87 n size0 pieces1 v21).bind fun r3' =>
 (bif (r3' == v7) then some (v21, 0)
 else f1 size0 pieces1 v7 v20 (wr .i64 (v21 + 1)))
 else some (0, 12))
noncomputable def DL44_1 (n : Nat × Nat) (m : Nat) : Int → List Int → Int → Int → Int → Option R44 := Nat.rec (motive := fun _ => Int → List Int → Int → Int → Int → Option R44) (fun _ _ _ _ _ => none) (fun _ ih => DF44_1 n ih) m
theorem DL44_1_succ (n : Nat × Nat) (m : Nat) : DL44_1 n (m + 1) = DF44_1 n (DL44_1 n m) := rfl
theorem DL44_1_eq (n : Nat × Nat) (hn : n.2 = 1) : ∀ m, L44_1 n m = DL44_1 n m
  | 0 => by funext size0 pieces1 v7 v20 v21; kernel_rfl
  | m + 1 => by
    have ih := DL44_1_eq n hn m
    funext size0 pieces1 v7 v20 v21; refine (L44_1_eq n m size0 pieces1 v7 v20 v21).trans ?_
    rw [DL44_1_succ]
    unfold DF44_1
    (try simp only [ih, S26_D n hn, S82_D n hn, S87_D n hn]) <;> first | with_reducible rfl | rfl
noncomputable def D44 (n : Nat × Nat) (size0 : Int) (pieces1 : List Int) : Option R44 :=
 (D26 n size0 pieces1).bind fun r1' =>
 (bif (r1' != 0) then some (0, r1')
 else (D82 n size0 pieces1).bind fun r2' =>
 (bif 2 == 0 then none
 else DL44_1 n n.1 size0 pieces1 r2' (wr .i64 ((wr .i64 (Int.tdiv size0 2)) + 1)) 0))
theorem S44_D (n : Nat × Nat) (hn : n.2 = 1) : S44 n = D44 n := by
  funext size0 pieces1; refine (S44_eq n size0 pieces1).trans ?_
  unfold D44
  (try simp only [DL44_1_eq n hn, S26_D n hn, S82_D n hn, S87_D n hn]) <;> first | with_reducible rfl | rfl
/-D 24 -/
noncomputable def DF24_1 (n : Nat × Nat) (f1 : List Int → List Int → Int → Option R24) (a0 : List Int) (b1 : List Int) (i5 : Int) : Option R24 :=
 (bif decide (i5 < (a0.length : Int)) then (idx a0 i5).bind fun x1' =>
 (idx b1 i5).bind fun x2' =>
 (bif (x1' != x2') then some false
 else f1 a0 b1 (wr .i64 (i5 + 1)))
 else some true)
noncomputable def DL24_1 (n : Nat × Nat) (m : Nat) : List Int → List Int → Int → Option R24 := Nat.rec (motive := fun _ => List Int → List Int → Int → Option R24) (fun _ _ _ => none) (fun _ ih => DF24_1 n ih) m
theorem DL24_1_succ (n : Nat × Nat) (m : Nat) : DL24_1 n (m + 1) = DF24_1 n (DL24_1 n m) := rfl
theorem DL24_1_eq (n : Nat × Nat) (hn : n.2 = 1) : ∀ m, L24_1 n m = DL24_1 n m
  | 0 => by funext a0 b1 i5; kernel_rfl
  | m + 1 => by
    have ih := DL24_1_eq n hn m
    funext a0 b1 i5; refine (L24_1_eq n m a0 b1 i5).trans ?_
    rw [DL24_1_succ]
    unfold DF24_1
    (try simp only [ih]) <;> first | with_reducible rfl | rfl
noncomputable def D24 (n : Nat × Nat) (a0 : List Int) (b1 : List Int) : Option R24 :=
 (bif ((a0.length : Int) != (b1.length : Int)) then some false
 else DL24_1 n n.1 a0 b1 0)
theorem S24_D (n : Nat × Nat) (hn : n.2 = 1) : S24 n = D24 n := by
  funext a0 b1; refine (S24_eq n a0 b1).trans ?_
  unfold D24
  (try simp only [DL24_1_eq n hn]) <;> first | with_reducible rfl | rfl
/-D 25 -/
noncomputable def DF25_1 (n : Nat × Nat) (f1 : List (List Int) → List (List Int) → Int → Option R25) (a0 : List (List Int)) (b1 : List (List Int)) (i5 : Int) : Option R25 :=
 (bif decide (i5 < (a0.length : Int)) then (idx a0 i5).bind fun x1' =>
 (idx b1 i5).bind fun x2' =>
 (D24 n x1' x2').bind fun r3' =>
 (bif (!r3') then some false
 else f1 a0 b1 (wr .i64 (i5 + 1)))
 else some true)
noncomputable def DL25_1 (n : Nat × Nat) (m : Nat) : List (List Int) → List (List Int) → Int → Option R25 := Nat.rec (motive := fun _ => List (List Int) → List (List Int) → Int → Option R25) (fun _ _ _ => none) (fun _ ih => DF25_1 n ih) m
theorem DL25_1_succ (n : Nat × Nat) (m : Nat) : DL25_1 n (m + 1) = DF25_1 n (DL25_1 n m) := rfl
theorem DL25_1_eq (n : Nat × Nat) (hn : n.2 = 1) : ∀ m, L25_1 n m = DL25_1 n m
  | 0 => by funext a0 b1 i5; kernel_rfl
  | m + 1 => by
    have ih := DL25_1_eq n hn m
    funext a0 b1 i5; refine (L25_1_eq n m a0 b1 i5).trans ?_
    rw [DL25_1_succ]
    unfold DF25_1
    (try simp only [ih, S24_D n hn]) <;> first | with_reducible rfl | rfl
noncomputable def D25 (n : Nat × Nat) (a0 : List (List Int)) (b1 : List (List Int)) : Option R25 :=
 (bif ((a0.length : Int) != (b1.length : Int)) then some false
 else DL25_1 n n.1 a0 b1 0)
theorem S25_D (n : Nat × Nat) (hn : n.2 = 1) : S25 n = D25 n := by
  funext a0 b1; refine (S25_eq n a0 b1).trans ?_
  unfold D25
  (try simp only [DL25_1_eq n hn, S24_D n hn]) <;> first | with_reducible rfl | rfl
/-D 46 -/
noncomputable def D46 (n : Nat × Nat) (size0 : Int) (pieces1 : List Int) (plan2 : List Int) (k3 : Int) : Option R46 :=
 (D66 n size0 pieces1 plan2).bind fun r1' =>
 (bif (r1'.2 != 0) then some r1'.2
 else (D42 n size0 pieces1 k3).bind fun r2' =>
 (bif (r2'.2 != 0) then some r2'.2
 else (bif (r2'.1 != (r1'.1.length : Int)) then some 14
 else some 0)))
theorem S46_D (n : Nat × Nat) (hn : n.2 = 1) : S46 n = D46 n := by
  funext size0 pieces1 plan2 k3; refine (S46_eq n size0 pieces1 plan2 k3).trans ?_
  unfold D46
  (try simp only [S42_D n hn, S66_D n hn]) <;> first | with_reducible rfl | rfl
/-D 17 -/
noncomputable def D17 (n : Nat × Nat) : Option R17 :=
 (D58 n).bind fun r1' =>
 (D30 n 10 r1').bind fun r2' =>
 (D58 n).bind fun r3' =>
 (D32 n 10 r3' [1, 0, 3, 2, 4]).bind fun r4' =>
 (D58 n).bind fun r5' =>
 (D34 n 10 r5').bind fun r6' =>
 (D57 n).bind fun r7' =>
 (D36 n 12 r7').bind fun r8' =>
 (D60 n).bind fun r9' =>
 (D38 n 10 r9').bind fun r10' =>
 (D58 n).bind fun r11' =>
 (D18 n 10 r11' [0, 1, 1, 0, 2]).bind fun r12' =>
 (D58 n).bind fun r13' =>
 (D20 n 10 r13' [0, 1, 1, 0, 2]).bind fun r14' =>
 ((bif ((r2'.2 != 0) == false) then some (r4'.2 != 0)
 else some true)).bind fun b15' =>
 ((bif (b15' == false) then some (r6'.2 != 0)
 else some true)).bind fun b16' =>
 ((bif (b16' == false) then some (r8'.2 != 0)
 else some true)).bind fun b17' =>
 ((bif (b17' == false) then some (r10'.2 != 0)
 else some true)).bind fun b18' =>
 ((bif (b18' == false) then some (r12'.2 != 0)
 else some true)).bind fun b19' =>
 ((bif (b19' == false) then some (r14'.2 != 0)
 else some true)).bind fun b20' =>
 (bif b20' then some false
 else (D58 n).bind fun r21' =>
 (D22 n 10 r21' ([[4], [2, 1], [3, 0]])).bind fun r22' =>
 (D57 n).bind fun r23' =>
 (D40 n 12 r23').bind fun r24' =>
 (D58 n).bind fun r25' =>
 (D40 n 10 r25').bind fun r26' =>
 (D65 n).bind fun r27' =>
 (D42 n 10 r27' 4).bind fun r28' =>
 (D58 n).bind fun r29' =>
 (D44 n 10 r29').bind fun r30' =>
 (D60 n).bind fun r31' =>
 (D44 n 10 r31').bind fun r32' =>
 (D58 n).bind fun r33' =>
 (D22 n 10 r33' ([[0, 3], [3]])).bind fun r34' =>
 ((bif ((r22'.2 == 0) == true) then some (r24'.2 == 0)
 else some false)).bind fun b35' =>
 ((bif (b35' == true) then some (r26'.2 == 0)
 else some false)).bind fun b36' =>
 ((bif (b36' == true) then some (r28'.2 == 0)
 else some false)).bind fun b37' =>
 ((bif (b37' == true) then some (r30'.2 == 0)
 else some false)).bind fun b38' =>
 ((bif (b38' == true) then some (r32'.2 == 12)
 else some false)).bind fun b39' =>
 ((bif (b39' == true) then some (r34'.2 == 6)
 else some false)).bind fun b40' =>
 ((bif (b40' == true) then (D24 n r2'.1 [1, 0, 3, 2, 4]).bind fun r41' =>
 some r41'
 else some false)).bind fun b42' =>
 ((bif (b42' == true) then (D24 n r4'.1 [0, 1, 1, 0, 2]).bind fun r43' =>
 some r43'
 else some false)).bind fun b44' =>
 ((bif (b44' == true) then some (r6'.1 == 3)
 else some false)).bind fun b45' =>
 ((bif (b45' == true) then (D24 n r8'.1 [0, 0, 1, 0, 1, 1]).bind fun r46' =>
 some r46'
 else some false)).bind fun b47' =>
 ((bif (b47' == true) then some (r10'.1 == 15)
 else some false)).bind fun b48' =>
 ((bif (b48' == true) then (D24 n r12'.1 [0, 0, 7]).bind fun r49' =>
 some r49'
 else some false)).bind fun b50' =>
 ((bif (b50' == true) then (D25 n r14'.1 ([[0, 3], [1, 2], [4]])).bind fun r51' =>
 some r51'
 else some false)).bind fun b52' =>
 ((bif (b52' == true) then (D24 n r22'.1 r4'.1).bind fun r53' =>
 some r53'
 else some false)).bind fun b54' =>
 ((bif (b54' == true) then some r24'.1
 else some false)).bind fun b55' =>
 ((bif (b55' == true) then some (!r26'.1)
 else some false)).bind fun b56' =>
 ((bif (b56' == true) then some (r28'.1 == 3)
 else some false)).bind fun b57' =>
 ((bif (b57' == true) then some (r30'.1 == 0)
 else some false)).bind fun b58' =>
 ((bif (b58' == true) then (D58 n).bind fun r59' =>
 (D46 n 10 r59' r4'.1 0).bind fun r60' =>
 some (r60' == 0)
 else some false)).bind fun b61' =>
 ((bif (b61' == true) then (D58 n).bind fun r62' =>
 (D46 n 10 r62' r4'.1 4).bind fun r63' =>
 some (r63' == 14)
 else some false)).bind fun b64' =>
 ((bif (b64' == true) then (D58 n).bind fun r65' =>
 (D28 n 10 r65' [0, 0, 1, 1, 2]).bind fun r66' =>
 some (r66' == 15)
 else some false)).bind fun b67' =>
 some b67')
theorem S17_D (n : Nat × Nat) (hn : n.2 = 1) : S17 n = D17 n := by
  refine (S17_eq n).trans ?_
  unfold D17
  (try simp only [S18_D n hn, S20_D n hn, S22_D n hn, S24_D n hn, S25_D n hn, S28_D n hn, S30_D n hn, S32_D n hn, S34_D n hn, S36_D n hn, S38_D n hn, S40_D n hn, S42_D n hn, S44_D n hn, S46_D n hn, S57_D n hn, S58_D n hn, S60_D n hn, S65_D n hn]) <;> first | with_reducible rfl | rfl
end Go.Proofs.YtgmonagekfjnmaaDoor
/-
  Vi: from what a statement's reading of the arguments says to the data that a contract wants; the given row.
-/
set_option linter.unusedVariables false
set_option linter.unusedSimpArgs false
namespace Go.Vi
open Go.ChangeShapes Go.WideShapes Go.ChangeAt Go.RowKit
def rdL (P : Program) (rd : TypeId → Sh → Bool) : Nat → List (Nat × TypeId) → Sh → Bool
  | off, [(o, t)], s => (Nat.beq o off && Nat.beq (P.cellsOf t) s.nc && rd t s) || (match s with | .pair a .unit => Nat.beq o off && Nat.beq (P.cellsOf t) a.nc && rd t a | _ => false)
  | off, (o, t) :: r, .pair a b => (Nat.beq o off && Nat.beq (P.cellsOf t) a.nc && rd t a) && rdL P rd (off + a.nc) r b
  | _, [], .unit => true
  | _, _, _ => false
/-- Does a type read as this shape? -/
def rdB (P : Program) : Nat → TypeId → Sh → Bool
  | 0, _, _ => false
  | n + 1, t, s =>
    match P.underlying t with
    | some .bool => decide (s = .bool)
    | some (.int k) => decide (s = .int k)
    | some .string => decide (s = .str)
    | some (.slice e) => (match s with | .sl e' => rdB P n e e' && Nat.beq (P.cellsOf e) e'.nc && Nat.ble 1 e'.nc | _ => false)
    | some (.struct fs) => s.agg && Nat.beq (P.cellsOf t) s.nc && rdL P (rdB P n) 0 (fs.toList.map fun f => (f.offset, f.type)) s
    | some (.array m e) => s.agg && Nat.beq (P.cellsOf t) s.nc && rdL P (rdB P n) 0 ((List.range m).map fun i => (i * P.cellsOf e, e)) s
    | _ => false
/-- Numbers lie within their kinds. -/
def Wf : (s : Sh) → s.den → Prop
  | .int k, n => (Lit.int k n).wf = true
  | .sl e, xs => xs.length ≤ 9223372036854775807 ∧ ∀ x ∈ xs, Wf e x
  | .pair a b, x => Wf a x.1 ∧ Wf b x.2
  | .str, s => s.size ≤ 9223372036854775807
  | _, _ => True
theorem mapM_some {α β : Type} {f : α → Option β} : ∀ {l : List α} {ys : List β}, l.mapM f = some ys → All2 (fun a y => f a = some y) l ys
  | [], ys, h => by
    simp at h
    subst h
    trivial
  | a :: l, ys, h => by
    rw [List.mapM_cons] at h
    cases h1 : f a with
    | none => rw [h1] at h; cases h
    | some y =>
      rw [h1] at h
      cases h2 : l.mapM f with
      | none =>
        rw [h2] at h
        cases h
      | some zs =>
        rw [h2] at h
        cases h
        exact ⟨h1, mapM_some h2⟩
theorem All2.unmap {α β γ : Type} {R : β → γ → Prop} {f : α → β} : ∀ {l : List α} {ys : List γ}, All2 (fun a y => R (f a) y) l ys → All2 R (l.map f) ys
  | [], [], _ => trivial
  | _ :: _, _ :: _, h => ⟨h.1, All2.unmap h.2⟩
section
variable {P : Program} {W : World} {H : Type} {enc : TypeId × Value → H} {sp : Nat → Bool} {held : Bool} {A : Nat → Prop}
theorem rdL_sound {rd : TypeId → Sh → Bool} {f : TypeId → List Value → Option (DataW H × List MemPlace)} (IH : ∀ t s cs d, rd t s = true → f t cs = some d → ∃ x : s.den, VRs W A s x cs ∧ Wf s x) (cs : List Value) :
    ∀ (l : List (Nat × TypeId)) (off : Nat) (s : Sh) (ys : List (DataW H × List MemPlace)), rdL P rd off l s = true → All2 (fun p y => f p.2 ((cs.drop p.1).take (P.cellsOf p.2)) = some y) l ys →
      ∃ x : s.den, VRs W A s x ((cs.drop off).take s.nc) ∧ Wf s x
  | [], off, s, ys, h, hy => by
    cases s <;> simp [rdL] at h
    exact ⟨(), by simp [VRs, Sh.nc], trivial⟩
  | [(o, t)], off, s, [y], h, hy => by
    simp only [rdL, Bool.or_eq_true, Bool.and_eq_true] at h
    rcases h with ⟨⟨h1, h2⟩, h3⟩ | h
    · have := Nat.eq_of_beq_eq_true h1
      have h2 := Nat.eq_of_beq_eq_true h2
      subst this
      have hy1 := hy.1
      simp only [h2] at hy1
      exact IH t s _ y h3 hy1
    · cases s with
      | pair a b =>
        cases b with
        | unit =>
          simp only [Bool.and_eq_true] at h
          obtain ⟨⟨h1, h2⟩, h3⟩ := h
          have := Nat.eq_of_beq_eq_true h1
          have h2 := Nat.eq_of_beq_eq_true h2
          subst this
          have hy1 := hy.1
          simp only [h2] at hy1
          obtain ⟨x, hx, hw⟩ := IH t a _ y h3 hy1
          refine ⟨(x, ()), ⟨?_, ?_⟩, hw, trivial⟩
          · simpa [Sh.nc, List.take_take] using hx
          · simp [Sh.nc, VRs]
        | _ => simp at h
      | _ => simp at h
  | (o, t) :: p :: r, off, s, y :: ys, h, hy => by
    cases s with
    | pair a b =>
      simp only [rdL, Bool.and_eq_true] at h
      obtain ⟨⟨⟨h1, h2⟩, h3⟩, h4⟩ := h
      have := Nat.eq_of_beq_eq_true h1
      have h2 := Nat.eq_of_beq_eq_true h2
      subst this
      have hy1 := hy.1
      simp only [h2] at hy1
      obtain ⟨x, hx, hw⟩ := IH t a _ y h3 hy1
      obtain ⟨x2, hx2, hw2⟩ := rdL_sound IH cs (p :: r) _ b ys h4 hy.2
      refine ⟨(x, x2), ⟨?_, ?_⟩, hw, hw2⟩
      · rw [Sh.nc, List.take_take, Nat.min_eq_left (by omega)]
        exact hx
      · rw [Sh.nc, List.drop_take, List.drop_drop, Nat.add_sub_cancel_left]
        exact hx2
    | _ => simp [rdL] at h
  | [_], _, _, [], _, hy => hy.elim
  | [_], _, _, _ :: _ :: _, _, hy => hy.2.elim
  | _ :: _ :: _, _, _, [], _, hy => hy.elim
theorem rows_of {e : Sh} {f : List Value → Option (DataW H × List MemPlace)} (IH : ∀ cs d, f cs = some d → ∃ x : e.den, VRs W A e x cs ∧ Wf e x) {n : Nat} {a : Addr} : ∀ (l : List Nat) (ys : List (DataW H × List MemPlace)),
    All2 (fun i y => (W.cells? 0 (a.add (i * n)) n).bind f = some y) l ys → ∃ xs : List e.den, All2 (fun i x => ∃ us, W.cells? 0 (a.add (i * n)) n = some us ∧ VRs W A e x us) l xs ∧ ∀ x ∈ xs, Wf e x
  | [], [], _ => ⟨[], trivial, by simp⟩
  | i :: l, y :: ys, h => by
    obtain ⟨us, h1, h2⟩ := Option.bind_eq_some_iff.1 h.1
    obtain ⟨x, hx, hw⟩ := IH us y h2
    obtain ⟨xs, hxs, hws⟩ := rows_of IH l ys h.2
    exact ⟨x :: xs, ⟨⟨us, h1, hx⟩, hxs⟩, by simpa using ⟨hw, hws⟩⟩
theorem cells_row {b o : Nat} {cur : Array Value} {et : TypeId} {fz : Nat × Nat} (h : W.heap[b]? = some (.cells cur et fz)) : ∀ {n : Nat} {us : List Value}, W.cells? 0 ⟨b, o, none⟩ n = some us → us = (cur.toList.drop o).take n ∧ o + us.length ≤ o + n ∧ us.length = n ∧ (0 < n → o + n ≤ cur.size) := by
  intro n us hu
  simp only [World.cells?, Nat.zero_le, if_true] at hu
  have h1 := mapM_some hu
  have hl := h1.length
  simp at hl
  have hg : ∀ i, i < n → us[i]? = cur.toList[o + i]? ∧ o + i < cur.size := by
    intro i hi
    obtain ⟨v, h2, h3⟩ := h1.get (i := i) (a := i) (by simp [hi])
    rw [add_eq, cell_row h] at h3
    rw [h2, h3]
    refine ⟨rfl, ?_⟩
    have := List.getElem?_eq_some_iff.1 h3
    obtain ⟨this, _⟩ := this
    simpa using this
  refine ⟨?_, by omega, hl.symm, fun hn => by have := (hg (n - 1) (by omega)).2; omega⟩
  apply List.ext_getElem?
  intro i
  rw [List.getElem?_take, List.getElem?_drop]
  split
  · rename_i hi
    exact (hg i hi).1
  · rename_i hi
    exact List.getElem?_eq_none (by omega)
theorem All2.range {α : Type} {R : Nat → α → Prop} {n : Nat} {xs : List α} (h : All2 R (List.range n) xs) : xs.length = n ∧ ∀ i x, xs[i]? = some x → R i x := by
  have hl := h.length
  simp at hl
  refine ⟨hl.symm, fun i x hx => ?_⟩
  have hi : i < n := by
    obtain ⟨hi, _⟩ := List.getElem?_eq_some_iff.1 hx
    omega
  obtain ⟨y, h1, h2⟩ := h.get (i := i) (a := i) (by simp [hi])
  rw [h1] at hx
  cases hx
  exact h2
theorem rdB_sound (hA : ∀ b, b < W.heap.size → A b) : ∀ (n : Nat) (t : TypeId) (s : Sh) (fuel : Nat) (cs : List Value) (d : DataW H × List MemPlace), rdB P n t s = true → DataW.trod enc P W 0 sp held fuel t cs = some d →
    ∃ x : s.den, VRs W A s x cs ∧ Wf s x
  | 0, _, _, _, _, _, h, _ => by cases h
  | n + 1, t, s, 0, cs, d, h, hd => by cases hd
  | n + 1, t, s, fuel + 1, cs, d, h, hd => by
    unfold rdB at h
    split at h
    · rename_i hu
      have hs := of_decide_eq_true h
      subst hs
      simp only [DataW.trod, hu] at hd
      match cs, hd with
      | [.bool b], _ => exact ⟨(b : Bool), rfl, trivial⟩
    · rename_i k hu
      have hs := of_decide_eq_true h
      subst hs
      simp only [DataW.trod, hu] at hd
      match cs, hd with
      | [.int k' m], hd =>
        have hd : (if k' = k ∧ (Lit.int k m).wf = true then some (DataW.lit (Lit.int k m), []) else none) = some d := hd
        by_cases hc : k' = k ∧ (Lit.int k m).wf = true
        · obtain ⟨rfl, hw⟩ := hc
          exact ⟨(m : Int), rfl, hw⟩
        · rw [if_neg hc] at hd
          cases hd
    · rename_i hu
      have hs := of_decide_eq_true h
      subst hs
      simp only [DataW.trod, hu] at hd
      match cs, hd with
      | [.string b], hd =>
        have hd : (if b.size ≤ maxLen then some (DataW.lit (Lit.string b.data.toList), []) else none) = some d := hd
        by_cases hc : b.size ≤ maxLen
        · refine ⟨(b : ByteArray), rfl, ?_⟩
          simp only [Wf]
          exact Nat.le_trans hc (by decide)
        · rw [if_neg hc] at hd
          cases hd
    · rename_i et hu
      cases s with
      | sl e =>
        simp only [Bool.and_eq_true] at h
        obtain ⟨⟨h1, h2⟩, h3⟩ := h
        have h2 := Nat.eq_of_beq_eq_true h2
        have h3 := Nat.le_of_ble_eq_true h3
        simp only [DataW.trod, hu] at hd
        match cs, hd with
        | [.slice none 0 0], _ => exact ⟨[], ⟨none, 0, rfl, by simp, .inl rfl⟩, by simp [Wf]⟩
        | [.slice (some a) len cap], hd =>
          by_cases hc : 0 ≤ a.block ∧ len ≤ cap ∧ cap ≤ maxLen
          · simp only [hc, and_self, if_true] at hd
            obtain ⟨elems, he, hd⟩ := Option.bind_eq_some_iff.1 hd
            have he := mapM_some he
            rw [h2] at he
            obtain ⟨xs, hxs, hw⟩ := rows_of (e := e) (f := DataW.trod enc P W 0 sp held fuel et) (fun cs d hd => rdB_sound hA n et e fuel cs d h1 hd) _ _ he
            obtain ⟨hlen, hget⟩ := All2.range hxs
            refine ⟨xs, ⟨some a, cap, by rw [hlen], by omega, ?_⟩, ?_, hw⟩
            · cases hxl : xs with
              | nil => exact .inl rfl
              | cons y ys =>
                right
                have hlp : 0 < xs.length := by rw [hxl]; simp
                obtain ⟨us0, hu0, _⟩ := hget 0 xs[0] (List.getElem?_eq_getElem hlp)
                have hc0 := mapM_some (by simpa [World.cells?] using hu0 : (List.range e.nc).mapM (fun i => W.cell? ((a.add (0 * e.nc)).add i)) = some us0)
                obtain ⟨v0, _, hv0⟩ := hc0.get (i := 0) (a := 0) (List.getElem?_range (by omega))
                simp [Addr.add] at hv0
                have hsp := World.cell?_spot hv0
                obtain ⟨b, o, spot⟩ := a
                simp at hsp
                subst hsp
                have hblk : ∃ cur et' fz, W.heap[b]? = some (.cells cur et' fz) := by
                  unfold World.cell? at hv0
                  simp only at hv0
                  split at hv0
                  · rename_i c _ _ hb
                    exact ⟨_, _, _, hb⟩
                  · cases hv0
                obtain ⟨cur, et', fz, hb⟩ := hblk
                have hbl : b < W.heap.size := by
                  obtain ⟨hi, _⟩ := Array.getElem?_eq_some_iff.1 hb
                  exact hi
                rw [← hxl]
                refine ⟨b, o, cur, et', fz, rfl, hA b hbl, hb, ?_, ?_⟩
                · obtain ⟨us, hus, _⟩ := hget (xs.length - 1) (xs[xs.length - 1]'(by omega)) (by simp [hlp])
                  rw [add_eq] at hus
                  have := (cells_row hb hus).2.2.2 (by omega)
                  have e2 : (xs.length - 1) * e.nc + e.nc = xs.length * e.nc := by
                    conv => rhs; rw [show xs.length = (xs.length - 1) + 1 by omega, Nat.add_mul, Nat.one_mul]
                  omega
                · intro i x hx
                  obtain ⟨us, hus, hv⟩ := hget i x hx
                  rw [add_eq] at hus
                  rw [← (cells_row hb hus).1]
                  exact hv
            · have h4 := hc.2.2
              have h5 : cap ≤ 9223372036854775807 := Nat.le_trans h4 (by decide)
              omega
          · simp only [hc, if_false] at hd
            cases hd
      | _ => cases h
    · rename_i fs hu
      simp only [Bool.and_eq_true] at h
      obtain ⟨⟨h1, h2⟩, h3⟩ := h
      have h2 := Nat.eq_of_beq_eq_true h2
      simp only [DataW.trod, hu] at hd
      split at hd
      · rename_i hc
        obtain ⟨ys, hy, _⟩ := Option.map_eq_some_iff.1 hd
        have hy := mapM_some hy
        have hy2 := All2.unmap (R := fun (p : Nat × TypeId) y => DataW.trod enc P W 0 sp held fuel p.2 ((cs.drop p.1).take (P.cellsOf p.2)) = some y) (f := fun (f : Field) => (f.offset, f.type)) hy
        obtain ⟨x, hx, hw⟩ := rdL_sound (fun t s cs d ht hd => rdB_sound hA n t s fuel cs d ht hd) cs _ 0 s ys h3 hy2
        refine ⟨x, ?_, hw⟩
        rwa [List.drop_zero, List.take_of_length_le (by omega)] at hx
      · cases hd
    · rename_i m e hu
      simp only [Bool.and_eq_true] at h
      obtain ⟨⟨h1, h2⟩, h3⟩ := h
      have h2 := Nat.eq_of_beq_eq_true h2
      simp only [DataW.trod, hu] at hd
      split at hd
      · rename_i hc
        obtain ⟨ys, hy, _⟩ := Option.map_eq_some_iff.1 hd
        have hy := mapM_some hy
        have hy2 := All2.unmap (R := fun (p : Nat × TypeId) y => DataW.trod enc P W 0 sp held fuel p.2 ((cs.drop p.1).take (P.cellsOf p.2)) = some y) (f := fun i => (i * P.cellsOf e, e)) hy
        obtain ⟨x, hx, hw⟩ := rdL_sound (fun t s cs d ht hd => rdB_sound hA n t s fuel cs d ht hd) cs _ 0 s ys h3 hy2
        refine ⟨x, ?_, hw⟩
        rwa [List.drop_zero, List.take_of_length_le (by omega)] at hx
      · cases hd
    · cases h
theorem ofC_cells : ∀ (s : Sh) (x : s.den), ofC s (cells s x) = some x
  | .int k, x => by simp [cells, ofC]
  | .bool, x => rfl
  | .str, x => rfl
  | .sl e, xs => by simp [cells, ofC]
  | .unit, x => rfl
  | .pair a b, x => by
    have h1 : (cells a x.1 ++ cells b x.2).take a.nc = cells a x.1 := by rw [← cells_length a x.1, List.take_left]
    have h2 : (cells a x.1 ++ cells b x.2).drop a.nc = cells b x.2 := by rw [← cells_length a x.1, List.drop_left]
    simp only [cells, ofC, h1, h2, ofC_cells a, ofC_cells b]
theorem valOf_val (s : Sh) (x : s.den) : valOf s ((PK.c s).val x) = some x := by
  cases hs : s.agg with
  | true => simp only [PK.val, hs, cond_true, valOf, ofC_cells]
  | false =>
    have hl := cells_length s x
    rw [nagg_one hs] at hl
    match hc : cells s x, hl with
    | [c], _ =>
      have e : (PK.c s).val x = .c c := by simp only [PK.val, hs, cond_false, hc]
      rw [e]
      simp only [valOf, hs, cond_false]
      rw [← hc]
      exact ofC_cells s x
theorem rdB_agg {n : Nat} {t : TypeId} {s : Sh} (h : rdB P n t s = true) (hs : s.agg = true) : (∃ fs, P.underlying t = some (.struct fs)) ∨ ∃ m e, P.underlying t = some (.array m e) := by
  cases n with
  | zero => cases h
  | succ n =>
    unfold rdB at h
    split at h
    · have := of_decide_eq_true h; subst this; cases hs
    · have := of_decide_eq_true h; subst this; cases hs
    · have := of_decide_eq_true h; subst this; cases hs
    · cases s <;> first | cases h | cases hs
    · rename_i fs hu; exact .inl ⟨_, hu⟩
    · rename_i m e hu; exact .inr ⟨_, _, hu⟩
    · cases h
theorem rdB_nagg {n : Nat} {t : TypeId} {s : Sh} (h : rdB P n t s = true) (hs : s.agg = false) : P.underlying t = some .bool ∨ (∃ k, P.underlying t = some (.int k)) ∨ P.underlying t = some .string ∨ ∃ e, P.underlying t = some (.slice e) := by
  cases n with
  | zero => cases h
  | succ n =>
    unfold rdB at h
    split at h
    · rename_i hu; exact .inl hu
    · rename_i k hu; exact .inr (.inl ⟨k, hu⟩)
    · rename_i hu; exact .inr (.inr (.inl hu))
    · rename_i e hu; exact .inr (.inr (.inr ⟨e, hu⟩))
    · simp [hs] at h
    · simp [hs] at h
    · cases h
theorem trod_arg {n : Nat} {t : TypeId} {s : Sh} {v : Value} {d : DataW H} {ps : List MemPlace} {base : Nat} {r : Reach} (hn : rdB P n t s = true) (hval : Value.okWide P W r base t v) (h : DataW.Trod enc P W 0 sp held t v d ps) (hA : ∀ b, b < W.heap.size → A b) :
    ∃ x : s.den, VR noGam W A emp ((PK.c s).val x) v ∧ Wf s x := by
  obtain ⟨fuel, h⟩ := h
  obtain ⟨x, hx, hw⟩ := rdB_sound hA n t s fuel _ _ hn h
  refine ⟨x, ?_, hw⟩
  have hc := CR.of_VRs s x _ hx
  cases hs : s.agg with
  | true =>
    simp only [PK.val, hs, cond_true]
    have : ∃ cs, v = .agg cs := by
      rcases rdB_agg hn hs with ⟨fs, hu⟩ | ⟨m, e, hu⟩
      · simp only [Value.okWide, hu] at hval
        obtain ⟨cs, h1, _⟩ := hval
        exact ⟨cs, h1⟩
      · simp only [Value.okWide, hu] at hval
        obtain ⟨cs, h1, _⟩ := hval
        exact ⟨cs, h1⟩
    obtain ⟨cs, rfl⟩ := this
    exact ⟨cs.toList, by simp, hc⟩
  | false =>
    have hl := cells_length s x
    rw [nagg_one hs] at hl
    match hcs : cells s x, hl with
    | [c], _ =>
      rw [hcs] at hc
      obtain ⟨u, hu, hcr⟩ := hc.one
      have : v = u := by
        cases v with
        | agg cs =>
          exfalso
          rcases rdB_nagg hn hs with h1 | ⟨k, h1⟩ | h1 | ⟨e, h1⟩ <;> simp [Value.okWide, h1, Cell.okWide, Cell.ok] at hval
        | _ => simpa [Value.cells] using hu
      subst this
      simp only [PK.val, hs, cond_false, hcs]
      exact hcr
end
end Go.Vi
/-
  Vi: a law's contract out of its contract in data: it returns true, and what it was handed reads as before.
-/
set_option linter.unusedVariables false
set_option linter.unusedSimpArgs false
namespace Go.Vi
open Go.ChangeShapes Go.WideShapes Go.ChangeAt Go.RowKit
section
variable {P : Program} {W W' : World} {H : Type} {enc : TypeId × Value → H} {A : Nat → Prop}
def pks (ss : List Sh) : List PK := ss.map .c
def rdArgs (P : Program) (n : Nat) : List TypeId → List Sh → Bool
  | [], [] => true
  | t :: ts, s :: ss => rdB P n t s && rdArgs P n ts ss
  | _, _ => false
def WfL : (ss : List Sh) → pksDen (pks ss) → Prop
  | [], _ => True
  | s :: ss, x => Wf s x.1 ∧ WfL ss x.2
theorem trodAll_args {n base : Nat} {r : Reach} {sp : Nat → Bool} {held : Bool} (hA : ∀ b, b < W.heap.size → A b) : ∀ {ts : List TypeId} {ss : List Sh} {vs : List Value} {ds : List (DataW H)} {ps : List MemPlace}, rdArgs P n ts ss = true →
    (∀ (j : Nat) t v, ts[j]? = some t → vs[j]? = some v → Value.okWide P W r base t v) → DataW.TrodAll enc P W 0 sp held ts vs ds ps →
    ∃ xs : pksDen (pks ss), All2 (VR noGam W A emp) (pksV (pks ss) xs) vs ∧ WfL ss xs
  | [], [], vs, ds, ps, _, _, h => by
    obtain ⟨rfl, _, _⟩ := trodAll_nil h
    exact ⟨(), trivial, trivial⟩
  | t :: ts, s :: ss, vs, ds, ps, hr, hv, h => by
    simp only [rdArgs, Bool.and_eq_true] at hr
    obtain ⟨v, vs', d, ds', p, q, rfl, rfl, rfl, h1, h2⟩ := trodAll_cons h
    obtain ⟨x, hx, hw⟩ := trod_arg hr.1 (hv 0 t v rfl rfl) h1 hA
    obtain ⟨xs, hxs, hws⟩ := trodAll_args hA hr.2 (fun j t v ht hv' => hv (j + 1) t v (by simpa using ht) (by simpa using hv')) h2
    exact ⟨(x, xs), ⟨hx, hxs⟩, hw, hws⟩
  | [], _ :: _, _, _, _, hr, _, _ => by cases hr
  | _ :: _, [], _, _, _, hr, _, _ => by cases hr
theorem pksArg_val : ∀ (ss : List Sh) (xs : pksDen (pks ss)), pksArg (pks ss) (pksV (pks ss) xs) = some xs
  | [], _ => rfl
  | s :: ss, xs => by
    have h1 : (PK.c s).arg ((PK.c s).val xs.1) = some xs.1 := valOf_val s xs.1
    have h2 := pksArg_val ss xs.2
    show ((PK.c s).arg ((PK.c s).val xs.1)).bind (fun x => (pksArg (pks ss) (pksV (pks ss) xs.2)).bind fun y => some (x, y)) = _
    rw [h1, h2]
    rfl
theorem Grows.below (h : Grows W W') : RowKit.Below W.heap.size W W' := ⟨h.os, h.tape, h.output, h.size, h.blk⟩
/-- The call returns true. -/
theorem law_calls {g : FuncId} {ss : List Sh} {t0 : Nat} {S : pksDen (pks ss) → Option Bool} (hfc : FCs P g (phiOf (pks ss) [.c .bool t0] S)) {xs : pksDen (pks ss)} (hS : S xs = some true) {args : Array Value} (hA : ∀ b, A b → b < W.heap.size)
    (ha : All2 (VR noGam W A emp) (pksV (pks ss) xs) args.toList) (hgl : GlobOK W A) : Calls P g args W fun e W' => e = .returned (.bool true) ∧ Grows W W' := by
  have hrun : phiOf (pks ss) [RK.c .bool t0] S (pksV (pks ss) xs) Ret some = some [.val (.bool true)] := by
    unfold phiOf
    rw [pksArg_val]
    simp only [Option.bind_some, hS]
    rfl
  obtain ⟨ret, hret, hf⟩ := hfc _ _ _ _ hrun
  cases hret
  have := hf W A args.toList hA ha hgl
  refine this.mono fun e w' he => ?_
  cases e with
  | returned u =>
    obtain ⟨hg, is, us, rfl, hr⟩ := he
    match is, us, hr with
    | [i], [u], hr =>
      have : u = .bool true := hr.1
      subst this
      exact ⟨rfl, hg⟩
    | _ :: _ :: _, _ :: us, hr => cases us <;> exact hr.2.2.elim
  | panicked _ => exact he.elim
  | outgrown => exact he.elim
theorem trodAll_stays (hl : laidOutB P = true) (hb : RowKit.Below W.heap.size W W') : ∀ {ts : List TypeId} {vs : List Value} {ds : List (DataW H)} {ps : List MemPlace}, (∀ t ∈ ts, P.readableRec t = true ∧ t < P.types.size) → (∀ x ∈ ps, x.block < W.heap.size) →
    DataW.TrodAll enc P W 0 (fun _ => true) true ts vs ds ps → DataW.TrodAll enc P W' 0 (fun b => decide (b < W.heap.size)) true ts vs ds ps
  | [], vs, ds, ps, _, _, h => by
    obtain ⟨rfl, rfl, rfl⟩ := trodAll_nil h
    rfl
  | t :: ts, vs, ds, ps, ht, hps, h => by
    obtain ⟨v, vs', d, ds', p, q, rfl, rfl, rfl, h1, h2⟩ := trodAll_cons h
    have := ht t (by simp)
    exact ⟨p, q, Below.trod hl this.1 this.2 h1 hb (fun x hx => hps x (List.mem_append.2 (.inl hx))), trodAll_stays hl hb (fun t' ht' => ht t' (List.mem_cons_of_mem _ ht')) (fun x hx => hps x (List.mem_append.2 (.inr hx))) h2, rfl⟩
/-- What a row asks of a call. -/
theorem law_post {g : FuncId} {fn : Func} {spec : ChangeSpec} {ss : List Sh} {t0 n base tb : Nat} {S : Nat × Nat → pksDen (pks ss) → Option Bool} (hfc : ∀ n, FCs P g (phiOf (pks ss) [.c .bool t0] (S n)))
    (hS : ∀ xs, WfL ss xs → ∃ n, S n xs = some true) (hl : laidOutB P = true) (hr : rdArgs P n fn.params.toList ss = true) (hts : fn.params.toList.all (fun t => P.readableRec t && decide (t < P.types.size)) = true)
    (hrt : fn.resultTypes = #[tb]) (hu : P.underlying tb = some .bool) (hvars : spec.vars = [])
    (hspec : ∀ (H : Type) (ds : List (DataW H)), ds.length = ss.length → spec.fn H ds = { results := [.lit (.bool true)], args := ds, vars := [] })
    {args : Array Value} {ds gs : List (DataW H)} {before : List MemPlace} (hval : ∀ (j : Nat) t v, fn.params[j]? = some t → args[j]? = some v → Value.okWide P W .any base t v)
    (hW : DataW.Whole enc P fn.params.toList spec.vars false W args.toList ds gs before) (hgl : GlobOK W (fun b => b < W.heap.size)) :
    Calls P g args W fun e W' => ∃ v, e = .returned v ∧ spec.post enc P fn false true false false W args v W' := by
  have hW' := hW
  obtain ⟨p, q, hA0, hV, rfl, hfz, hnd⟩ := hW
  have hlt : ∀ x ∈ p ++ q, x.block < W.heap.size := fun x hx => by simpa using hW'.lt x hx
  rw [hvars] at hV
  obtain ⟨rfl, rfl⟩ := trodVars_none hV
  obtain ⟨xs, hxs, hws⟩ := trodAll_args (A := fun b => b < W.heap.size) (fun b hb => hb) hr (fun j t v ht hv => hval j t v (by simpa using ht) (by simpa using hv)) hA0
  obtain ⟨m, hm⟩ := hS xs hws
  refine (law_calls (hfc m) hm (fun b hb => hb) hxs hgl).mono fun e W' ⟨he, hg⟩ => ?_
  subst he
  have hlen : ds.length = ss.length := by
    have h1 : ∀ {ts : List TypeId} {vs : List Value} {ds : List (DataW H)} {ps : List MemPlace}, DataW.TrodAll enc P W 0 (fun _ => true) true ts vs ds ps → ds.length = ts.length := by
      intro ts
      induction ts with
      | nil =>
        intro vs ds ps h
        obtain ⟨_, rfl, _⟩ := trodAll_nil h
        rfl
      | cons t ts ih =>
        intro vs ds ps h
        obtain ⟨v, vs', d, ds', p, q, rfl, rfl, rfl, h1, h2⟩ := trodAll_cons h
        simp [ih h2]
    have h2 : ∀ {ts : List TypeId} {ss : List Sh}, rdArgs P n ts ss = true → ts.length = ss.length := by
      intro ts
      induction ts with
      | nil => intro ss h; cases ss <;> first | rfl | cases h
      | cons t ts ih =>
        intro ss h
        cases ss with
        | nil => cases h
        | cons s ss =>
          simp only [rdArgs, Bool.and_eq_true] at h
          simp [ih h.2]
    rw [h1 hA0, h2 hr]
  have hsp := hspec H (ds ++ []) (by simpa using hlen)
  refine ⟨_, rfl, ds, [], p ++ [], [], p, [], hW', ?_, ?_, ?_, hg.below.frame _, fun h => by cases h⟩
  · rw [hsp, hrt]
    exact trodAll_mk1 (shut_bool hu _)
  · rw [hsp]
    simp only [List.append_nil]
    refine trodAll_stays hl hg.below ?_ (fun x hx => hlt x (List.mem_append.2 (.inl hx))) hA0
    intro t ht
    have := List.all_eq_true.1 hts t ht
    simp only [Bool.and_eq_true, decide_eq_true_eq] at this
    exact this
  · rw [hsp, hvars]
    rfl
/-- A listed table of numbers lies where the row says. -/
theorem glob_of_laid {nm : String} {t n e : Nat} {k : IntKind} {ns : List Int} (h : laidMet P [(nm, .agg (ns.map fun m => .lit (.int k m)))] W) (hg : P.globalNamed nm = some 0) (ht : (P.globals[0]?).map (·.type) = some t)
    (hu : P.underlying t = some (.array n e)) (he : P.underlying e = some (.int k)) (hc : P.cellsOf e = 1) (hct : P.cellsOf t = n) : ∃ cur et fz, W.heap[0]? = some (.cells cur et fz) ∧ cur.toList = ns.map fun m => .int k m := by
  obtain ⟨ps, ⟨g0, t0, cs0, f0, p0, q0, hg0, ht0, hv0, hd0, _, _⟩, _, _⟩ := h
  obtain rfl := Option.some.inj (hg.symm.trans hg0)
  obtain rfl := Option.some.inj (ht.symm.trans ht0)
  obtain ⟨xs, m, _, hx, hl, hxl, hget⟩ := DataW.trod_array hu hd0
  have hcur : ∃ et fz, W.heap[0]? = some (.cells cs0 et fz) := by
    unfold World.var? at hv0
    rw [hg, Option.bind_some] at hv0
    split at hv0
    · rename_i c et fz hb
      cases hv0
      exact ⟨et, fz, hb⟩
    · cases hv0
  obtain ⟨et, fz, hb⟩ := hcur
  refine ⟨cs0, et, fz, hb, ?_⟩
  have e1 : xs.map (·.1) = ns.map fun m => .lit (.int k m) := by
    have := congrArg Prod.fst hx
    simp only [DataW.agg.injEq] at this
    exact this.symm
  have hnl : ns.length = n := by
    have := congrArg List.length e1
    simp only [List.length_map] at this
    omega
  apply List.ext_getElem
  · rw [hl, hct, List.length_map, hnl]
  · intro i h1 h2
    have hi : i < n := by rw [hl, hct] at h1; exact h1
    have h3 := hget i hi
    rw [List.getElem?_eq_getElem (by omega)] at h3
    obtain ⟨z, e2, e3, _⟩ := DataW.trod_int he h3
    have e4 : xs[i].1 = .lit (.int k (ns[i]'(by omega))) := by
      have := congrArg (fun l => l[i]?) e1
      simp only [List.getElem?_map, List.getElem?_eq_getElem (show i < xs.length by omega), List.getElem?_eq_getElem (show i < ns.length by omega), Option.map_some, Option.some.injEq] at this
      exact this
    rw [e3] at e4
    simp only [DataW.lit.injEq, Lit.int.injEq, true_and] at e4
    rw [hc, Nat.mul_one, List.drop_eq_getElem_cons h1] at e2
    simp only [List.take_succ_cons, List.take_zero, List.cons.injEq, and_true] at e2
    rw [e2, List.getElem_map, e4]
end
end Go.Vi
set_option linter.unusedVariables false
set_option linter.unusedSimpArgs false
set_option maxRecDepth 100000
namespace Go.Proofs.YtgmonagekfjnmaaDoor
open Go.ChangeShapes Go.WideShapes Go.ChangeAt Go.RowKit Go.Vi
def divs : List Int := [0, 2, 6, 10, 22, 34, 78, 130, 278, 522, 1062, 2050, 4190, 8194, 16518, 32810, 65814, 131074, 262734, 524290, 1049654, 2097290, 4196358, 8388610, 16781662]
noncomputable def laidWorld (os : Os) : World :=
  let w0 := World.holding Tryd.prog os ⟨#[], #[], []⟩
  { w0 with heap := w0.heap.modify 0 fun
      | .cells _ t frozen => .cells (divs.map fun m => Value.int .u32 m).toArray t frozen
      | o => o }
abbrev laidL : List (String × DataW Unit) := [("headword/sheet.divisors", Rows.laid_headword_sheet_divisors)]
theorem laidWorld_met (os : Os) (args : Array Value) : laidMet Tryd.prog laidL ((laidWorld os).forCall (fun _ _ => 0) ⟨#[], args, []⟩).memory :=
  laidMet_of_run' 8 (by kernel_rfl) (by kernel_rfl)
theorem globs_ok {W : World} (h : laidMet Tryd.prog laidL W) : GlobOK W (fun b => b < W.heap.size) := by
  obtain ⟨cur, et, fz, hb, hc⟩ := glob_of_laid (P := Tryd.prog) (nm := "headword/sheet.divisors") (t := 86) (n := 25) (e := 85) (k := .u32) (ns := divs) h (by kernel_rfl) (by kernel_rfl) (by kernel_rfl) (by kernel_rfl) (by kernel_rfl) (by kernel_rfl)
  intro g ns hg
  match g, hg with
  | 0, hg =>
    cases hg
    exact ⟨(Array.getElem?_eq_some_iff.1 hb).1, (Array.getElem?_eq_some_iff.1 hb).1, cur, et, fz, hb, hc⟩
  | g + 1, hg => cases hg
end Go.Proofs.YtgmonagekfjnmaaDoor
