/- The law: written by program -/
import Derived.Test.YtombednapelokaaViS
import Derived.Test.YtombednapelokaaProg
import Derived.KernelRfl
import Derived.WalkKit
import Derived.Test.YtombednapelokaaCD1
set_option linter.unusedVariables false
set_option linter.unusedSimpArgs false
set_option maxRecDepth 100000
namespace Go.Proofs.Ytombednapelokaa
open Go.Vi
/- headword/headwordlaw08.ReignNear -/
abbrev R4 := Bool
noncomputable def c4 : Code := bodyOf Try.f4
noncomputable def an4 : Ann := (.s .l (.s (.s .l (.j [0, 46, 47, 48, 51, 52, 53, 56, 57, 58, 59, 60, 80, 81, 82, 83, 84, 85, 86, 87, 88, 89, 90, 93, 94, 95, 96, 97, 98, 99, 100, 101, 102, 103, 129, 130, 131, 134, 135, 136, 139, 140, 141, 144] .l .l)) (.s .l (.s .l (.s .l (.s .l (.s .l (.s (.s .l (.j [0, 3, 8, 10, 80, 81, 82, 83, 84, 85, 86, 87, 88, 89, 90, 93, 94, 95, 96, 97, 98, 99, 100, 101, 102, 103, 129, 130, 131, 134, 135, 136, 139, 140, 141, 144] .l .l)) (.s (.s .l (.j [0, 3, 129, 130, 131, 134, 135, 136, 139, 140, 141, 144] (.j [0, 3, 8, 10, 12, 80, 81, 82, 83, 84, 85, 86, 87, 88, 89, 90, 93, 94, 95, 96, 97, 98, 99, 100, 101, 102, 103, 129, 130, 131, 134, 135, 136, 139, 140, 141, 144] (.s (.s .l (.j [0, 3, 8, 10, 12, 80, 81, 82, 83, 84, 85, 86, 87, 88, 89, 90, 93, 94, 95, 96, 97, 98, 99, 100, 101, 102, 103, 129, 130, 131, 134, 135, 136, 139, 140, 141, 144] .l .l)) (.s (.j [0, 3, 8, 10, 12, 80, 81, 82, 83, 84, 85, 86, 87, 88, 89, 90, 93, 94, 95, 96, 97, 98, 99, 100, 101, 102, 103, 129, 130, 131, 134, 135, 136, 139, 140, 141, 144] (.s .l (.j [0, 3, 8, 10, 12, 80, 81, 82, 83, 84, 85, 86, 87, 88, 89, 90, 93, 94, 95, 96, 97, 98, 99, 100, 101, 102, 103, 129, 130, 131, 134, 135, 136, 139, 140, 141, 144] .l .l)) .l) .l)) .l) .l)) .l)))))))))
def pk4 : List PK := [.c (.sl (.pair (.int .i64) (.int .i64)))]
def rk4 : List RK := [.c .bool 2]
noncomputable def rt4 (st : St) : Option R4 := rtG rk4 st
noncomputable def E4 (n : Nat × Nat) : Env := { T := tab, phi := (consPhi 18 (fun _ => true) (P18 n) (consPhi 19 (fun _ => true) (P19 n) (consPhi 30 (fun _ => true) (P30 n) (consPhi 31 (fun _ => true) (P31 n) (consPhi 32 (fun _ => true) (P32 n) (consPhi 33 (fun _ => true) (P33 n) (consPhi 34 (fun _ => true) (P34 n) (consPhi 35 (fun _ => true) (P35 n) (consPhi 36 (fun _ => true) (P36 n) (consPhi 37 (fun _ => true) (P37 n) (consPhi 38 (fun _ => true) (P38 n) noPhi))))))))))), eff := fun _ => false, fuel := n.1, hold := n.2 }
noncomputable def kq4_1 (n : Nat × Nat) : St → Option R4 := run (E4 n) (cB (cB c4)) (Ann.snd (Ann.snd an4)) rt4 (fun _ _ => none) rt4
noncomputable def kc4_2 (n : Nat × Nat) : St → Option R4 := fun s => normC [0, 46, 47, 48, 51, 52, 53, 56, 57, 58, 59, 60, 80, 81, 82, 83, 84, 85, 86, 87, 88, 89, 90, 93, 94, 95, 96, 97, 98, 99, 100, 101, 102, 103, 129, 130, 131, 134, 135, 136, 139, 140, 141, 144] s (kq4_1 n)
noncomputable def kq4_3 (n : Nat × Nat) : St → Option R4 := run (E4 n) (cB (cB (cB (cB (cB (cB (cB (cB c4)))))))) (Ann.snd (Ann.snd (Ann.snd (Ann.snd (Ann.snd (Ann.snd (Ann.snd (Ann.snd an4)))))))) rt4 (fun _ _ => none) rt4
noncomputable def kc4_4 (n : Nat × Nat) : St → Option R4 := fun s => normC [0, 3, 8, 10, 80, 81, 82, 83, 84, 85, 86, 87, 88, 89, 90, 93, 94, 95, 96, 97, 98, 99, 100, 101, 102, 103, 129, 130, 131, 134, 135, 136, 139, 140, 141, 144] s (kq4_3 n)
noncomputable def kq4_5 (n : Nat × Nat) : St → Option R4 := run (E4 n) (cB (cB (cB (cB (cB (cB (cB (cB (cB c4))))))))) (Ann.snd (Ann.snd (Ann.snd (Ann.snd (Ann.snd (Ann.snd (Ann.snd (Ann.snd (Ann.snd an4))))))))) rt4 (fun _ _ => none) rt4
noncomputable def kc4_6 (n : Nat × Nat) : St → Option R4 := fun s => normC [0, 3, 129, 130, 131, 134, 135, 136, 139, 140, 141, 144] s (kq4_5 n)
noncomputable def xb4_7 (n : Nat × Nat) : Nat → St → Option R4 := fun j s => bif Nat.beq j 0 then normC [0, 3, 129, 130, 131, 134, 135, 136, 139, 140, 141, 144] s (kq4_5 n) else (fun _ _ => none) j s
noncomputable def F4_8 (n : Nat × Nat) : (St → Option R4) → St → Option R4 := fun K s => run (E4 n) (cA (cA (cB (cA (cB (cB (cB (cB (cB (cB (cB (cB c4)))))))))))) (Ann.fst (Ann.fst (Ann.snd (Ann.fst (Ann.snd (Ann.snd (Ann.snd (Ann.snd (Ann.snd (Ann.snd (Ann.snd (Ann.snd an4)))))))))))) (fun s => normC [0, 3, 8, 10, 12, 80, 81, 82, 83, 84, 85, 86, 87, 88, 89, 90, 93, 94, 95, 96, 97, 98, 99, 100, 101, 102, 103, 129, 130, 131, 134, 135, 136, 139, 140, 141, 144] s K) (xb4_7 n) rt4 s
noncomputable def kq4_9 (n : Nat × Nat) (m1 : Nat) : St → Option R4 := run (E4 n) (cB (cA (cA (cB (cA (cB (cB (cB (cB (cB (cB (cB (cB c4))))))))))))) (Ann.snd (Ann.fst (Ann.fst (Ann.snd (Ann.fst (Ann.snd (Ann.snd (Ann.snd (Ann.snd (Ann.snd (Ann.snd (Ann.snd (Ann.snd an4))))))))))))) (fun s => normC [0, 3, 8, 10, 12, 80, 81, 82, 83, 84, 85, 86, 87, 88, 89, 90, 93, 94, 95, 96, 97, 98, 99, 100, 101, 102, 103, 129, 130, 131, 134, 135, 136, 139, 140, 141, 144] s (loopN (F4_8 n) m1)) (xb4_7 n) rt4
noncomputable def kc4_10 (n : Nat × Nat) (m1 : Nat) : St → Option R4 := fun s => normC [0, 3, 8, 10, 12, 80, 81, 82, 83, 84, 85, 86, 87, 88, 89, 90, 93, 94, 95, 96, 97, 98, 99, 100, 101, 102, 103, 129, 130, 131, 134, 135, 136, 139, 140, 141, 144] s (kq4_9 n m1)
noncomputable def kq4_11 (n : Nat × Nat) (m1 : Nat) : St → Option R4 := run (E4 n) (cB (cB (cA (cA (cB (cA (cB (cB (cB (cB (cB (cB (cB (cB c4)))))))))))))) (Ann.snd (Ann.snd (Ann.fst (Ann.fst (Ann.snd (Ann.fst (Ann.snd (Ann.snd (Ann.snd (Ann.snd (Ann.snd (Ann.snd (Ann.snd (Ann.snd an4)))))))))))))) (fun s => normC [0, 3, 8, 10, 12, 80, 81, 82, 83, 84, 85, 86, 87, 88, 89, 90, 93, 94, 95, 96, 97, 98, 99, 100, 101, 102, 103, 129, 130, 131, 134, 135, 136, 139, 140, 141, 144] s (loopN (F4_8 n) m1)) (xb4_7 n) rt4
noncomputable def kc4_12 (n : Nat × Nat) (m1 : Nat) : St → Option R4 := fun s => normC [0, 3, 8, 10, 12, 80, 81, 82, 83, 84, 85, 86, 87, 88, 89, 90, 93, 94, 95, 96, 97, 98, 99, 100, 101, 102, 103, 129, 130, 131, 134, 135, 136, 139, 140, 141, 144] s (kq4_11 n m1)
noncomputable def xb4_13 (n : Nat × Nat) (m1 : Nat) : Nat → St → Option R4 := fun j s => bif Nat.beq j 1 then normC [0, 3, 8, 10, 12, 80, 81, 82, 83, 84, 85, 86, 87, 88, 89, 90, 93, 94, 95, 96, 97, 98, 99, 100, 101, 102, 103, 129, 130, 131, 134, 135, 136, 139, 140, 141, 144] s (kq4_11 n m1) else (xb4_7 n) j s
noncomputable def kc4_14 (n : Nat × Nat) (m1 : Nat) : St → Option R4 := fun s => normC [0, 3, 8, 10, 12, 80, 81, 82, 83, 84, 85, 86, 87, 88, 89, 90, 93, 94, 95, 96, 97, 98, 99, 100, 101, 102, 103, 129, 130, 131, 134, 135, 136, 139, 140, 141, 144] s (kc4_12 n m1)
noncomputable def L4_1 (n : Nat × Nat) (m : Nat) (l0 : List (Int × Int)) (i12 : Int) (r3 : List (Int × Int)) (c8 : List (Int × Int × Int × Int)) (d10 : List (Int × Int × Int × Int)) : Option R4 := loopN (F4_8 n) m { tm := [.c (.sl (.pair (.int .i64) (.int .i64)) l0 false), .undef, .undef, .own 3 none false, .undef, .undef, .undef, .undef, .own 8 none false, .undef, .own 10 none false, .undef, .c (.int .i64 i12), .undef, .undef, .undef, .undef, .undef, .undef, .undef, .undef, .undef, .undef, .undef, .undef, .undef, .undef, .undef, .undef, .undef, .undef, .undef, .undef, .undef, .undef, .undef, .undef, .undef, .undef, .undef, .undef, .undef, .undef, .undef, .undef, .undef, .undef, .undef, .undef, .undef, .undef, .undef, .undef, .undef, .undef, .undef, .undef, .undef, .undef, .undef, .undef, .undef, .undef, .undef, .undef, .undef, .undef, .undef, .undef, .undef, .undef, .undef, .undef, .undef, .undef, .undef, .undef, .undef, .undef, .undef, .undef, .undef, .undef, .undef, .undef, .undef, .undef, .undef, .undef, .undef, .undef, .undef, .undef, .undef, .undef, .undef, .undef, .undef, .undef, .undef, .undef, .undef, .undef, .undef, .undef, .undef, .undef, .undef, .undef, .undef, .undef, .undef, .undef, .undef, .undef, .undef, .undef, .undef, .undef, .undef, .undef, .undef, .undef, .undef, .undef, .undef, .undef, .undef, .undef, .undef, .undef, .undef, .undef, .undef, .undef, .undef, .undef, .undef, .undef, .undef, .undef, .undef, .undef, .undef, .undef, .undef], hp := (upd (upd (upd emp 10 (.arr (.pair (.int .i64) (.pair (.int .i64) (.pair (.int .i64) (.int .i64)))) d10 false)) 8 (.arr (.pair (.int .i64) (.pair (.int .i64) (.pair (.int .i64) (.int .i64)))) c8 false)) 3 (.arr (.pair (.int .i64) (.int .i64)) r3 false)) }
theorem L4_1_eq (n : Nat × Nat) (m1 : Nat) (l0 : List (Int × Int)) (i12 : Int) (r3 : List (Int × Int)) (c8 : List (Int × Int × Int × Int)) (d10 : List (Int × Int × Int × Int)) : L4_1 n (m1 + 1) l0 i12 r3 c8 d10 =
    (bif decide (i12 < (c8.length : Int)) then (bif inB i12 c8.length then (idx c8 i12).bind fun x11' =>
        (bif inB i12 d10.length then (idx d10 i12).bind fun x12' =>
          ((bif ((x11'.1 != x12'.1) == false) then (bif inB i12 c8.length then (idx c8 i12).bind fun x13' =>
                (bif inB i12 d10.length then (idx d10 i12).bind fun x14' =>
                  some (x13'.2.1 != x14'.2.1)
                else none)
              else none)
            else some true)).bind fun b15' =>
          ((bif (b15' == false) then (bif inB i12 c8.length then (idx c8 i12).bind fun x16' =>
                (bif inB i12 d10.length then (idx d10 i12).bind fun x17' =>
                  some (!((x16'.2.2.1 == x17'.2.2.1) && ((x16'.2.2.2 == x17'.2.2.2) && true)))
                else none)
              else none)
            else some true)).bind fun b18' =>
          (bif b18' then some false
          else L4_1 n m1 l0 (wr .i64 (i12 + 1)) r3 c8 d10)
        else none)
      else none)
    else (S35 n l0).bind fun r19' =>
      (S36 n r3).bind fun r20' =>
      (S37 n l0).bind fun r21' =>
      (S38 n r3).bind fun r22' =>
      ((bif (((r19'.1.1 == r20'.1.1) && ((r19'.1.2 == r20'.1.2) && true)) == true) then some (r19'.2 == r20'.2)
        else some false)).bind fun b23' =>
      ((bif (b23' == true) then (S34 n r21'.1 r22'.1).bind fun r24' =>
          some r24'
        else some false)).bind fun b25' =>
      ((bif (b25' == true) then some (r21'.2 == r22'.2)
        else some false)).bind fun b26' =>
      ((bif (b26' == true) then (S18 n).bind fun r27' =>
          some r27'
        else some false)).bind fun b28' =>
      some b28') := by kernel_rfl
noncomputable def S4 (n : Nat × Nat) (l0 : List (Int × Int)) : Option R4 := run (E4 n) c4 an4 rt4 (fun _ _ => none) rt4 { tm := [.c (.sl (.pair (.int .i64) (.int .i64)) l0 false), .undef, .undef, .undef, .undef, .undef, .undef, .undef, .undef, .undef, .undef, .undef, .undef, .undef, .undef, .undef, .undef, .undef, .undef, .undef, .undef, .undef, .undef, .undef, .undef, .undef, .undef, .undef, .undef, .undef, .undef, .undef, .undef, .undef, .undef, .undef, .undef, .undef, .undef, .undef, .undef, .undef, .undef, .undef, .undef, .undef, .undef, .undef, .undef, .undef, .undef, .undef, .undef, .undef, .undef, .undef, .undef, .undef, .undef, .undef, .undef, .undef, .undef, .undef, .undef, .undef, .undef, .undef, .undef, .undef, .undef, .undef, .undef, .undef, .undef, .undef, .undef, .undef, .undef, .undef, .undef, .undef, .undef, .undef, .undef, .undef, .undef, .undef, .undef, .undef, .undef, .undef, .undef, .undef, .undef, .undef, .undef, .undef, .undef, .undef, .undef, .undef, .undef, .undef, .undef, .undef, .undef, .undef, .undef, .undef, .undef, .undef, .undef, .undef, .undef, .undef, .undef, .undef, .undef, .undef, .undef, .undef, .undef, .undef, .undef, .undef, .undef, .undef, .undef, .undef, .undef, .undef, .undef, .undef, .undef, .undef, .undef, .undef, .undef, .undef, .undef, .undef, .undef, .undef, .undef, .undef], hp := emp }
theorem S4_eq (n : Nat × Nat) (l0 : List (Int × Int)) : S4 n l0 =
    (bif decide ((l0.length : Int) > 40) then (S18 n).bind fun r1' =>
      some r1'
    else (S19 n l0).bind fun r2' =>
      (S30 n l0).bind fun r3' =>
      (S31 n r2').bind fun r4' =>
      (S32 n l0).bind fun r5' =>
      (S33 n r2').bind fun r6' =>
      (S34 n r3'.1 r4'.1).bind fun r7' =>
      ((bif ((!r7') == false) then some (r3'.2 != r4'.2)
        else some true)).bind fun b8' =>
      ((bif (b8' == false) then some (r5'.2 != r6'.2)
        else some true)).bind fun b9' =>
      ((bif (b9' == false) then some ((r5'.1.length : Int) != (r6'.1.length : Int))
        else some true)).bind fun b10' =>
      (bif b10' then some false
      else L4_1 n n.1 l0 0 r2' r5'.1 r6'.1)) := by kernel_rfl
theorem S4_run (n : Nat × Nat) (xs : pksDen pk4) : S4 n xs.1 = runG (E4 n) noScope c4 an4 (rtG rk4) (fun _ _ => none) (rtG rk4) (st0 pk4 xs Try.f4.ntmps) := by kernel_rfl
noncomputable def P4 (n : Nat × Nat) := phiOf pk4 rk4 (fun xs => S4 n xs.1)
theorem call4 : CallOK Try.prog 4 := callOK_of Try.func4 (by kernel_rfl) (by kernel_rfl)
theorem env4 (n : Nat × Nat) : EnvOK Try.prog (E4 n) := envOK0 (consPhi_ok (FC18 n) call18 (consPhi_ok (FC19 n) call19 (consPhi_ok (FC30 n) call30 (consPhi_ok (FC31 n) call31 (consPhi_ok (FC32 n) call32 (consPhi_ok (FC33 n) call33 (consPhi_ok (FC34 n) call34 (consPhi_ok (FC35 n) call35 (consPhi_ok (FC36 n) call36 (consPhi_ok (FC37 n) call37 (consPhi_ok (FC38 n) call38 noPhi_ok))))))))))) rfl rfl
theorem par4 (n : Nat × Nat) : EnvPar (E4 n) := envPar0 (consPhi_par phiOf_Par1 (consPhi_par phiOf_Par1 (consPhi_par phiOf_Par1 (consPhi_par phiOf_Par1 (consPhi_par phiOf_Par1 (consPhi_par phiOf_Par1 (consPhi_par phiOf_Par1 (consPhi_par phiOf_Par1 (consPhi_par phiOf_Par1 (consPhi_par phiOf_Par1 (consPhi_par phiOf_Par1 noPhi_par))))))))))) rfl
theorem FC4 (n : Nat × Nat) : FCs Try.prog 4 (P4 n) := phiOf_FCs fun xs r h vs hv => FC.of_runG tabOK eqsOK (env4 n) (par4 n) mixed (fun _ => noScope_ok) Try.func4 (c := c4) (an := an4) (pks := pk4) (rks := rk4) (by kernel_rfl) (by kernel_rfl) hv ((S4_run n xs).symm.trans h)
/-D 4 -/
noncomputable def DF4_1 (n : Nat × Nat) (f1 : (List (Int × Int)) → Int → (List (Int × Int)) → (List (Int × Int × Int × Int)) → (List (Int × Int × Int × Int)) → Option R4) (l0 : List (Int × Int)) (i12 : Int) (r3 : List (Int × Int)) (c8 : List (Int × Int × Int × Int)) (d10 : List (Int × Int × Int × Int)) : Option R4 :=
    (bif decide (i12 < (c8.length : Int)) then (bif inB i12 c8.length then (idx c8 i12).bind fun x11' =>
        (bif inB i12 d10.length then (idx d10 i12).bind fun x12' =>
          ((bif ((x11'.1 != x12'.1) == false) then (bif inB i12 c8.length then (idx c8 i12).bind fun x13' =>
                (bif inB i12 d10.length then (idx d10 i12).bind fun x14' =>
                  some (x13'.2.1 != x14'.2.1)
                else none)
              else none)
            else some true)).bind fun b15' =>
          ((bif (b15' == false) then (bif inB i12 c8.length then (idx c8 i12).bind fun x16' =>
                (bif inB i12 d10.length then (idx d10 i12).bind fun x17' =>
                  some (!((x16'.2.2.1 == x17'.2.2.1) && ((x16'.2.2.2 == x17'.2.2.2) && true)))
                else none)
              else none)
            else some true)).bind fun b18' =>
          (bif b18' then some false
          else f1 l0 (wr .i64 (i12 + 1)) r3 c8 d10)
        else none)
      else none)
    else (D35 n l0).bind fun r19' =>
      (D36 n r3).bind fun r20' =>
      (D37 n l0).bind fun r21' =>
      (D38 n r3).bind fun r22' =>
      ((bif (((r19'.1.1 == r20'.1.1) && ((r19'.1.2 == r20'.1.2) && true)) == true) then some (r19'.2 == r20'.2)
        else some false)).bind fun b23' =>
      ((bif (b23' == true) then (D34 n r21'.1 r22'.1).bind fun r24' =>
          some r24'
        else some false)).bind fun b25' =>
      ((bif (b25' == true) then some (r21'.2 == r22'.2)
        else some false)).bind fun b26' =>
      ((bif (b26' == true) then (D18 n).bind fun r27' =>
          some r27'
        else some false)).bind fun b28' =>
      some b28')
noncomputable def DL4_1 (n : Nat × Nat) (m : Nat) : (List (Int × Int)) → Int → (List (Int × Int)) → (List (Int × Int × Int × Int)) → (List (Int × Int × Int × Int)) → Option R4 := Nat.rec (motive := fun _ => (List (Int × Int)) → Int → (List (Int × Int)) → (List (Int × Int × Int × Int)) → (List (Int × Int × Int × Int)) → Option R4) (fun _ _ _ _ _ => none) (fun _ ih => DF4_1 n ih) m
theorem DL4_1_succ (n : Nat × Nat) (m : Nat) : DL4_1 n (m + 1) = DF4_1 n (DL4_1 n m) := rfl
theorem DL4_1_eq (n : Nat × Nat) (hn : n.2 = 1) : ∀ m, L4_1 n m = DL4_1 n m
  | 0 => by funext l0 i12 r3 c8 d10; kernel_rfl
  | m + 1 => by
    have ih := DL4_1_eq n hn m
    funext l0 i12 r3 c8 d10; refine (L4_1_eq n m l0 i12 r3 c8 d10).trans ?_
    rw [DL4_1_succ]
    unfold DF4_1
    first | (simp only [ih, S18_D n hn, S19_D n hn, S30_D n hn, S31_D n hn, S32_D n hn, S33_D n hn, S34_D n hn, S35_D n hn, S36_D n hn, S37_D n hn, S38_D n hn]; done) | (simp only [ih, S18_D n hn, S19_D n hn, S30_D n hn, S31_D n hn, S32_D n hn, S33_D n hn, S34_D n hn, S35_D n hn, S36_D n hn, S37_D n hn, S38_D n hn]; with_reducible rfl) | with_reducible rfl | rfl
noncomputable def D4 (n : Nat × Nat) (l0 : List (Int × Int)) : Option R4 :=
    (bif decide ((l0.length : Int) > 40) then (D18 n).bind fun r1' =>
      some r1'
    else (D19 n l0).bind fun r2' =>
      (D30 n l0).bind fun r3' =>
      (D31 n r2').bind fun r4' =>
      (D32 n l0).bind fun r5' =>
      (D33 n r2').bind fun r6' =>
      (D34 n r3'.1 r4'.1).bind fun r7' =>
      ((bif ((!r7') == false) then some (r3'.2 != r4'.2)
        else some true)).bind fun b8' =>
      ((bif (b8' == false) then some (r5'.2 != r6'.2)
        else some true)).bind fun b9' =>
      ((bif (b9' == false) then some ((r5'.1.length : Int) != (r6'.1.length : Int))
        else some true)).bind fun b10' =>
      (bif b10' then some false
      else DL4_1 n n.1 l0 0 r2' r5'.1 r6'.1))
theorem S4_D (n : Nat × Nat) (hn : n.2 = 1) : S4 n = D4 n := by
  funext l0; refine (S4_eq n l0).trans ?_
  unfold D4
  first | (simp only [DL4_1_eq n hn, S18_D n hn, S19_D n hn, S30_D n hn, S31_D n hn, S32_D n hn, S33_D n hn, S34_D n hn, S35_D n hn, S36_D n hn, S37_D n hn, S38_D n hn]; done) | (simp only [DL4_1_eq n hn, S18_D n hn, S19_D n hn, S30_D n hn, S31_D n hn, S32_D n hn, S33_D n hn, S34_D n hn, S35_D n hn, S36_D n hn, S37_D n hn, S38_D n hn]; with_reducible rfl) | with_reducible rfl | rfl
noncomputable def PD4 (n : Nat × Nat) := phiOf pk4 rk4 (fun xs => D4 n xs.1)
theorem P4_D (n : Nat × Nat) (hn : n.2 = 1) : P4 n = PD4 n := by unfold P4 PD4; rw [S4_D n hn]
end Go.Proofs.Ytombednapelokaa
