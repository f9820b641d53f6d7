/- Texts of this claim, joined: G12 to Co12. -/
import Derived.KernelRfl
import Derived.Test.YtjgmfdgpgdaclaaProg
import Derived.WalkKit
import Derived.Test.YtjgmfdgpgdaclaaP8
set_option linter.unusedVariables false
set_option linter.unusedSimpArgs false
set_option maxRecDepth 100000
namespace Go.Proofs.Ytjgmfdgpgdaclaa
open Go.Vi
/- headword/headwordlaw12.CoinChange -/
abbrev R12 := Bool
noncomputable def c12 : Code := bodyOf Try.f12
noncomputable def an12 : Ann := (.s .l (.s .l (.s .l (.s .l (.s .l (.s .l (.s (.s .l (.j [5, 6, 9, 10, 100, 101, 104, 105, 106, 109, 110, 111, 114, 115, 116, 117, 118, 121, 122, 123, 124, 125, 126, 127, 128, 129, 132] (.j [5, 6, 7, 8, 9, 10, 11, 60, 61, 62, 63, 64, 65, 66, 67, 68, 69, 70, 71, 72, 100, 101, 104, 105, 106, 109, 110, 111, 114, 115, 116, 117, 118, 121, 122, 123, 124, 125, 126, 127, 128, 129, 132] (.s (.s .l (.j [5, 6, 7, 8, 9, 10, 11, 60, 61, 62, 63, 64, 65, 66, 67, 68, 69, 70, 71, 72, 100, 101, 104, 105, 106, 109, 110, 111, 114, 115, 116, 117, 118, 121, 122, 123, 124, 125, 126, 127, 128, 129, 132] .l .l)) (.j [] (.j [5, 6, 7, 8, 9, 10, 11, 60, 61, 62, 63, 64, 65, 66, 67, 68, 69, 70, 71, 72, 100, 101, 104, 105, 106, 109, 110, 111, 114, 115, 116, 117, 118, 121, 122, 123, 124, 125, 126, 127, 128, 129, 132] (.s .l (.s .l (.j [5, 6, 7, 8, 9, 10, 11, 60, 61, 62, 63, 64, 65, 66, 67, 68, 69, 70, 71, 72, 100, 101, 104, 105, 106, 109, 110, 111, 114, 115, 116, 117, 118, 121, 122, 123, 124, 125, 126, 127, 128, 129, 132] .l .l))) .l) .l)) .l) .l)) .l)))))))
def pk12 : List PK := [.c (.pair (.int .u8) (.pair (.int .u8) (.pair (.int .u8) (.pair (.int .u8) (.pair (.int .u8) (.int .u8)))))), .c (.int .u8)]
def rk12 : List RK := [.c .bool 4]
noncomputable def rt12 (st : St) : Option R12 := rtG rk12 st
noncomputable def E12 (n : Nat × Nat) : Env := { T := tab, phi := (consPhi 17 (fun _ => true) (P17 n) (consPhi 18 (fun _ => true) (P18 n) (consPhi 39 (fun _ => true) (P39 n) (consPhi 43 (fun _ => true) (P43 n) (consPhi 44 (fun _ => true) (P44 n) noPhi))))), eff := fun _ => false, fuel := n.1, hold := n.2 }
noncomputable def kq12_1 (n : Nat × Nat) : St → Option R12 := run (E12 n) (cB (cB (cB (cB (cB (cB (cB c12))))))) (Ann.snd (Ann.snd (Ann.snd (Ann.snd (Ann.snd (Ann.snd (Ann.snd an12))))))) rt12 (fun _ _ => none) rt12
noncomputable def kc12_2 (n : Nat × Nat) : St → Option R12 := fun s => normC [5, 6, 9, 10, 100, 101, 104, 105, 106, 109, 110, 111, 114, 115, 116, 117, 118, 121, 122, 123, 124, 125, 126, 127, 128, 129, 132] s (kq12_1 n)
noncomputable def xb12_3 (n : Nat × Nat) : Nat → St → Option R12 := fun j s => bif Nat.beq j 0 then normC [5, 6, 9, 10, 100, 101, 104, 105, 106, 109, 110, 111, 114, 115, 116, 117, 118, 121, 122, 123, 124, 125, 126, 127, 128, 129, 132] s (kq12_1 n) else (fun _ _ => none) j s
noncomputable def F12_4 (n : Nat × Nat) : (St → Option R12) → St → Option R12 := fun K s => run (E12 n) (cA (cA (cB (cA (cB (cB (cB (cB (cB (cB c12)))))))))) (Ann.fst (Ann.fst (Ann.snd (Ann.fst (Ann.snd (Ann.snd (Ann.snd (Ann.snd (Ann.snd (Ann.snd an12)))))))))) (fun s => normC [5, 6, 7, 8, 9, 10, 11, 60, 61, 62, 63, 64, 65, 66, 67, 68, 69, 70, 71, 72, 100, 101, 104, 105, 106, 109, 110, 111, 114, 115, 116, 117, 118, 121, 122, 123, 124, 125, 126, 127, 128, 129, 132] s K) (xb12_3 n) rt12 s
noncomputable def kq12_5 (n : Nat × Nat) (m1 : Nat) : St → Option R12 := run (E12 n) (cB (cA (cA (cB (cA (cB (cB (cB (cB (cB (cB c12))))))))))) (Ann.snd (Ann.fst (Ann.fst (Ann.snd (Ann.fst (Ann.snd (Ann.snd (Ann.snd (Ann.snd (Ann.snd (Ann.snd an12))))))))))) (fun s => normC [5, 6, 7, 8, 9, 10, 11, 60, 61, 62, 63, 64, 65, 66, 67, 68, 69, 70, 71, 72, 100, 101, 104, 105, 106, 109, 110, 111, 114, 115, 116, 117, 118, 121, 122, 123, 124, 125, 126, 127, 128, 129, 132] s (loopN (F12_4 n) m1)) (xb12_3 n) rt12
noncomputable def kc12_6 (n : Nat × Nat) (m1 : Nat) : St → Option R12 := fun s => normC [5, 6, 7, 8, 9, 10, 11, 60, 61, 62, 63, 64, 65, 66, 67, 68, 69, 70, 71, 72, 100, 101, 104, 105, 106, 109, 110, 111, 114, 115, 116, 117, 118, 121, 122, 123, 124, 125, 126, 127, 128, 129, 132] s (kq12_5 n m1)
noncomputable def kq12_7 (n : Nat × Nat) (m1 : Nat) : St → Option R12 := run (E12 n) (cB (cB (cA (cA (cB (cA (cB (cB (cB (cB (cB (cB c12)))))))))))) (Ann.snd (Ann.snd (Ann.fst (Ann.fst (Ann.snd (Ann.fst (Ann.snd (Ann.snd (Ann.snd (Ann.snd (Ann.snd (Ann.snd an12)))))))))))) (fun s => normC [5, 6, 7, 8, 9, 10, 11, 60, 61, 62, 63, 64, 65, 66, 67, 68, 69, 70, 71, 72, 100, 101, 104, 105, 106, 109, 110, 111, 114, 115, 116, 117, 118, 121, 122, 123, 124, 125, 126, 127, 128, 129, 132] s (loopN (F12_4 n) m1)) (xb12_3 n) rt12
noncomputable def kc12_8 (n : Nat × Nat) (m1 : Nat) : St → Option R12 := fun s => normC [5, 6, 7, 8, 9, 10, 11, 60, 61, 62, 63, 64, 65, 66, 67, 68, 69, 70, 71, 72, 100, 101, 104, 105, 106, 109, 110, 111, 114, 115, 116, 117, 118, 121, 122, 123, 124, 125, 126, 127, 128, 129, 132] s (loopN (fun _ => (kq12_7 n m1)) n.2)
noncomputable def xb12_9 (n : Nat × Nat) (m1 : Nat) : Nat → St → Option R12 := fun j s => bif Nat.beq j 1 then normC [5, 6, 7, 8, 9, 10, 11, 60, 61, 62, 63, 64, 65, 66, 67, 68, 69, 70, 71, 72, 100, 101, 104, 105, 106, 109, 110, 111, 114, 115, 116, 117, 118, 121, 122, 123, 124, 125, 126, 127, 128, 129, 132] s (loopN (fun _ => (kq12_7 n m1)) n.2) else (xb12_3 n) j s
noncomputable def kc12_10 (n : Nat × Nat) (m1 : Nat) : St → Option R12 := fun s => normC [5, 6, 7, 8, 9, 10, 11, 60, 61, 62, 63, 64, 65, 66, 67, 68, 69, 70, 71, 72, 100, 101, 104, 105, 106, 109, 110, 111, 114, 115, 116, 117, 118, 121, 122, 123, 124, 125, 126, 127, 128, 129, 132] s (kc12_8 n m1)
noncomputable def L12_1 (n : Nat × Nat) (m : Nat) (s6 : Int) (top7 : Int) (pay9 : Int) (back10 : Int) (x11 : Int) (coins5 : List Int) (l8 : List Int) : Option R12 := loopN (F12_4 n) m { tm := [uu, uu, uu, uu, uu, .own 5 none false, .c (.int .i64 s6), .c (.int .i64 top7), .own 8 none false, .c (.int .i64 pay9), .c (.int .i64 back10), .c (.int .i64 x11), uu, uu, uu, uu, uu, uu, uu, uu, uu, uu, uu, uu, uu, uu, uu, uu, uu, uu, uu, uu, uu, uu, uu, uu, uu, uu, uu, uu, uu, uu, uu, uu, uu, uu, uu, uu, uu, uu, uu, uu, uu, uu, uu, uu, uu, uu, uu, uu, uu, uu, uu, uu, uu, uu, uu, uu, uu, uu, uu, uu, uu, uu, uu, uu, uu, uu, uu, uu, uu, uu, uu, uu, uu, uu, uu, uu, uu, uu, uu, uu, uu, uu, uu, uu, uu, uu, uu, uu, uu, uu, uu, uu, uu, uu, uu, uu, uu, uu, uu, uu, uu, uu, uu, uu, uu, uu, uu, uu, uu, uu, uu, uu, uu, uu, uu, uu, uu, uu, uu, uu, uu, uu], hp := (upd (upd emp 8 (.arr (.int .i64) l8 false)) 5 (.arr (.int .i64) coins5 false)) }
noncomputable def L12_2 (n : Nat × Nat) (m1 : Nat) (s6 : Int) (top7 : Int) (pay9 : Int) (back10 : Int) (x11 : Int) (coins5 : List Int) (l8 : List Int) : Option R12 := loopN (fun _ => (kq12_7 n m1)) n.2 { tm := [uu, uu, uu, uu, uu, .own 5 none false, .c (.int .i64 s6), .c (.int .i64 top7), .own 8 none false, .c (.int .i64 pay9), .c (.int .i64 back10), .c (.int .i64 x11), uu, uu, uu, uu, uu, uu, uu, uu, uu, uu, uu, uu, uu, uu, uu, uu, uu, uu, uu, uu, uu, uu, uu, uu, uu, uu, uu, uu, uu, uu, uu, uu, uu, uu, uu, uu, uu, uu, uu, uu, uu, uu, uu, uu, uu, uu, uu, uu, uu, uu, uu, uu, uu, uu, uu, uu, uu, uu, uu, uu, uu, uu, uu, uu, uu, uu, uu, uu, uu, uu, uu, uu, uu, uu, uu, uu, uu, uu, uu, uu, uu, uu, uu, uu, uu, uu, uu, uu, uu, uu, uu, uu, uu, uu, uu, uu, uu, uu, uu, uu, uu, uu, uu, uu, uu, uu, uu, uu, uu, uu, uu, uu, uu, uu, uu, uu, uu, uu, uu, uu, uu, uu], hp := (upd (upd emp 8 (.arr (.int .i64) l8 false)) 5 (.arr (.int .i64) coins5 false)) }
theorem L12_1_eq (n : Nat × Nat) (m1 : Nat) (s6 : Int) (top7 : Int) (pay9 : Int) (back10 : Int) (x11 : Int) (coins5 : List Int) (l8 : List Int) : L12_1 n (m1 + 1) s6 top7 pay9 back10 x11 coins5 l8 =
    (bif decide (x11 ≤ top7) then (bif inB (wr .i64 (s6 + x11)) l8.length then (idx l8 (wr .i64 (s6 + x11))).bind fun x5' =>
        (bif inB x11 l8.length then (idx l8 x11).bind fun x6' =>
          ((bif (decide (wr .i64 (x5' + x6') < wr .i64 (pay9 + back10)) == false) then ((bif (((wr .i64 (x5' + x6')) == (wr .i64 (pay9 + back10))) == true) then (bif inB x11 l8.length then (idx l8 x11).bind fun x7' =>
                    some (decide (x7' < back10))
                  else none)
                else some false)).bind fun b8' =>
              some b8'
            else some true)).bind fun b9' =>
          (bif b9' then (bif inB (wr .i64 (s6 + x11)) l8.length then (idx l8 (wr .i64 (s6 + x11))).bind fun x10' =>
              (bif inB x11 l8.length then (idx l8 x11).bind fun x11' =>
                L12_2 n m1 s6 top7 x10' x11' x11 coins5 l8
              else none)
            else none)
          else L12_2 n m1 s6 top7 pay9 back10 x11 coins5 l8)
        else none)
      else none)
    else (S39 n coins5 s6).bind fun r12' =>
      (S18 n coins5 s6).bind fun r13' =>
      ((bif ((r12'.2.2 == 0) == true) then some (r13'.2 == 0)
        else some false)).bind fun b14' =>
      ((bif (b14' == true) then some (r12'.1 == pay9)
        else some false)).bind fun b15' =>
      ((bif (b15' == true) then some (r12'.2.1 == back10)
        else some false)).bind fun b16' =>
      ((bif (b16' == true) then some (decide (wr .i64 (r12'.1 + r12'.2.1) ≤ r13'.1))
        else some false)).bind fun b17' =>
      ((bif (b17' == true) then ((bif (decide (wr .i64 (r12'.1 + r12'.2.1) < r13'.1) == false) then some (r12'.2.1 == 0)
            else some true)).bind fun b18' =>
          some b18'
        else some false)).bind fun b19' =>
      ((bif (b19' == true) then (S17 n).bind fun r20' =>
          some r20'
        else some false)).bind fun b21' =>
      some b21') := by kernel_rfl
theorem L12_2_raw (n : Nat × Nat) (m1 : Nat) (s6 : Int) (top7 : Int) (pay9 : Int) (back10 : Int) (x11 : Int) (coins5 : List Int) (l8 : List Int) : (kq12_7 n m1) { tm := [uu, uu, uu, uu, uu, .own 5 none false, .c (.int .i64 s6), .c (.int .i64 top7), .own 8 none false, .c (.int .i64 pay9), .c (.int .i64 back10), .c (.int .i64 x11), uu, uu, uu, uu, uu, uu, uu, uu, uu, uu, uu, uu, uu, uu, uu, uu, uu, uu, uu, uu, uu, uu, uu, uu, uu, uu, uu, uu, uu, uu, uu, uu, uu, uu, uu, uu, uu, uu, uu, uu, uu, uu, uu, uu, uu, uu, uu, uu, uu, uu, uu, uu, uu, uu, uu, uu, uu, uu, uu, uu, uu, uu, uu, uu, uu, uu, uu, uu, uu, uu, uu, uu, uu, uu, uu, uu, uu, uu, uu, uu, uu, uu, uu, uu, uu, uu, uu, uu, uu, uu, uu, uu, uu, uu, uu, uu, uu, uu, uu, uu, uu, uu, uu, uu, uu, uu, uu, uu, uu, uu, uu, uu, uu, uu, uu, uu, uu, uu, uu, uu, uu, uu], hp := (upd (upd emp 8 (.arr (.int .i64) l8 false)) 5 (.arr (.int .i64) coins5 false)) } =
    L12_1 n m1 s6 top7 pay9 back10 (wr .i64 (x11 + 1)) coins5 l8 := by kernel_rfl
noncomputable def S12 (n : Nat × Nat) (m0 : Int × Int × Int × Int × Int × Int) (sum1 : Int) : Option R12 := run (E12 n) c12 an12 rt12 (fun _ _ => none) rt12 { tm := [.agg [.int .u8 m0.1, .int .u8 m0.2.1, .int .u8 m0.2.2.1, .int .u8 m0.2.2.2.1, .int .u8 m0.2.2.2.2.1, .int .u8 m0.2.2.2.2.2], .c (.int .u8 sum1), uu, uu, uu, uu, uu, uu, uu, uu, uu, uu, uu, uu, uu, uu, uu, uu, uu, uu, uu, uu, uu, uu, uu, uu, uu, uu, uu, uu, uu, uu, uu, uu, uu, uu, uu, uu, uu, uu, uu, uu, uu, uu, uu, uu, uu, uu, uu, uu, uu, uu, uu, uu, uu, uu, uu, uu, uu, uu, uu, uu, uu, uu, uu, uu, uu, uu, uu, uu, uu, uu, uu, uu, uu, uu, uu, uu, uu, uu, uu, uu, uu, uu, uu, uu, uu, uu, uu, uu, uu, uu, uu, uu, uu, uu, uu, uu, uu, uu, uu, uu, uu, uu, uu, uu, uu, uu, uu, uu, uu, uu, uu, uu, uu, uu, uu, uu, uu, uu, uu, uu, uu, uu, uu, uu, uu, uu, uu, uu, uu, uu, uu, uu], hp := emp }
theorem S12_eq (n : Nat × Nat) (m0 : Int × Int × Int × Int × Int × Int) (sum1 : Int) : S12 n m0 sum1 =
    (S43 n m0 6 40).bind fun r1' =>
    (bif 201 == 0 then none
    else (bif inB (wr .i64 ((r1'.length : Int) - 1)) r1'.length then (idx r1' (wr .i64 ((r1'.length : Int) - 1))).bind fun x2' =>
        (S44 n r1' (wr .i64 ((Int.tmod (wr .i64 sum1) 201) + x2'))).bind fun r3' =>
        (bif inB (Int.tmod (wr .i64 sum1) 201) r3'.length then (idx r3' (Int.tmod (wr .i64 sum1) 201)).bind fun x4' =>
          L12_1 n n.1 (Int.tmod (wr .i64 sum1) 201) x2' x4' 0 1 r1' r3'
        else none)
      else none)) := by kernel_rfl
theorem S12_run (n : Nat × Nat) (xs : pksDen pk12) : S12 n xs.1 xs.2.1 = runG (E12 n) noScope c12 an12 (rtG rk12) (fun _ _ => none) (rtG rk12) (st0 pk12 xs Try.f12.ntmps) := by kernel_rfl
noncomputable def P12 (n : Nat × Nat) := phiOf pk12 rk12 (fun xs => S12 n xs.1 xs.2.1)
theorem call12 : CallOK Try.prog 12 := callOK_of Try.func12 (by kernel_rfl) (by kernel_rfl)
theorem env12 (n : Nat × Nat) : EnvOK Try.prog (E12 n) := envOK0 (consPhi_ok (FC17 n) call17 (consPhi_ok (FC18 n) call18 (consPhi_ok (FC39 n) call39 (consPhi_ok (FC43 n) call43 (consPhi_ok (FC44 n) call44 noPhi_ok))))) rfl rfl
theorem par12 (n : Nat × Nat) : EnvPar (E12 n) := envPar0 (consPhi_par phiOf_Par1 (consPhi_par phiOf_Par1 (consPhi_par phiOf_Par1 (consPhi_par phiOf_Par1 (consPhi_par phiOf_Par1 noPhi_par))))) rfl
theorem FC12 (n : Nat × Nat) : FCs Try.prog 12 (P12 n) := phiOf_FCs fun xs r h vs hv => FC.of_runG tabOK eqsOK (env12 n) (par12 n) mixed (fun _ => noScope_ok) Try.func12 (c := c12) (an := an12) (pks := pk12) (rks := rk12) (by kernel_rfl) (by kernel_rfl) hv ((S12_run n xs).symm.trans h)
end Go.Proofs.Ytjgmfdgpgdaclaa
set_option linter.unusedVariables false
set_option linter.unusedSimpArgs false
set_option maxRecDepth 100000
namespace Go.Proofs.Ytjgmfdgpgdaclaa
open Go.Vi
/-D 12 -/
noncomputable def DL12_2 (n : Nat × Nat) (f1 : Int → Int → Int → Int → Int → List Int → List Int → Option R12) (s6 : Int) (top7 : Int) (pay9 : Int) (back10 : Int) (x11 : Int) (coins5 : List Int) (l8 : List Int) : Option R12 :=
    f1 s6 top7 pay9 back10 (wr .i64 (x11 + 1)) coins5 l8
theorem DL12_2_eq (n : Nat × Nat) (hn : n.2 = 1) (m1 : Nat) : L12_2 n m1 = DL12_2 n (L12_1 n m1) := by
  funext s6 top7 pay9 back10 x11 coins5 l8; refine ((held_eq hn _).trans (L12_2_raw n m1 s6 top7 pay9 back10 x11 coins5 l8)).trans ?_
  unfold DL12_2
  (try simp only [S17_D n hn, S18_D n hn, S39_D n hn, S43_D n hn, S44_D n hn]) <;> first | with_reducible rfl | rfl
noncomputable def DF12_1 (n : Nat × Nat) (f1 : Int → Int → Int → Int → Int → List Int → List Int → Option R12) (s6 : Int) (top7 : Int) (pay9 : Int) (back10 : Int) (x11 : Int) (coins5 : List Int) (l8 : List Int) : Option R12 :=
    (bif decide (x11 ≤ top7) then (bif inB (wr .i64 (s6 + x11)) l8.length then (idx l8 (wr .i64 (s6 + x11))).bind fun x5' =>
        (bif inB x11 l8.length then (idx l8 x11).bind fun x6' =>
          ((bif (decide (wr .i64 (x5' + x6') < wr .i64 (pay9 + back10)) == false) then ((bif (((wr .i64 (x5' + x6')) == (wr .i64 (pay9 + back10))) == true) then (bif inB x11 l8.length then (idx l8 x11).bind fun x7' =>
                    some (decide (x7' < back10))
                  else none)
                else some false)).bind fun b8' =>
              some b8'
            else some true)).bind fun b9' =>
          (bif b9' then (bif inB (wr .i64 (s6 + x11)) l8.length then (idx l8 (wr .i64 (s6 + x11))).bind fun x10' =>
              (bif inB x11 l8.length then (idx l8 x11).bind fun x11' =>
                DL12_2 n f1 s6 top7 x10' x11' x11 coins5 l8
              else none)
            else none)
          else DL12_2 n f1 s6 top7 pay9 back10 x11 coins5 l8)
        else none)
      else none)
    else (D39 n coins5 s6).bind fun r12' =>
      (D18 n coins5 s6).bind fun r13' =>
      ((bif ((r12'.2.2 == 0) == true) then some (r13'.2 == 0)
        else some false)).bind fun b14' =>
      ((bif (b14' == true) then some (r12'.1 == pay9)
        else some false)).bind fun b15' =>
      ((bif (b15' == true) then some (r12'.2.1 == back10)
        else some false)).bind fun b16' =>
      ((bif (b16' == true) then some (decide (wr .i64 (r12'.1 + r12'.2.1) ≤ r13'.1))
        else some false)).bind fun b17' =>
      ((bif (b17' == true) then ((bif (decide (wr .i64 (r12'.1 + r12'.2.1) < r13'.1) == false) then some (r12'.2.1 == 0)
            else some true)).bind fun b18' =>
          some b18'
        else some false)).bind fun b19' =>
      ((bif (b19' == true) then (D17 n).bind fun r20' =>
          some r20'
        else some false)).bind fun b21' =>
      some b21')
noncomputable def DL12_1 (n : Nat × Nat) (m : Nat) : Int → Int → Int → Int → Int → List Int → List Int → Option R12 := Nat.rec (motive := fun _ => Int → Int → Int → Int → Int → List Int → List Int → Option R12) (fun _ _ _ _ _ _ _ => none) (fun _ ih => DF12_1 n ih) m
theorem DL12_1_succ (n : Nat × Nat) (m : Nat) : DL12_1 n (m + 1) = DF12_1 n (DL12_1 n m) := rfl
theorem DL12_1_eq (n : Nat × Nat) (hn : n.2 = 1) : ∀ m, L12_1 n m = DL12_1 n m
  | 0 => by funext s6 top7 pay9 back10 x11 coins5 l8; kernel_rfl
  | m + 1 => by
    have ih := DL12_1_eq n hn m
    funext s6 top7 pay9 back10 x11 coins5 l8; refine (L12_1_eq n m s6 top7 pay9 back10 x11 coins5 l8).trans ?_
    rw [DL12_1_succ]
    unfold DF12_1
    (try simp only [ih, DL12_2_eq n hn, S17_D n hn, S18_D n hn, S39_D n hn, S43_D n hn, S44_D n hn]) <;> first | with_reducible rfl | rfl
noncomputable def D12 (n : Nat × Nat) (m0 : Int × Int × Int × Int × Int × Int) (sum1 : Int) : Option R12 :=
    (D43 n m0 6 40).bind fun r1' =>
    (bif 201 == 0 then none
    else (bif inB (wr .i64 ((r1'.length : Int) - 1)) r1'.length then (idx r1' (wr .i64 ((r1'.length : Int) - 1))).bind fun x2' =>
        (D44 n r1' (wr .i64 ((Int.tmod (wr .i64 sum1) 201) + x2'))).bind fun r3' =>
        (bif inB (Int.tmod (wr .i64 sum1) 201) r3'.length then (idx r3' (Int.tmod (wr .i64 sum1) 201)).bind fun x4' =>
          DL12_1 n n.1 (Int.tmod (wr .i64 sum1) 201) x2' x4' 0 1 r1' r3'
        else none)
      else none))
theorem S12_D (n : Nat × Nat) (hn : n.2 = 1) : S12 n = D12 n := by
  funext m0 sum1; refine (S12_eq n m0 sum1).trans ?_
  unfold D12
  (try simp only [DL12_2_eq n hn, DL12_1_eq n hn, S17_D n hn, S18_D n hn, S39_D n hn, S43_D n hn, S44_D n hn]) <;> first | with_reducible rfl | rfl
end Go.Proofs.Ytjgmfdgpgdaclaa
/-
  Coins: the law CoinChange.
-/
set_option linter.unusedVariables false
set_option linter.unusedSimpArgs false
namespace Go.Proofs.Ytjgmfdgpgdaclaa
open Go.Vi
theorem lchg_loop {cs : List Int} (hv : Vld cs) (s M L : Nat) (hs : s ≤ 200) (hLc : (L : Int) = lastC cs) (hM : M ≤ 900) (hL : s + L ≤ M) : ∀ (m x : Nat) (pay back : Int), 1 ≤ x → x ≤ L + 1 → L + 1 - x < m → 0 ≤ pay → pay ≤ 1000 → 0 ≤ back → back ≤ 1000 → chgL cs s (L + 1 - x) x pay back = chgL cs s L 1 (opt cs s) 0 →
    DL12_1 N m (s : Int) (L : Int) pay back (x : Int) cs (ftab cs M) = some true
  | 0, x, pay, back, _, _, h, _, _, _, _, _ => by omega
  | m + 1, x, pay, back, hx1, hx, h, p0, p1, b0, b1, heq => by
    rw [DL12_1_succ]
    unfold DF12_1
    by_cases hlt : x < L + 1
    · have hxl : x < (ftab cs M).length := by rw [ftab_length]; omega
      have hsl : s + x < (ftab cs M).length := by rw [ftab_length]; omega
      rw [decide_eq_true (show (x : Int) ≤ (L : Int) by omega), cond_true]
      rw [show wr .i64 ((s : Int) + (x : Int)) = ((s + x : Nat) : Int) by rw [wr_ok (by omega) (by omega)]; omega, inB_nat hsl, cond_true, idx_nat hsl, ftab_get]
      simp only [Option.bind_some]
      rw [inB_nat hxl, cond_true, idx_nat hxl, ftab_get]
      simp only [Option.bind_some, DL12_2]
      have o1 := opt_nonneg hv.mnt (s := ((s + x : Nat) : Int)) (by omega)
      have o2 := opt_self hv.mnt (s := ((s + x : Nat) : Int)) (by omega)
      have o3 := opt_nonneg hv.mnt (s := (x : Int)) (by omega)
      have o4 := opt_self hv.mnt (s := (x : Int)) (by omega)
      rw [show L + 1 - x = (L + 1 - (x + 1)) + 1 by omega] at heq
      simp only [chgL] at heq
      rw [show (s : Int) + (x : Int) = ((s + x : Nat) : Int) by omega] at heq
      have ih := lchg_loop hv s M L hs hLc hM hL m (x + 1)
      have hw1 : wr .i64 ((x : Int) + 1) = ((x + 1 : Nat) : Int) := by rw [wr_ok (by omega) (by omega)]; omega
      rw [show ((x : Int) + 1) = ((x + 1 : Nat) : Int) by omega] at heq
      rw [hw1]
      generalize opt cs ((s + x : Nat) : Int) = a at *
      generalize opt cs (x : Int) = b at *
      rw [wr_ok (x := a + b) (by omega) (by omega), wr_ok (x := pay + back) (by omega) (by omega)]
      by_cases c1 : a + b < pay + back
      · rw [if_pos (.inl c1)] at heq
        rw [decide_eq_true c1]
        simp only [show (true == false) = false from rfl, cond_false, Option.bind_some, cond_true]
        exact ih a b (by omega) (by omega) (by omega) o1 (by omega) o3 (by omega) heq
      · rw [decide_eq_false c1]
        simp only [show (false == false) = true from rfl, cond_true]
        by_cases c2 : a + b = pay + back
        · rw [show (a + b == pay + back) = true by simpa using c2]
          simp only [show (true == true) = true from rfl, cond_true, Option.bind_some]
          by_cases c3 : b < back
          · rw [if_pos (.inr ⟨c2, c3⟩)] at heq
            rw [decide_eq_true c3]
            simp only [cond_true]
            exact ih a b (by omega) (by omega) (by omega) o1 (by omega) o3 (by omega) heq
          · rw [if_neg (by omega)] at heq
            rw [decide_eq_false c3]
            simp only [cond_false]
            exact ih pay back (by omega) (by omega) (by omega) p0 p1 b0 b1 heq
        · rw [if_neg (by omega)] at heq
          rw [show (a + b == pay + back) = false by simpa using c2]
          simp only [show (false == true) = false from rfl, cond_false, Option.bind_some]
          exact ih pay back (by omega) (by omega) (by omega) p0 p1 b0 b1 heq
    · rw [decide_eq_false (show ¬ (x : Int) ≤ (L : Int) by omega), cond_false]
      rw [show L + 1 - x = 0 by omega] at heq
      simp only [chgL] at heq
      have hsm := smd_ok hv (s := (s : Int)) (by omega) (by omega)
      have hbd := chgL_bd (cs := cs) (s := (s : Int)) (P := opt cs s) L 1 (opt cs s) 0 (by omega) (.inr rfl) (fun _ => .inr trivial)
      rw [← heq] at hbd
      rw [change_eq hN1, fewS_eq hN1, works_eq]
      unfold changeS fewS
      rw [if_neg (by simpa using hsm), if_neg (by simpa using hsm), ← hLc, Int.toNat_natCast, ← heq]
      have hbd2 : pay + back ≤ opt cs s ∧ (pay + back < opt cs s ∨ back = 0) := by
        rcases hbd with h | ⟨y, hy⟩
        · exact h
        · by_cases h0 : 0 ≤ y
          · have := opt_nonneg hv.mnt h0; omega
          · exfalso
            unfold opt at hy
            split at hy
            · omega
            · omega
      simp only [Option.bind_some, beq_self_eq_true, cond_true]
      rw [wr_ok (x := pay + back) (by omega) (by omega), decide_eq_true hbd2.1]
      simp only [cond_true, Option.bind_some, beq_self_eq_true]
      rcases hbd2.2 with h | h
      · rw [decide_eq_true h]; rfl
      · by_cases h3 : pay + back < opt cs s
        · rw [decide_eq_true h3]; rfl
        · rw [decide_eq_false h3, h]; rfl
theorem change_ok (xs : pksDen (pks [ShM, .int .u8])) (h : WfL [ShM, .int .u8] xs) : ∃ n, S12 n xs.1 xs.2.1 = some true := by
  refine ⟨N, ?_⟩
  rw [S12_D N rfl]
  unfold D12
  obtain ⟨cs, g1, hv, g3, g4⟩ := made_eq hN1 (m0 := xs.1) h.1 (many := 6) (most := 40) (by omega) (by omega) (by omega) (by omega)
  rw [g1]
  simp only [Option.bind_some]
  rw [show ((201 : Nat) == 0) = false from rfl, cond_false, inB_last hv.pos (by have := hv.len; omega), cond_true, idx_last hv.pos (by have := hv.len; omega)]
  simp only [Option.bind_some]
  obtain ⟨t1, t2, t3⟩ := tmod_u8 (u8_rng h.2.1) (k := 201) (by omega)
  rw [t1]
  have hd := lastC_rng hv
  obtain ⟨s, hs⟩ := Int.eq_ofNat_of_zero_le t2
  obtain ⟨L, hL⟩ := Int.eq_ofNat_of_zero_le (show 0 ≤ lastC cs by omega)
  rw [hs] at t3 ⊢
  have hLc : (L : Int) = lastC cs := hL.symm
  rw [hL] at hd ⊢
  rw [show wr .i64 ((s : Int) + (L : Int)) = ((s + L : Nat) : Int) by rw [wr_ok (by omega) (by omega)]; omega, ofew_eq hv (s + L) (by omega)]
  simp only [Option.bind_some]
  have hsl : s < (ftab cs (s + L)).length := by rw [ftab_length]; omega
  rw [inB_nat hsl, cond_true, idx_nat hsl, ftab_get]
  simp only [Option.bind_some]
  have o1 := opt_nonneg hv.mnt (s := (s : Int)) (by omega)
  have o2 := opt_self hv.mnt (s := (s : Int)) (by omega)
  exact lchg_loop hv s (s + L) L (by omega) hLc (by omega) (Nat.le_refl _) N.1 1 (opt cs s) 0 (Nat.le_refl 1) (by omega) (by show L + 1 - 1 < 10000; omega) o1 (by omega) (Int.le_refl 0) (by omega) (by rw [show L + 1 - 1 = L by omega]; rfl)
end Go.Proofs.Ytjgmfdgpgdaclaa
