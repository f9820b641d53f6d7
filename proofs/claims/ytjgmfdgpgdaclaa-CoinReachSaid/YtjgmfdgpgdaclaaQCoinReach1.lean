/- Texts of this claim, joined: G11 to Co11. -/
import Derived.KernelRfl
import Derived.Test.YtjgmfdgpgdaclaaProg
import Derived.WalkKit
import Derived.Test.YtjgmfdgpgdaclaaP8
set_option linter.unusedVariables false
set_option linter.unusedSimpArgs false
set_option maxRecDepth 100000
namespace Go.Proofs.Ytjgmfdgpgdaclaa
open Go.Vi
/- headword/headwordlaw12.CoinReach -/
abbrev R11 := Bool
noncomputable def c11 : Code := bodyOf Try.f11
noncomputable def an11 : Ann := (.s .l (.s .l (.s .l (.s .l (.s .l (.s .l (.s .l (.s .l (.s (.j [7, 8, 10, 11, 12, 13, 14, 63, 64, 67, 68, 69, 72, 73, 74, 88, 93, 94, 95, 98] (.j [7, 8, 10, 11, 12, 13, 14, 15, 63, 64, 67, 68, 69, 72, 73, 74, 88, 93, 94, 95, 98] (.s (.s .l (.j [7, 8, 10, 11, 12, 13, 14, 15, 63, 64, 67, 68, 69, 72, 73, 74, 88, 93, 94, 95, 98] .l .l)) (.j [7, 8, 10, 11, 12, 13, 14, 15, 63, 64, 67, 68, 69, 72, 73, 74, 88, 93, 94, 95, 98] .l .l)) .l) .l) (.s (.s .l (.j [7, 8, 10, 88, 93, 94, 95, 98] .l .l)) (.s .l (.s (.s .l (.j [10, 11, 16, 93, 94, 95, 98] .l .l)) .l))))))))))))
def pk11 : List PK := [.c (.pair (.int .u8) (.pair (.int .u8) (.pair (.int .u8) (.pair (.int .u8) (.pair (.int .u8) (.int .u8)))))), .c (.int .u8), .c (.int .u8)]
def rk11 : List RK := [.c .bool 6]
noncomputable def rt11 (st : St) : Option R11 := rtG rk11 st
noncomputable def E11 (n : Nat × Nat) : Env := { T := tab, phi := (consPhi 17 (fun _ => true) (P17 n) (consPhi 35 (fun _ => true) (P35 n) (consPhi 43 (fun _ => true) (P43 n) (consPhi 44 (fun _ => true) (P44 n) (consPhi 46 (fun _ => true) (P46 n) noPhi))))), eff := fun _ => false, fuel := n.1, hold := n.2 }
noncomputable def kq11_1 (n : Nat × Nat) : St → Option R11 := run (E11 n) (cB (cB (cB (cB (cB (cB (cB (cB (cB c11))))))))) (Ann.snd (Ann.snd (Ann.snd (Ann.snd (Ann.snd (Ann.snd (Ann.snd (Ann.snd (Ann.snd an11))))))))) rt11 (fun _ _ => none) rt11
noncomputable def kc11_2 (n : Nat × Nat) : St → Option R11 := fun s => normC [7, 8, 10, 11, 12, 13, 14, 63, 64, 67, 68, 69, 72, 73, 74, 88, 93, 94, 95, 98] s (kq11_1 n)
noncomputable def xb11_3 (n : Nat × Nat) : Nat → St → Option R11 := fun j s => bif Nat.beq j 0 then normC [7, 8, 10, 11, 12, 13, 14, 63, 64, 67, 68, 69, 72, 73, 74, 88, 93, 94, 95, 98] s (kq11_1 n) else (fun _ _ => none) j s
noncomputable def F11_4 (n : Nat × Nat) : (St → Option R11) → St → Option R11 := fun K s => run (E11 n) (cA (cA (cA (cB (cB (cB (cB (cB (cB (cB (cB c11))))))))))) (Ann.fst (Ann.fst (Ann.fst (Ann.snd (Ann.snd (Ann.snd (Ann.snd (Ann.snd (Ann.snd (Ann.snd (Ann.snd an11))))))))))) (fun s => normC [7, 8, 10, 11, 12, 13, 14, 15, 63, 64, 67, 68, 69, 72, 73, 74, 88, 93, 94, 95, 98] s K) (xb11_3 n) rt11 s
noncomputable def kq11_5 (n : Nat × Nat) (m1 : Nat) : St → Option R11 := run (E11 n) (cB (cA (cA (cA (cB (cB (cB (cB (cB (cB (cB (cB c11)))))))))))) (Ann.snd (Ann.fst (Ann.fst (Ann.fst (Ann.snd (Ann.snd (Ann.snd (Ann.snd (Ann.snd (Ann.snd (Ann.snd (Ann.snd an11)))))))))))) (fun s => normC [7, 8, 10, 11, 12, 13, 14, 15, 63, 64, 67, 68, 69, 72, 73, 74, 88, 93, 94, 95, 98] s (loopN (F11_4 n) m1)) (xb11_3 n) rt11
noncomputable def kc11_6 (n : Nat × Nat) (m1 : Nat) : St → Option R11 := fun s => normC [7, 8, 10, 11, 12, 13, 14, 15, 63, 64, 67, 68, 69, 72, 73, 74, 88, 93, 94, 95, 98] s (kq11_5 n m1)
noncomputable def kc11_7 (n : Nat × Nat) (m1 : Nat) : St → Option R11 := fun s => normC [7, 8, 10, 11, 12, 13, 14, 15, 63, 64, 67, 68, 69, 72, 73, 74, 88, 93, 94, 95, 98] s (fun s => normC [7, 8, 10, 11, 12, 13, 14, 15, 63, 64, 67, 68, 69, 72, 73, 74, 88, 93, 94, 95, 98] s (loopN (F11_4 n) m1))
noncomputable def xb11_8 (n : Nat × Nat) (m1 : Nat) : Nat → St → Option R11 := fun j s => bif Nat.beq j 1 then normC [7, 8, 10, 11, 12, 13, 14, 15, 63, 64, 67, 68, 69, 72, 73, 74, 88, 93, 94, 95, 98] s (fun s => normC [7, 8, 10, 11, 12, 13, 14, 15, 63, 64, 67, 68, 69, 72, 73, 74, 88, 93, 94, 95, 98] s (loopN (F11_4 n) m1)) else (xb11_3 n) j s
noncomputable def kq11_9 (n : Nat × Nat) : St → Option R11 := run (E11 n) (cB (cB (cB (cB (cB (cB (cB (cB (cB (cB c11)))))))))) (Ann.snd (Ann.snd (Ann.snd (Ann.snd (Ann.snd (Ann.snd (Ann.snd (Ann.snd (Ann.snd (Ann.snd an11)))))))))) rt11 (fun _ _ => none) rt11
noncomputable def kc11_10 (n : Nat × Nat) : St → Option R11 := fun s => normC [7, 8, 10, 88, 93, 94, 95, 98] s (kq11_9 n)
noncomputable def kq11_11 (n : Nat × Nat) : St → Option R11 := run (E11 n) (cB (cB (cB (cB (cB (cB (cB (cB (cB (cB (cB (cB c11)))))))))))) (Ann.snd (Ann.snd (Ann.snd (Ann.snd (Ann.snd (Ann.snd (Ann.snd (Ann.snd (Ann.snd (Ann.snd (Ann.snd (Ann.snd an11)))))))))))) rt11 (fun _ _ => none) rt11
noncomputable def kc11_12 (n : Nat × Nat) : St → Option R11 := fun s => normC [10, 11, 16, 93, 94, 95, 98] s (kq11_11 n)
noncomputable def L11_1 (n : Nat × Nat) (m : Nat) (v8 : Int) (r10 : Int) (e11 : Int) (more12 : Int) (f13 : Int) (want14 : Int) (coins7 : List Int) (l15 : List Int) : Option R11 := loopN (F11_4 n) m { tm := [uu, uu, uu, uu, uu, uu, uu, .own 7 none false, .c (.int .i64 v8), uu, .c (.int .i64 r10), .c (.int .i64 e11), .c (.int .i64 more12), .c (.int .i64 f13), .c (.int .i64 want14), .own 15 none false, uu, uu, uu, uu, uu, uu, uu, uu, uu, uu, uu, uu, uu, uu, uu, uu, uu, uu, uu, uu, uu, uu, uu, uu, uu, uu, uu, uu, uu, uu, uu, uu, uu, uu, uu, uu, uu, uu, uu, uu, uu, uu, uu, uu, uu, uu, uu, uu, uu, uu, uu, uu, uu, uu, uu, uu, uu, uu, uu, uu, uu, uu, uu, uu, uu, uu, uu, uu, uu, uu, uu, uu, uu, uu, uu, uu, uu, uu, uu, uu, uu, uu, uu, uu], hp := (upd (upd emp 15 (.arr (.int .i64) l15 false)) 7 (.arr (.int .i64) coins7 false)) }
theorem L11_1_eq (n : Nat × Nat) (m1 : Nat) (v8 : Int) (r10 : Int) (e11 : Int) (more12 : Int) (f13 : Int) (want14 : Int) (coins7 : List Int) (l15 : List Int) : L11_1 n (m1 + 1) v8 r10 e11 more12 f13 want14 coins7 l15 =
    (bif inB (wr .i64 (want14 + 1)) l15.length then (idx l15 (wr .i64 (want14 + 1))).bind fun x7' =>
      (bif decide (x7' ≤ v8) then L11_1 n m1 v8 r10 e11 more12 f13 (wr .i64 (want14 + 1)) coins7 l15
      else ((bif ((e11 != 0) == false) then some (f13 != 0)
          else some true)).bind fun b8' =>
        ((bif (b8' == false) then some (r10 != want14)
          else some true)).bind fun b9' =>
        ((bif (b9' == false) then some (decide (more12 < r10))
          else some true)).bind fun b10' =>
        (bif b10' then some false
        else (S35 n coins7 (wr .i64 (v8 + 1))).bind fun r11' =>
          (bif (v8 == 5) then ((bif ((r11'.2 == 1) == true) then (S17 n).bind fun r12' =>
                some r12'
              else some false)).bind fun b13' =>
            some b13'
          else ((bif ((r11'.2 == 0) == true) then some (decide (r11'.1 > r10))
              else some false)).bind fun b14' =>
            ((bif (b14' == true) then (S17 n).bind fun r15' =>
                some r15'
              else some false)).bind fun b16' =>
            some b16')))
    else none) := by kernel_rfl
noncomputable def S11 (n : Nat × Nat) (m0 : Int × Int × Int × Int × Int × Int) (step1 : Int) (many2 : Int) : Option R11 := run (E11 n) c11 an11 rt11 (fun _ _ => none) rt11 { tm := [.agg [.int .u8 m0.1, .int .u8 m0.2.1, .int .u8 m0.2.2.1, .int .u8 m0.2.2.2.1, .int .u8 m0.2.2.2.2.1, .int .u8 m0.2.2.2.2.2], .c (.int .u8 step1), .c (.int .u8 many2), uu, uu, uu, uu, uu, uu, uu, uu, uu, uu, uu, uu, uu, uu, uu, uu, uu, uu, uu, uu, uu, uu, uu, uu, uu, uu, uu, uu, uu, uu, uu, uu, uu, uu, uu, uu, uu, uu, uu, uu, uu, uu, uu, uu, uu, uu, uu, uu, uu, uu, uu, uu, uu, uu, uu, uu, uu, uu, uu, uu, uu, uu, uu, uu, uu, uu, uu, uu, uu, uu, uu, uu, uu, uu, uu, uu, uu, uu, uu, uu, uu, uu, uu, uu, uu, uu, uu, uu, uu, uu, uu, uu, uu, uu, uu, uu, uu], hp := emp }
theorem S11_eq (n : Nat × Nat) (m0 : Int × Int × Int × Int × Int × Int) (step1 : Int) (many2 : Int) : S11 n m0 step1 many2 =
    (S43 n m0 5 30).bind fun r1' =>
    (bif 6 == 0 then none
    else (bif inB (wr .i64 ((r1'.length : Int) - 1)) r1'.length then (idx r1' (wr .i64 ((r1'.length : Int) - 1))).bind fun x2' =>
        (bif 10 == 0 then none
        else (S35 n r1' (Int.tmod (wr .i64 many2) 6)).bind fun r3' =>
          (S46 n r1').bind fun r4' =>
          (bif decide (r4'.length + [wr .i64 ((wr .i64 (x2' + 1)) + (Int.tmod (wr .i64 step1) 10))].length ≤ lim) then (S35 n (r4' ++ [wr .i64 ((wr .i64 (x2' + 1)) + (Int.tmod (wr .i64 step1) 10))]) (Int.tmod (wr .i64 many2) 6)).bind fun r5' =>
            (S44 n r1' 240).bind fun r6' =>
            L11_1 n n.1 (Int.tmod (wr .i64 many2) 6) r3'.1 r3'.2 r5'.1 r5'.2 0 r1' r6'
          else none))
      else none)) := by kernel_rfl
theorem S11_run (n : Nat × Nat) (xs : pksDen pk11) : S11 n xs.1 xs.2.1 xs.2.2.1 = runG (E11 n) noScope c11 an11 (rtG rk11) (fun _ _ => none) (rtG rk11) (st0 pk11 xs Try.f11.ntmps) := by kernel_rfl
noncomputable def P11 (n : Nat × Nat) := phiOf pk11 rk11 (fun xs => S11 n xs.1 xs.2.1 xs.2.2.1)
theorem call11 : CallOK Try.prog 11 := callOK_of Try.func11 (by kernel_rfl) (by kernel_rfl)
theorem env11 (n : Nat × Nat) : EnvOK Try.prog (E11 n) := envOK0 (consPhi_ok (FC17 n) call17 (consPhi_ok (FC35 n) call35 (consPhi_ok (FC43 n) call43 (consPhi_ok (FC44 n) call44 (consPhi_ok (FC46 n) call46 noPhi_ok))))) rfl rfl
theorem par11 (n : Nat × Nat) : EnvPar (E11 n) := envPar0 (consPhi_par phiOf_Par1 (consPhi_par phiOf_Par1 (consPhi_par phiOf_Par1 (consPhi_par phiOf_Par1 (consPhi_par phiOf_Par1 noPhi_par))))) rfl
theorem FC11 (n : Nat × Nat) : FCs Try.prog 11 (P11 n) := phiOf_FCs fun xs r h vs hv => FC.of_runG tabOK eqsOK (env11 n) (par11 n) mixed (fun _ => noScope_ok) Try.func11 (c := c11) (an := an11) (pks := pk11) (rks := rk11) (by kernel_rfl) (by kernel_rfl) hv ((S11_run n xs).symm.trans h)
end Go.Proofs.Ytjgmfdgpgdaclaa
set_option linter.unusedVariables false
set_option linter.unusedSimpArgs false
set_option maxRecDepth 100000
namespace Go.Proofs.Ytjgmfdgpgdaclaa
open Go.Vi
/-D 11 -/
noncomputable def DF11_1 (n : Nat × Nat) (f1 : Int → Int → Int → Int → Int → Int → List Int → List Int → Option R11) (v8 : Int) (r10 : Int) (e11 : Int) (more12 : Int) (f13 : Int) (want14 : Int) (coins7 : List Int) (l15 : List Int) : Option R11 :=
    (bif inB (wr .i64 (want14 + 1)) l15.length then (idx l15 (wr .i64 (want14 + 1))).bind fun x7' =>
      (bif decide (x7' ≤ v8) then f1 v8 r10 e11 more12 f13 (wr .i64 (want14 + 1)) coins7 l15
      else ((bif ((e11 != 0) == false) then some (f13 != 0)
          else some true)).bind fun b8' =>
        ((bif (b8' == false) then some (r10 != want14)
          else some true)).bind fun b9' =>
        ((bif (b9' == false) then some (decide (more12 < r10))
          else some true)).bind fun b10' =>
        (bif b10' then some false
        else (D35 n coins7 (wr .i64 (v8 + 1))).bind fun r11' =>
          (bif (v8 == 5) then ((bif ((r11'.2 == 1) == true) then (D17 n).bind fun r12' =>
                some r12'
              else some false)).bind fun b13' =>
            some b13'
          else ((bif ((r11'.2 == 0) == true) then some (decide (r11'.1 > r10))
              else some false)).bind fun b14' =>
            ((bif (b14' == true) then (D17 n).bind fun r15' =>
                some r15'
              else some false)).bind fun b16' =>
            some b16')))
    else none)
noncomputable def DL11_1 (n : Nat × Nat) (m : Nat) : Int → Int → Int → Int → Int → Int → List Int → List Int → Option R11 := Nat.rec (motive := fun _ => Int → Int → Int → Int → Int → Int → List Int → List Int → Option R11) (fun _ _ _ _ _ _ _ _ => none) (fun _ ih => DF11_1 n ih) m
theorem DL11_1_succ (n : Nat × Nat) (m : Nat) : DL11_1 n (m + 1) = DF11_1 n (DL11_1 n m) := rfl
theorem DL11_1_eq (n : Nat × Nat) (hn : n.2 = 1) : ∀ m, L11_1 n m = DL11_1 n m
  | 0 => by funext v8 r10 e11 more12 f13 want14 coins7 l15; kernel_rfl
  | m + 1 => by
    have ih := DL11_1_eq n hn m
    funext v8 r10 e11 more12 f13 want14 coins7 l15; refine (L11_1_eq n m v8 r10 e11 more12 f13 want14 coins7 l15).trans ?_
    rw [DL11_1_succ]
    unfold DF11_1
    (try simp only [ih, S17_D n hn, S35_D n hn, S43_D n hn, S44_D n hn, S46_D n hn]) <;> first | with_reducible rfl | rfl
noncomputable def D11 (n : Nat × Nat) (m0 : Int × Int × Int × Int × Int × Int) (step1 : Int) (many2 : Int) : Option R11 :=
    (D43 n m0 5 30).bind fun r1' =>
    (bif 6 == 0 then none
    else (bif inB (wr .i64 ((r1'.length : Int) - 1)) r1'.length then (idx r1' (wr .i64 ((r1'.length : Int) - 1))).bind fun x2' =>
        (bif 10 == 0 then none
        else (D35 n r1' (Int.tmod (wr .i64 many2) 6)).bind fun r3' =>
          (D46 n r1').bind fun r4' =>
          (bif decide (r4'.length + [wr .i64 ((wr .i64 (x2' + 1)) + (Int.tmod (wr .i64 step1) 10))].length ≤ lim) then (D35 n (r4' ++ [wr .i64 ((wr .i64 (x2' + 1)) + (Int.tmod (wr .i64 step1) 10))]) (Int.tmod (wr .i64 many2) 6)).bind fun r5' =>
            (D44 n r1' 240).bind fun r6' =>
            DL11_1 n n.1 (Int.tmod (wr .i64 many2) 6) r3'.1 r3'.2 r5'.1 r5'.2 0 r1' r6'
          else none))
      else none))
theorem S11_D (n : Nat × Nat) (hn : n.2 = 1) : S11 n = D11 n := by
  funext m0 step1 many2; refine (S11_eq n m0 step1 many2).trans ?_
  unfold D11
  (try simp only [DL11_1_eq n hn, S17_D n hn, S35_D n hn, S43_D n hn, S44_D n hn, S46_D n hn]) <;> first | with_reducible rfl | rfl
end Go.Proofs.Ytjgmfdgpgdaclaa
/-
  Coins: the law CoinReach.
-/
set_option linter.unusedVariables false
set_option linter.unusedSimpArgs false
namespace Go.Proofs.Ytjgmfdgpgdaclaa
open Go.Vi
/-- How far all sums are paid with so many coins. -/
def far (cs : List Int) (k : Nat) : Int := upTo (rs cs k) 300 0
theorem far_spec {cs : List Int} (hv : Vld cs) {k : Nat} (hk : k ≤ 5) : 0 ≤ far cs k ∧ far cs k ≤ 200 ∧ (∀ x, 0 < x → x ≤ far cs k → opt cs x ≤ k) ∧ (k : Int) < opt cs (far cs k + 1) := by
  obtain ⟨a, b, c, d⟩ := upTo_spec (rs cs k) 300 0
  have c' : ∀ x, 0 < x → x ≤ far cs k → opt cs x ≤ k := fun x h1 h2 => by
    have := c x h1 h2
    rw [rs_opt hv.mnt (by omega)] at this
    simpa using this
  have h200 : far cs k ≤ 200 := by
    refine Int.not_lt.1 fun hlt => ?_
    have h1 := c' (far cs k) (by omega) (Int.le_refl _)
    have h2 := opt_top hv (s := far cs k) (by omega)
    omega
  refine ⟨a, h200, c', ?_⟩
  have := d (by show far cs k < _; omega)
  rw [rs_opt hv.mnt (by omega)] at this
  have := of_decide_eq_false this
  show (k : Int) < opt cs (upTo (rs cs k) 300 0 + 1)
  omega
theorem far_ge {cs : List Int} (hv : Vld cs) {k : Nat} {v : Int} (h0 : 0 ≤ v) (h3 : v ≤ 300) (h : ∀ x, 0 < x → x ≤ v → opt cs x ≤ k) : v ≤ far cs k :=
  upTo_ge _ (fun x h1 h2 => by rw [rs_opt hv.mnt (by omega)]; simpa using h x h1 h2) (by omega) h0
theorem reachS_ok {cs : List Int} (hv : Vld cs) {k : Nat} (hk : k ≤ 5) : reachS cs (k : Int) = (far cs k, 0) := by
  unfold reachS
  rw [if_neg (by simpa using vld_chk hv), if_neg (by omega), Int.toNat_natCast]
  rfl
theorem reach_end {cs : List Int} (hv : Vld cs) (k : Nat) (hk : k ≤ 5) (r more : Int) (hr : r = far cs k) (hm : r ≤ more) : ∀ (m w : Nat), (w : Int) ≤ far cs k → far cs k - w < m → DL11_1 N m (k : Int) r 0 more 0 (w : Int) cs (ftab cs 240) = some true
  | 0, w, h, h2 => by omega
  | m + 1, w, h, h2 => by
    obtain ⟨f0, f1, f2, f3⟩ := far_spec hv hk
    rw [DL11_1_succ]
    unfold DF11_1
    have hwl : w + 1 < (ftab cs 240).length := by rw [ftab_length]; omega
    rw [show wr .i64 ((w : Int) + 1) = ((w + 1 : Nat) : Int) by rw [wr_ok (by omega) (by omega)]; omega, inB_nat hwl, cond_true, idx_nat hwl, ftab_get]
    simp only [Option.bind_some]
    by_cases hlt : (w : Int) < far cs k
    · have := f2 ((w + 1 : Nat) : Int) (by omega) (by omega)
      rw [decide_eq_true this, cond_true]
      exact reach_end hv k hk r more hr hm m (w + 1) (by omega) (by omega)
    · have hw : (w : Int) = far cs k := by omega
      rw [show ((w + 1 : Nat) : Int) = far cs k + 1 by omega, decide_eq_false (by omega), cond_false]
      simp only [show ((0 : Int) != 0) = false from rfl, show (false == false) = true from rfl, cond_true, Option.bind_some]
      rw [show (r != (w : Int)) = false by simp; omega]
      simp only [show (false == false) = true from rfl, cond_true, Option.bind_some]
      rw [decide_eq_false (show ¬ more < r by omega)]
      simp only [cond_false]
      rw [wr_ok (by omega) (by omega), reach_eq hN1]
      simp only [Option.bind_some]
      rw [works_eq]
      by_cases h5 : k = 5
      · subst h5
        have he : reachS cs (((5 : Nat) : Int) + 1) = (0, 1) := by
          unfold reachS
          rw [if_neg (by simpa using vld_chk hv), if_pos (by omega)]
        rw [he]
        rfl
      · have he : reachS cs ((k : Int) + 1) = (far cs (k + 1), 0) := by
          have := reachS_ok hv (k := k + 1) (by omega)
          rwa [show ((k + 1 : Nat) : Int) = (k : Int) + 1 by omega] at this
        rw [he, show ((k : Int) == 5) = false by simpa using (show ¬ (k : Int) = 5 by omega)]
        have hgt : far cs k + 1 ≤ far cs (k + 1) := far_ge hv (by omega) (by omega) (fun x h1 h2 => by
          by_cases e : x ≤ far cs k
          · have := f2 x h1 e; omega
          · obtain rfl : x = far cs k + 1 := by omega
            have h8 := opt_more hv.mnt hv.mnt.one (s := far cs k) f0
            by_cases e0 : far cs k = 0
            · rw [e0, opt_zero hv.mnt] at h8; rw [e0]; omega
            · have := f2 (far cs k) (by omega) (Int.le_refl _); omega)
        simp only [beq_self_eq_true, cond_false, cond_true, Option.bind_some]
        rw [decide_eq_true (show far cs (k + 1) > r by omega)]
        rfl
theorem reach_ok (xs : pksDen (pks [ShM, .int .u8, .int .u8])) (h : WfL [ShM, .int .u8, .int .u8] xs) : ∃ n, S11 n xs.1 xs.2.1 xs.2.2.1 = some true := by
  refine ⟨N, ?_⟩
  rw [S11_D N rfl]
  unfold D11
  obtain ⟨cs, g1, hv, g3, g4⟩ := made_eq hN1 (m0 := xs.1) h.1 (many := 5) (most := 30) (by omega) (by omega) (by omega) (by omega)
  rw [g1]
  simp only [Option.bind_some]
  have hl := hv.len
  have hp := hv.pos
  obtain ⟨t1, t2, t3⟩ := tmod_u8 (u8_rng h.2.2.1) (k := 6) (by omega)
  obtain ⟨q1, q2, q3⟩ := tmod_u8 (u8_rng h.2.1) (k := 10) (by omega)
  rw [show ((6 : Nat) == 0) = false from rfl, cond_false, inB_last hp (by omega), cond_true, idx_last hp (by omega)]
  simp only [Option.bind_some]
  rw [show ((10 : Nat) == 0) = false from rfl, cond_false, t1, q1]
  have hd := lastC_rng hv
  have hd30 : lastC cs ≤ 30 := by rw [lastC_get hp]; exact g4 _ (List.getElem_mem _)
  generalize xs.2.1 % 10 = y at *
  obtain ⟨k, hk⟩ := Int.eq_ofNat_of_zero_le t2
  rw [hk] at t3 ⊢
  rw [reach_eq hN1, clone_eq hp (by omega)]
  simp only [Option.bind_some]
  rw [wr_ok (x := lastC cs + 1) (by omega) (by omega), wr_ok (x := lastC cs + 1 + y) (by omega) (by omega), decide_eq_true (show cs.length + [lastC cs + 1 + y].length ≤ lim by simp [lim]; omega), cond_true, reach_eq hN1]
  simp only [Option.bind_some]
  have hvs := hv.snoc (by omega) (show cs[cs.length - 1]?.getD 0 < lastC cs + 1 + y by show lastC cs < _; omega) (show lastC cs + 1 + y ≤ 40 by omega)
  have hof := ofew_eq hv 240 (by omega)
  rw [show ((240 : Nat) : Int) = 240 from rfl] at hof
  rw [hof]
  simp only [Option.bind_some]
  rw [reachS_ok hv (by omega), reachS_ok hvs (by omega)]
  obtain ⟨f0, f1, f2, f3⟩ := far_spec hv (k := k) (by omega)
  exact reach_end hv k (by omega) _ _ rfl (far_ge hvs f0 (by omega) fun x h1 h2 => by
    have := opt_mono hv.mnt hvs.mnt (fun c hc => by simp [hc]) (s := x) (by omega)
    have := f2 x h1 h2
    omega) N.1 0 (by omega) (by show far cs k - ((0 : Nat) : Int) < ((10000 : Nat) : Int); omega)
end Go.Proofs.Ytjgmfdgpgdaclaa
