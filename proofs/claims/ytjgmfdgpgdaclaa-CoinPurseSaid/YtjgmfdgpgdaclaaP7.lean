/- Texts of this claim, joined: D52 to Ch. -/
import Derived.KernelRfl
import Derived.Test.YtjgmfdgpgdaclaaProg
import Derived.WalkKit
import Derived.Test.YtjgmfdgpgdaclaaP6
set_option linter.unusedVariables false
set_option linter.unusedSimpArgs false
set_option maxRecDepth 100000
namespace Go.Proofs.Ytjgmfdgpgdaclaa
open Go.Vi
/-D 52 -/
noncomputable def DF52_1 (n : Nat × Nat) (f1 : Int → List Int → Option R52) (v8 : Int) (newslice7 : List Int) : Option R52 :=
 (bif decide (v8 < (newslice7.length : Int)) then (bif bounds (some v8) none none newslice7.length then (bif bounds none (some v8) none newslice7.length then f1 (wr .i64 (v8 + ((min ((newslice7.drop (0 + 0)).take ((Int.toNat v8) - 0)).length ((newslice7.drop (0 + (Int.toNat v8))).take (newslice7.length - (Int.toNat v8))).length : Nat) : Int))) (newslice7.take (0 + (Int.toNat v8)) ++ ((newslice7.drop (0 + 0)).take ((Int.toNat v8) - 0)).take (min ((newslice7.drop (0 + 0)).take ((Int.toNat v8) - 0)).length ((newslice7.drop (0 + (Int.toNat v8))).take (newslice7.length - (Int.toNat v8))).length) ++ newslice7.drop ((0 + (Int.toNat v8)) + min ((newslice7.drop (0 + 0)).take ((Int.toNat v8) - 0)).length ((newslice7.drop (0 + (Int.toNat v8))).take (newslice7.length - (Int.toNat v8))).length))
 else none)
 else none)
 else some newslice7)
noncomputable def DL52_1 (n : Nat × Nat) (m : Nat) : Int → List Int → Option R52 := Nat.rec (motive := fun _ => Int → List Int → Option R52) (fun _ _ => none) (fun _ ih => DF52_1 n ih) m
theorem DL52_1_succ (n : Nat × Nat) (m : Nat) : DL52_1 n (m + 1) = DF52_1 n (DL52_1 n m) := rfl
theorem DL52_1_eq (n : Nat × Nat) (hn : n.2 = 1) : ∀ m, L52_1 n m = DL52_1 n m
  | 0 => by funext v8 newslice7; kernel_rfl
  | m + 1 => by
    have ih := DL52_1_eq n hn m
    funext v8 newslice7; refine (L52_1_eq n m v8 newslice7).trans ?_
    rw [DL52_1_succ]
    unfold DF52_1
    (try simp only [ih, S74_D n hn]) <;> first | with_reducible rfl | rfl
noncomputable def D52 (n : Nat × Nat) (x0 : List Int) (count1 : Int) : Option R52 :=
 (bif decide (count1 < 0) then none
 else (D74 n (wr .u64 (x0.length : Int)) (wr .u64 count1)).bind fun r1' =>
 ((bif (decide (r1'.1 > 0) == false) then some (decide (r1'.2 > 9223372036854775807))
 else some true)).bind fun b2' =>
 (bif b2' then none
 else (bif decide (0 ≤ wr .i64 r1'.2) && decide (wr .i64 r1'.2 ≤ wr .i64 r1'.2) && decide (wr .i64 r1'.2 ≤ lim) then DL52_1 n n.1 ((min x0.length (List.replicate (Int.toNat (wr .i64 r1'.2)) (0 : Int)).length : Nat) : Int) ((List.replicate (Int.toNat (wr .i64 r1'.2)) (0 : Int)).take 0 ++ x0.take (min x0.length (List.replicate (Int.toNat (wr .i64 r1'.2)) (0 : Int)).length) ++ (List.replicate (Int.toNat (wr .i64 r1'.2)) (0 : Int)).drop (0 + min x0.length (List.replicate (Int.toNat (wr .i64 r1'.2)) (0 : Int)).length))
 else none)))
theorem S52_D (n : Nat × Nat) (hn : n.2 = 1) : S52 n = D52 n := by
  funext x0 count1; refine (S52_eq n x0 count1).trans ?_
  unfold D52
  (try simp only [DL52_1_eq n hn, S74_D n hn]) <;> first | with_reducible rfl | rfl
/-D 46 -/
noncomputable def D46 (n : Nat × Nat) (s0 : List Int) : Option R46 :=
 (bif !s0.isEmpty then (bif false then some []
 else (bif decide (([] : List Int).length + s0.length ≤ lim) then some ([] ++ s0)
 else none))
 else none)
theorem S46_D (n : Nat × Nat) (hn : n.2 = 1) : S46 n = D46 n := by
  funext s0; refine (S46_eq n s0).trans ?_
  unfold D46
  first | with_reducible rfl | rfl
/-D 41 -/
noncomputable def D41 (n : Nat × Nat) (coins0 : List Int) (purse1 : List Int) (sum2 : Int) : Option R41 := HF41 (D56 n) (D68 n) (D52 n) (D46 n) coins0 purse1 sum2
theorem S41_D (n : Nat × Nat) (hn : n.2 = 1) : S41 n = D41 n := by unfold S41 D41; rw [S56_D n hn, S68_D n hn, S52_D n hn, S46_D n hn]
/-D 55 -/
noncomputable def D55 (n : Nat × Nat) : Option R55 :=
 some [1, 2]
theorem S55_D (n : Nat × Nat) (hn : n.2 = 1) : S55 n = D55 n := by
  refine (S55_eq n).trans ?_
  unfold D55
  first | with_reducible rfl | rfl
/-D 33 -/
noncomputable def D33 (n : Nat × Nat) (coins0 : List Int) (coin1 : Int) : Option R33 :=
 (D25 n coins0).bind fun r1' =>
 (bif (r1' != 0) then some (false, r1')
 else (bif ((coins0.length : Int) == 6) then some (false, 3)
 else (bif decide (coin1 > 40) then some (false, 1)
 else (idx coins0 (wr .i64 ((coins0.length : Int) - 1))).bind fun x2' =>
 (bif decide (coin1 ≤ x2') then some (false, 7)
 else (D66 n coins0).bind fun r3' =>
 (bif decide (r3' > 0) then some (false, 13)
 else (idx coins0 (wr .i64 ((coins0.length : Int) - 1))).bind fun x4' =>
 (bif x4' == 0 then none
 else (D46 n coins0).bind fun r5' =>
 (bif decide (r5'.length + [coin1].length ≤ lim) then (D63 n (r5' ++ [coin1]) (wr .i64 ((wr .i64 (Int.tdiv (wr .i64 ((wr .i64 (coin1 + x4')) - 1)) x4')) * x4'))).bind fun r6' =>
 some (decide (r6'.2 ≤ wr .i64 (Int.tdiv (wr .i64 ((wr .i64 (coin1 + x4')) - 1)) x4')), 0)
 else none)))))))
theorem S33_D (n : Nat × Nat) (hn : n.2 = 1) : S33 n = D33 n := by
  funext coins0 coin1; refine (S33_eq n coins0 coin1).trans ?_
  unfold D33
  (try simp only [S25_D n hn, S46_D n hn, S63_D n hn, S66_D n hn]) <;> first | with_reducible rfl | rfl
/-D 24 -/
noncomputable def DF24_1 (n : Nat × Nat) (f1 : List Int → List Int → Int → Option R24) (a0 : List Int) (b1 : List Int) (i5 : Int) : Option R24 :=
 (bif decide (i5 < (a0.length : Int)) then (idx a0 i5).bind fun x1' =>
 (idx b1 i5).bind fun x2' =>
 (bif (x1' != x2') then some false
 else f1 a0 b1 (wr .i64 (i5 + 1)))
 else some true)
noncomputable def DL24_1 (n : Nat × Nat) (m : Nat) : List Int → List Int → Int → Option R24 := Nat.rec (motive := fun _ => List Int → List Int → Int → Option R24) (fun _ _ _ => none) (fun _ ih => DF24_1 n ih) m
theorem DL24_1_succ (n : Nat × Nat) (m : Nat) : DL24_1 n (m + 1) = DF24_1 n (DL24_1 n m) := rfl
theorem DL24_1_eq (n : Nat × Nat) (hn : n.2 = 1) : ∀ m, L24_1 n m = DL24_1 n m
  | 0 => by funext a0 b1 i5; kernel_rfl
  | m + 1 => by
    have ih := DL24_1_eq n hn m
    funext a0 b1 i5; refine (L24_1_eq n m a0 b1 i5).trans ?_
    rw [DL24_1_succ]
    unfold DF24_1
    (try simp only [ih]) <;> first | with_reducible rfl | rfl
noncomputable def D24 (n : Nat × Nat) (a0 : List Int) (b1 : List Int) : Option R24 :=
 (bif ((a0.length : Int) != (b1.length : Int)) then some false
 else DL24_1 n n.1 a0 b1 0)
theorem S24_D (n : Nat × Nat) (hn : n.2 = 1) : S24 n = D24 n := by
  funext a0 b1; refine (S24_eq n a0 b1).trans ?_
  unfold D24
  (try simp only [DL24_1_eq n hn]) <;> first | with_reducible rfl | rfl
/-D 31 -/
noncomputable def DF31_1 (n : Nat × Nat) (f1 : List Int → Int → Int → Int → List Int → Int → Int → Option R31) (coins0 : List Int) (sum1 : Int) (worth9 : Int) (has10 : Int) (v27 : List Int) (v28 : Int) (v29 : Int) : Option R31 :=
 (bif decide (v29 < v28) then (idx v27 v29).bind fun x3' =>
 (idx coins0 v29).bind fun x4' =>
      f1 coins0 sum1 (wr .i64 (worth9 + (wr .i64 (x3' * x4')))) (wr .i64 (has10 + x3')) v27 v28 (wr .i64 (v29 + 1))
 else (D63 n coins0 sum1).bind fun r5' =>
 (bif (worth9 != sum1) then some 17
 else (bif decide (has10 ≥ r5'.2) then some 14
 else some 0)))
noncomputable def DL31_1 (n : Nat × Nat) (m : Nat) : List Int → Int → Int → Int → List Int → Int → Int → Option R31 := Nat.rec (motive := fun _ => List Int → Int → Int → Int → List Int → Int → Int → Option R31) (fun _ _ _ _ _ _ _ => none) (fun _ ih => DF31_1 n ih) m
theorem DL31_1_succ (n : Nat × Nat) (m : Nat) : DL31_1 n (m + 1) = DF31_1 n (DL31_1 n m) := rfl
theorem DL31_1_eq (n : Nat × Nat) (hn : n.2 = 1) : ∀ m, L31_1 n m = DL31_1 n m
  | 0 => by funext coins0 sum1 worth9 has10 v27 v28 v29; kernel_rfl
  | m + 1 => by
    have ih := DL31_1_eq n hn m
    funext coins0 sum1 worth9 has10 v27 v28 v29; refine (L31_1_eq n m coins0 sum1 worth9 has10 v27 v28 v29).trans ?_
    rw [DL31_1_succ]
    unfold DF31_1
    (try simp only [ih, S56_D n hn, S63_D n hn, S68_D n hn]) <;> first | with_reducible rfl | rfl
noncomputable def D31 (n : Nat × Nat) (coins0 : List Int) (sum1 : Int) (payment2 : List Int) : Option R31 :=
 (D56 n coins0 sum1).bind fun r1' =>
 (bif (r1' != 0) then some r1'
 else (D68 n coins0 payment2).bind fun r2' =>
 (bif (r2' != 0) then some r2'
 else DL31_1 n n.1 coins0 sum1 0 0 payment2 (payment2.length : Int) 0))
theorem S31_D (n : Nat × Nat) (hn : n.2 = 1) : S31 n = D31 n := by
  funext coins0 sum1 payment2; refine (S31_eq n coins0 sum1 payment2).trans ?_
  unfold D31
  (try simp only [DL31_1_eq n hn, S56_D n hn, S63_D n hn, S68_D n hn]) <;> first | with_reducible rfl | rfl
/-D 17 -/
noncomputable def D17 (n : Nat × Nat) : Option R17 :=
 (D54 n).bind fun r1' =>
 (D18 n r1' 6).bind fun r2' =>
 (D54 n).bind fun r3' =>
 (D20 n r3' 6).bind fun r4' =>
 (D54 n).bind fun r5' =>
 (D22 n r5' 6).bind fun r6' =>
 (D54 n).bind fun r7' =>
 (D27 n r7').bind fun r8' =>
 (D53 n).bind fun r9' =>
 (D27 n r9').bind fun r10' =>
 (D54 n).bind fun r11' =>
 (D29 n r11').bind fun r12' =>
 (D54 n).bind fun r13' =>
 (D37 n r13' 6).bind fun r14' =>
 ((bif ((r2'.2 != 0) == false) then some (r4'.2 != 0)
 else some true)).bind fun b15' =>
 ((bif (b15' == false) then some (r6'.2 != 0)
 else some true)).bind fun b16' =>
 ((bif (b16' == false) then some (r8'.2 != 0)
 else some true)).bind fun b17' =>
 ((bif (b17' == false) then some (r10'.2 != 0)
 else some true)).bind fun b18' =>
 ((bif (b18' == false) then some (r12'.2 != 0)
 else some true)).bind fun b19' =>
 ((bif (b19' == false) then some (r14'.2 != 0)
 else some true)).bind fun b20' =>
 (bif b20' then some false
 else (D54 n).bind fun r21' =>
 (D35 n r21' 2).bind fun r22' =>
 (D53 n).bind fun r23' =>
 (D39 n r23' 9).bind fun r24' =>
 (D54 n).bind fun r25' =>
 (D41 n r25' [2, 1, 1] 6).bind fun r26' =>
 (D55 n).bind fun r27' =>
 (D33 n r27' 5).bind fun r28' =>
 (D54 n).bind fun r29' =>
 (D33 n r29' 5).bind fun r30' =>
 (D53 n).bind fun r31' =>
 (D29 n r31').bind fun r32' =>
 (D54 n).bind fun r33' =>
 (D41 n r33' [0, 0, 1] 6).bind fun r34' =>
 ((bif ((r22'.2 == 0) == true) then some (r24'.2.2 == 0)
 else some false)).bind fun b35' =>
 ((bif (b35' == true) then some (r26'.2 == 0)
 else some false)).bind fun b36' =>
 ((bif (b36' == true) then some (r28'.2 == 0)
 else some false)).bind fun b37' =>
 ((bif (b37' == true) then some (r30'.2 == 13)
 else some false)).bind fun b38' =>
 ((bif (b38' == true) then some (r32'.2 == 13)
 else some false)).bind fun b39' =>
 ((bif (b39' == true) then some (r34'.2 == 12)
 else some false)).bind fun b40' =>
 ((bif (b40' == true) then some (r2'.1 == 2)
 else some false)).bind fun b41' =>
 ((bif (b41' == true) then (D24 n r4'.1 [0, 2, 0]).bind fun r42' =>
 some r42'
 else some false)).bind fun b43' =>
 ((bif (b43' == true) then (D24 n r6'.1 [2, 0, 1]).bind fun r44' =>
 some r44'
 else some false)).bind fun b45' =>
 ((bif (b45' == true) then some (!r8'.1)
 else some false)).bind fun b46' =>
 ((bif (b46' == true) then some r10'.1
 else some false)).bind fun b47' =>
 ((bif (b47' == true) then some (r12'.1 == 6)
 else some false)).bind fun b48' =>
 ((bif (b48' == true) then some (r14'.1 == 4)
 else some false)).bind fun b49' =>
 ((bif (b49' == true) then some (r22'.1 == 8)
 else some false)).bind fun b50' =>
 ((bif (b50' == true) then some (r24'.1 == 1)
 else some false)).bind fun b51' =>
 ((bif (b51' == true) then some (r24'.2.1 == 1)
 else some false)).bind fun b52' =>
 ((bif (b52' == true) then (D24 n r26'.1 [2, 0, 1]).bind fun r53' =>
 some r53'
 else some false)).bind fun b54' =>
 ((bif (b54' == true) then some r28'.1
 else some false)).bind fun b55' =>
 ((bif (b55' == true) then (D54 n).bind fun r56' =>
 (D31 n r56' 6 [0, 2, 0]).bind fun r57' =>
 some (r57' == 0)
 else some false)).bind fun b58' =>
 ((bif (b58' == true) then (D54 n).bind fun r59' =>
 (D31 n r59' 6 [2, 0, 1]).bind fun r60' =>
 some (r60' == 14)
 else some false)).bind fun b61' =>
 some b61')
theorem S17_D (n : Nat × Nat) (hn : n.2 = 1) : S17 n = D17 n := by
  refine (S17_eq n).trans ?_
  unfold D17
  (try simp only [S18_D n hn, S20_D n hn, S22_D n hn, S24_D n hn, S27_D n hn, S29_D n hn, S31_D n hn, S33_D n hn, S35_D n hn, S37_D n hn, S39_D n hn, S41_D n hn, S53_D n hn, S54_D n hn, S55_D n hn]) <;> first | with_reducible rfl | rfl
/-D 44 -/
/-D 45 -/
/-D 51 -/
/-D 65 -/
/-D 26 -/
/-D 58 -/
/-D 59 -/
/-D 64 -/
/-D 70 -/
/-D 67 -/
/-D 28 -/
/-D 30 -/
/-D 69 -/
/-D 32 -/
/-D 34 -/
/-D 36 -/
/-D 73 -/
/-D 38 -/
/-D 40 -/
end Go.Proofs.Ytjgmfdgpgdaclaa
/-
  Sums of coins: the fewest coins of a sum, greatest coins, the first bad sum, one coin more (plain law).
-/
set_option linter.unusedVariables false
set_option linter.unusedSimpArgs false
namespace Go.Proofs.Ytjgmfdgpgdaclaa
/-- The sum is so many coins. -/
def Rch (cs : List Int) : Nat → Int → Prop
  | 0, s => s = 0
  | n + 1, s => ∃ c ∈ cs, Rch cs n (s - c)
theorem Rch.add {cs : List Int} {m : Nat} {t : Int} (h : Rch cs m t) : ∀ {n : Nat} {s : Int}, Rch cs n s → Rch cs (n + m) (s + t)
  | 0, s, h0 => by
    have h0 : s = 0 := h0
    subst h0
    simpa using h
  | n + 1, s, ⟨c, hc, h1⟩ => by
    rw [show n + 1 + m = (n + m) + 1 by omega]
    refine ⟨c, hc, ?_⟩
    rw [show s + t - c = (s - c) + t by omega]
    exact h.add h1
theorem Rch.one {cs : List Int} {c : Int} (hc : c ∈ cs) : Rch cs 1 c := ⟨c, hc, by show c - c = 0; omega⟩
theorem Rch.mono {cs ds : List Int} (h : ∀ c ∈ cs, c ∈ ds) : ∀ {n : Nat} {s : Int}, Rch cs n s → Rch ds n s
  | 0, s, h0 => h0
  | n + 1, s, ⟨c, hc, h1⟩ => ⟨c, h c hc, h1.mono h⟩
theorem Rch.le {cs : List Int} (hp : ∀ c ∈ cs, 1 ≤ c) : ∀ {n : Nat} {s : Int}, Rch cs n s → (n : Int) ≤ s
  | 0, s, h0 => by have h0 : s = 0 := h0; omega
  | n + 1, s, ⟨c, hc, h1⟩ => by have := h1.le hp; have := hp c hc; omega
theorem Rch.ones {cs : List Int} (h1 : 1 ∈ cs) : ∀ n : Nat, Rch cs n n
  | 0 => rfl
  | n + 1 => ⟨1, h1, by rw [show ((n + 1 : Nat) : Int) - 1 = n by omega]; exact Rch.ones h1 n⟩
theorem exMin (P : Nat → Prop) : (∃ n, P n) → ∃ n, P n ∧ ∀ m, P m → n ≤ m := by
  intro ⟨n, hn⟩
  induction n using Nat.strongRecOn with
  | ind n ih =>
    by_cases h : ∃ m, m < n ∧ P m
    · obtain ⟨m, h1, h2⟩ := h
      exact ih m h1 h2
    · refine ⟨n, hn, fun m hm => ?_⟩
      by_cases h' : m < n
      · exact absurd ⟨m, h', hm⟩ h
      · omega
/-- Coins: 1 is among them, and none is smaller. -/
structure Mnt (cs : List Int) : Prop where
  one : 1 ∈ cs
  pos : ∀ c ∈ cs, 1 ≤ c
open Classical in
/-- The fewest coins of a sum. -/
noncomputable def opt (cs : List Int) (s : Int) : Int := if h : ∃ n, Rch cs n s then ((Classical.choose (exMin _ h) : Nat) : Int) else 0
theorem opt_spec {cs : List Int} (hc : Mnt cs) {s : Int} (h0 : 0 ≤ s) : ∃ n : Nat, opt cs s = n ∧ Rch cs n s ∧ ∀ m, Rch cs m s → n ≤ m := by
  have h : ∃ n, Rch cs n s := ⟨s.toNat, by have := Rch.ones hc.one s.toNat; rwa [Int.toNat_of_nonneg h0] at this⟩
  refine ⟨_, by unfold opt; rw [dif_pos h], (Classical.choose_spec (exMin _ h)).1, (Classical.choose_spec (exMin _ h)).2⟩
theorem opt_le {cs : List Int} (hc : Mnt cs) {s : Int} {n : Nat} (h : Rch cs n s) : opt cs s ≤ n := by
  obtain ⟨k, h1, h2, h3⟩ := opt_spec hc (s := s) (by have := h.le hc.pos; omega)
  have := h3 n h
  omega
theorem opt_add {cs : List Int} (hc : Mnt cs) {s t : Int} (h0 : 0 ≤ s) (h1 : 0 ≤ t) : opt cs (s + t) ≤ opt cs s + opt cs t := by
  obtain ⟨n, a1, a2, _⟩ := opt_spec hc h0
  obtain ⟨m, b1, b2, _⟩ := opt_spec hc h1
  have := opt_le hc (b2.add a2)
  omega
theorem opt_coin {cs : List Int} (hc : Mnt cs) {c : Int} (h : c ∈ cs) : opt cs c = 1 := by
  have h1 := opt_le hc (Rch.one h)
  obtain ⟨n, a1, a2, _⟩ := opt_spec hc (s := c) (by have := hc.pos c h; omega)
  cases n with
  | zero => have : c = 0 := a2; have := hc.pos c h; omega
  | succ n => omega
theorem opt_more {cs : List Int} (hc : Mnt cs) {c s : Int} (h : c ∈ cs) (hs : 0 ≤ s) : opt cs (s + c) ≤ opt cs s + 1 := by
  have := opt_add hc hs (show 0 ≤ c by have := hc.pos c h; omega)
  rw [opt_coin hc h] at this
  exact this
end Go.Proofs.Ytjgmfdgpgdaclaa
set_option linter.unusedVariables false
set_option linter.unusedSimpArgs false
namespace Go.Proofs.Ytjgmfdgpgdaclaa
/-- A payment out of a purse. -/
def Pay : List Int → List Int → Int → List Int → Prop
  | [], _, s, p => s = 0 ∧ p = []
  | c :: cs, qs, s, p => ∃ n p', p = n :: p' ∧ 0 ≤ n ∧ n ≤ qs.headD 0 ∧ Pay cs qs.tail (s - n * c) p'
/-- A payment out of a purse that is never empty. -/
def PayU : List Int → Int → List Int → Prop
  | [], s, p => s = 0 ∧ p = []
  | c :: cs, s, p => ∃ n p', p = n :: p' ∧ 0 ≤ n ∧ PayU cs (s - n * c) p'
def tot : List Int → Int
  | [] => 0
  | n :: l => n + tot l
/-- The order of payments. -/
def Lx : List Int → List Int → Prop
  | n :: p, m :: q => n < m ∨ n = m ∧ Lx p q
  | _, _ => True
theorem Pay.length : ∀ {cs qs : List Int} {s : Int} {p : List Int}, Pay cs qs s p → p.length = cs.length
  | [], _, s, p, h => by rw [h.2]
  | c :: cs, qs, s, p, ⟨n, p', h1, h2, h3, h4⟩ => by rw [h1]; simp [h4.length]
theorem PayU.length : ∀ {cs : List Int} {s : Int} {p : List Int}, PayU cs s p → p.length = cs.length
  | [], s, p, h => by rw [h.2]
  | c :: cs, s, p, ⟨n, p', h1, h2, h4⟩ => by rw [h1]; simp [h4.length]
theorem Pay.free : ∀ {cs qs : List Int} {s : Int} {p : List Int}, Pay cs qs s p → PayU cs s p
  | [], _, s, p, h => h
  | c :: cs, qs, s, p, ⟨n, p', h1, h2, h3, h4⟩ => ⟨n, p', h1, h2, h4.free⟩
theorem PayU.sum {cs : List Int} : ∀ (hp : ∀ c ∈ cs, 1 ≤ c) {s : Int} {p : List Int}, PayU cs s p → 0 ≤ tot p ∧ tot p ≤ s := by
  induction cs with
  | nil => intro hp s p h; rw [h.1, h.2]; exact ⟨Int.le_refl _, Int.le_refl _⟩
  | cons c cs ih =>
    intro hp s p ⟨n, p', h1, h2, h4⟩
    obtain ⟨a, b⟩ := ih (fun c h => hp c (by simp [h])) h4
    have hc := hp c (by simp)
    have : n * 1 ≤ n * c := Int.mul_le_mul_of_nonneg_left hc h2
    rw [h1]
    simp only [tot]
    omega
theorem PayU.lim {cs : List Int} : ∀ (hp : ∀ c ∈ cs, 1 ≤ c) {qs : List Int} {s m : Int} {p : List Int}, PayU cs s p → s ≤ m → qs.length = cs.length → (∀ q ∈ qs, m ≤ q) → Pay cs qs s p := by
  induction cs with
  | nil => intro hp qs s m p h hm hl hq; exact h
  | cons c cs ih =>
    intro hp qs s m p ⟨n, p', h1, h2, h4⟩ hm hl hq
    have hc := hp c (by simp)
    have hnc : n * 1 ≤ n * c := Int.mul_le_mul_of_nonneg_left hc h2
    obtain ⟨a, b⟩ := PayU.sum (fun c h => hp c (by simp [h])) h4
    cases qs with
    | nil => simp at hl
    | cons q qs =>
      have := hq q (by simp)
      exact ⟨n, p', h1, h2, by show n ≤ q; omega, ih (fun c h => hp c (by simp [h])) h4 (by omega : s - n * c ≤ m) (by simpa using hl) (fun x h => hq x (List.mem_cons_of_mem _ h))⟩
theorem Lx.refl : ∀ p : List Int, Lx p p
  | [] => trivial
  | n :: p => .inr ⟨rfl, Lx.refl p⟩
theorem Lx.anti : ∀ {p q : List Int}, p.length = q.length → Lx p q → Lx q p → p = q
  | [], [], _, _, _ => rfl
  | [], _ :: _, h, _, _ => by simp at h
  | _ :: _, [], h, _, _ => by simp at h
  | n :: p, m :: q, h, h1, h2 => by
    rcases h1 with h1 | ⟨rfl, h1⟩
    · rcases h2 with h2 | ⟨rfl, h2⟩ <;> omega
    · rcases h2 with h2 | ⟨_, h2⟩
      · omega
      · rw [Lx.anti (by simpa using h) h1 h2]
/-- The first of the payments with the fewest coins. -/
def IsBst (A : List Int → Prop) (p : List Int) : Prop := A p ∧ ∀ p', A p' → tot p < tot p' ∨ tot p = tot p' ∧ Lx p p'
theorem IsBst.uniq {A : List Int → Prop} {p q : List Int} (hl : p.length = q.length) (h : IsBst A p) (k : IsBst A q) : p = q := by
  have h1 := h.2 q k.1
  have h2 := k.2 p h.1
  rcases h1 with h1 | ⟨h1, h3⟩ <;> rcases h2 with h2 | ⟨h2, h4⟩
  · omega
  · omega
  · omega
  · exact Lx.anti hl h3 h4
theorem IsBst.congr {A B : List Int → Prop} {p : List Int} (h : IsBst A p) (e : ∀ p, A p ↔ B p) : IsBst B p := ⟨(e p).1 h.1, fun p' h' => h.2 p' ((e p').2 h')⟩
/-- Payments and sums of single coins. -/
theorem PayU.rch {cs : List Int} : ∀ {s : Int} {p : List Int}, PayU cs s p → Rch cs (tot p).toNat s := by
  induction cs with
  | nil => intro s p h; rw [h.1, h.2]; rfl
  | cons c cs ih =>
    intro s p ⟨n, p', h1, h2, h4⟩
    have h5 := (ih h4).mono (ds := c :: cs) (fun x h => by simp [h])
    have key : ∀ k : Nat, Rch (c :: cs) k ((k : Int) * c) := by
      intro k
      induction k with
      | zero => show (0 : Int) * c = 0; simp
      | succ k ih => exact ⟨c, by simp, by rw [show ((k + 1 : Nat) : Int) * c - c = (k : Int) * c by rw [Int.natCast_add, Int.add_mul]; omega]; exact ih⟩
    have h6 := key n.toNat
    rw [Int.toNat_of_nonneg h2] at h6
    have h7 := h5.add h6
    have ht : 0 ≤ tot p' := by
      have : ∀ {cs : List Int} {s : Int} {p : List Int}, PayU cs s p → 0 ≤ tot p := by
        intro cs
        induction cs with
        | nil => intro s p h; rw [h.2]; exact Int.le_refl _
        | cons c cs ih => intro s p ⟨n, p', h1, h2, h4⟩; have := ih h4; rw [h1]; simp only [tot]; omega
      exact this h4
    rw [h1]
    simp only [tot]
    rw [show (n + tot p').toNat = n.toNat + (tot p').toNat by omega]
    rwa [show n * c + (s - n * c) = s by omega] at h7
theorem PayU.zero : ∀ cs : List Int, ∃ p, PayU cs 0 p ∧ tot p = 0
  | [] => ⟨[], ⟨rfl, rfl⟩, rfl⟩
  | c :: cs => by
    obtain ⟨p, h1, h2⟩ := PayU.zero cs
    exact ⟨0 :: p, ⟨0, p, rfl, Int.le_refl _, by simpa using h1⟩, by simp only [tot]; omega⟩
theorem PayU.bump {c : Int} : ∀ {cs : List Int} {s : Int} {p : List Int}, PayU cs s p → c ∈ cs → ∃ p', PayU cs (s + c) p' ∧ tot p' = tot p + 1
  | [], _, _, _, h => by cases h
  | d :: cs, s, p, ⟨n, p', h1, h2, h4⟩, h => by
    rcases List.mem_cons.1 h with rfl | h
    · exact ⟨(n + 1) :: p', ⟨n + 1, p', rfl, by omega, by rw [Int.add_mul, show s + c - (n * c + 1 * c) = s - n * c by omega]; exact h4⟩, by rw [h1]; simp only [tot]; omega⟩
    · obtain ⟨p'', h5, h6⟩ := h4.bump h
      exact ⟨n :: p'', ⟨n, p'', rfl, h2, by rw [show s + c - n * d = s - n * d + c by omega]; exact h5⟩, by rw [h1]; simp only [tot]; omega⟩
theorem Rch.payU {cs : List Int} : ∀ {n : Nat} {s : Int}, Rch cs n s → ∃ p, PayU cs s p ∧ tot p = n
  | 0, s, h => by
    have h : s = 0 := h
    subst h
    obtain ⟨p, h1, h2⟩ := PayU.zero cs
    exact ⟨p, h1, by rw [h2]; rfl⟩
  | n + 1, s, ⟨c, hc, h⟩ => by
    obtain ⟨p, h1, h2⟩ := h.payU
    obtain ⟨p', h3, h4⟩ := h1.bump hc
    exact ⟨p', by rwa [show s - c + c = s by omega] at h3, by omega⟩
theorem opt_pay {cs : List Int} (hc : Mnt cs) {s : Int} (hs : 0 ≤ s) : ∃ p, PayU cs s p ∧ tot p = opt cs s := by
  obtain ⟨n, h1, h2, _⟩ := opt_spec hc hs
  obtain ⟨p, h3, h4⟩ := h2.payU
  exact ⟨p, h3, by omega⟩
theorem opt_pay_le {cs : List Int} (hc : Mnt cs) {s : Int} {p : List Int} (h : PayU cs s p) : opt cs s ≤ tot p := by
  have h1 := opt_le hc h.rch
  have h2 := (PayU.sum hc.pos h).1
  omega
/-- The first best payment has the fewest coins. -/
theorem IsBst.opt {cs : List Int} (hc : Mnt cs) {s : Int} (hs : 0 ≤ s) {p : List Int} (h : IsBst (PayU cs s) p) : tot p = opt cs s := by
  obtain ⟨q, h1, h2⟩ := opt_pay hc hs
  have h3 := opt_pay_le hc h.1
  rcases h.2 q h1 with h4 | ⟨h4, _⟩ <;> omega
end Go.Proofs.Ytjgmfdgpgdaclaa
set_option linter.unusedVariables false
set_option linter.unusedSimpArgs false
namespace Go.Proofs.Ytjgmfdgpgdaclaa
open Go.Vi
theorem wr_ok {x : Int} (h1 : -9223372036854775808 ≤ x) (h2 : x ≤ 9223372036854775807) : wr .i64 x = x := by
  have : wr .i64 x = (x + 9223372036854775808) % 18446744073709551616 - 9223372036854775808 := by
    simp only [wr, IntKind.wrap, IntKind.signed, IntKind.bits]
    simp
    split <;> omega
  rw [this]
  omega
theorem idx_nat {α : Type} {l : List α} {k : Nat} (h : k < l.length) : idx l (k : Int) = some l[k] := by
  unfold idx
  rw [if_pos (by omega), Int.toNat_natCast, List.getElem?_eq_getElem h]
theorem idx_int {α : Type} {l : List α} {k : Nat} {i : Int} (hi : i = k) (h : k < l.length) : idx l i = some l[k] := by
  subst hi
  exact idx_nat h
theorem drop_cons {α : Type} {l : List α} {k : Nat} (h : k < l.length) : l.drop k = l[k] :: l.drop (k + 1) := List.drop_eq_getElem_cons h
theorem inB_nat {k n : Nat} (h : k < n) : inB (k : Int) n = true := by
  unfold inB
  simp [h]
/-- What is checked, behind a coin. -/
def chkl : Option Int → List Int → Int
  | _, [] => 0
  | p, c :: l => if c < 1 ∨ 40 < c then 1 else if c ≤ p.getD 0 then 7 else chkl (some c) l
def chk (cs : List Int) : Int := if cs.length = 0 then 4 else if 6 < cs.length then 3 else if chkl none cs = 0 then (if cs.headD 0 = 1 then 0 else 5) else chkl none cs
def lst (cs : List Int) (k : Nat) : Option Int := if k = 0 then none else cs[k - 1]?
theorem chk_loop (n : Nat × Nat) (cs : List Int) (hl : cs.length ≤ 6) (h0 : 0 < cs.length) : ∀ (m k : Nat), k ≤ cs.length → cs.length - k < m → (∀ j (h : j < cs.length), j < k → 1 ≤ cs[j]) →
    DL25_1 n m cs cs (cs.length : Int) (k : Int) = some (if chkl (lst cs k) (cs.drop k) = 0 then (if cs.headD 0 = 1 then 0 else 5) else chkl (lst cs k) (cs.drop k))
  | 0, k, _, h, _ => by omega
  | m + 1, k, hk, h, hp => by
    rw [DL25_1_succ]
    unfold DF25_1
    by_cases hlt : k < cs.length
    · rw [decide_eq_true (show (k : Int) < (cs.length : Int) by omega), cond_true, idx_nat hlt, drop_cons hlt]
      simp only [Option.bind_some, chkl]
      generalize hc : cs[k] = c
      by_cases h1 : c < 1
      · simp [h1]
      by_cases h2 : c > 40
      · simp [h1, h2]
      have ih := chk_loop n cs hl h0 m (k + 1) (by omega) (by omega) (fun j hj hjk => by
        by_cases e : j = k
        · subst e; rw [hc]; omega
        · exact hp j hj (by omega))
      rw [show ((k + 1 : Nat) : Int) = wr .i64 ((k : Int) + 1) by rw [wr_ok (by omega) (by omega)]; omega] at ih
      have hlst : lst cs (k + 1) = some c := by
        unfold lst
        rw [if_neg (by omega), show k + 1 - 1 = k by omega, List.getElem?_eq_getElem hlt, hc]
      rw [hlst] at ih
      simp only [decide_eq_false h1, decide_eq_false h2, beq_self_eq_true, cond_true, cond_false, Option.bind_some, if_neg (show ¬ (c < 1 ∨ 40 < c) by omega)]
      by_cases hk0 : k = 0
      · subst hk0
        simp only [lst, if_pos, Option.getD_none, if_neg (show ¬ c ≤ 0 by omega)]
        simp only [show decide (((0 : Nat) : Int) > 0) = false by decide, show (false == true) = false from rfl, cond_false, Option.bind_some, if_false]
        exact ih
      · have hlk : lst cs k = some cs[k - 1] := by
          unfold lst
          rw [if_neg hk0, List.getElem?_eq_getElem (by omega)]
        rw [hlk, Option.getD_some, decide_eq_true (show (k : Int) > 0 by omega), show (true == true) = true from rfl, cond_true, idx_int (k := k - 1) (by rw [wr_ok (by omega) (by omega)]; omega) (by omega)]
        simp only [Option.bind_some]
        by_cases h7 : c ≤ cs[k - 1]
        · simp [h7]
        · simp only [decide_eq_false h7, cond_false, if_neg h7]
          exact ih
    · rw [decide_eq_false (show ¬ (k : Int) < (cs.length : Int) by omega), cond_false, List.drop_of_length_le (by omega), show idx cs 0 = some cs[0] from idx_int (k := 0) rfl h0]
      simp only [Option.bind_some, chkl, if_true]
      have hh : cs.headD 0 = cs[0] := by cases cs with | nil => simp at h0 | cons a l => rfl
      have h1 := hp 0 h0 (by omega)
      rw [hh]
      by_cases h5 : cs[0] > 1
      · rw [decide_eq_true h5, cond_true, if_neg (by omega)]
      · rw [decide_eq_false h5, cond_false, if_pos (by omega)]
theorem chk_eq {n : Nat × Nat} (hn : 1000 ≤ n.1) (cs : List Int) : D25 n cs = some (chk cs) := by
  unfold D25 chk
  by_cases h0 : cs.length = 0
  · simp [h0]
  rw [show (((cs.length : Int)) == 0) = false by simpa using h0, cond_false, if_neg h0]
  by_cases h8 : 6 < cs.length
  · rw [decide_eq_true (show (cs.length : Int) > 6 by omega), cond_true, if_pos h8]
  · rw [decide_eq_false (show ¬ (cs.length : Int) > 6 by omega), cond_false, if_neg h8]
    have := chk_loop n cs (by omega) (by omega) n.1 0 (by omega) (by omega) (fun j hj hjk => by omega)
    simpa [lst] using this
/-- Good coins to pay with. -/
structure Vld (cs : List Int) : Prop where
  pos : 0 < cs.length
  len : cs.length ≤ 6
  rng : ∀ c ∈ cs, 1 ≤ c ∧ c ≤ 40
  inc : cs.Pairwise (· < ·)
  one : cs.headD 0 = 1
theorem chkl_zero : ∀ (l : List Int) (p : Option Int), (∀ c ∈ l, 1 ≤ c ∧ c ≤ 40) → l.Pairwise (· < ·) → (∀ q, p = some q → ∀ c ∈ l, q < c) → chkl p l = 0
  | [], _, _, _, _ => rfl
  | c :: l, p, a, b, d => by
    have h1 := a c (by simp)
    have h2 := List.pairwise_cons.1 b
    have ih := chkl_zero l (some c) (fun x hx => a x (by simp [hx])) h2.2 (fun q hq x hx => by cases hq; exact h2.1 x hx)
    simp only [chkl]
    rw [if_neg (by omega)]
    have : ¬ c ≤ p.getD 0 := by
      cases p with
      | none => simp; omega
      | some q => have := d q rfl c (by simp); simp; omega
    rw [if_neg this]
    exact ih
theorem vld_chk {cs : List Int} (h : Vld cs) : chk cs = 0 := by
  unfold chk
  have h1 := h.pos
  have h2 := h.len
  rw [if_neg (by omega), if_neg (by omega), chkl_zero cs none h.rng h.inc (fun q hq => by cases hq), if_pos rfl, if_pos h.one]
theorem Vld.mnt {cs : List Int} (h : Vld cs) : Mnt cs := by
  refine ⟨?_, fun c hc => (h.rng c hc).1⟩
  have h1 := h.one
  have h2 := h.pos
  cases cs with
  | nil => simp at h2
  | cons a l => simp at h1; simp [h1]
def smd (cs : List Int) (s : Int) : Int := if chk cs = 0 then (if s < 0 ∨ 200 < s then 1 else 0) else chk cs
theorem smd_eq {n : Nat × Nat} (hn : 1000 ≤ n.1) (cs : List Int) (s : Int) : D56 n cs s = some (smd cs s) := by
  unfold D56 smd
  rw [chk_eq hn]
  simp only [Option.bind_some]
  by_cases h : chk cs = 0
  · by_cases h1 : s < 0
    · simp [h, h1]
    · by_cases h2 : s > 200
      · simp [h, h1, h2]
      · simp [h, h1, h2]
  · rw [show (chk cs == 0) = false by simpa using h]; simp [h]
theorem smd_ok {cs : List Int} {s : Int} (h : Vld cs) (h1 : 0 ≤ s) (h2 : s ≤ 200) : smd cs s = 0 := by
  unfold smd
  rw [if_pos (vld_chk h), if_neg (by omega)]
/-! ### The fewest coins of each sum -/
end Go.Proofs.Ytjgmfdgpgdaclaa
/-
  Coins: the reference's table of the fewest coins.
-/
set_option linter.unusedVariables false
set_option linter.unusedSimpArgs false
namespace Go.Proofs.Ytjgmfdgpgdaclaa
open Go.Vi
/-- Reached in this round: from smaller sums, or from this one by the first coins. -/
def Qd (cs : List Int) (k s i : Nat) (x : Nat) : Prop := (∃ s' : Nat, s' < s ∧ opt cs s' = k ∧ ∃ c ∈ cs, (x : Int) = s' + c) ∨ (opt cs s = k ∧ ∃ c ∈ cs.take i, (x : Int) = s + c)
open Classical in
noncomputable def lay (cs : List Int) (k s i : Nat) (x : Nat) : Int := if opt cs x ≤ k then opt cs x else if Qd cs k s i x then (k : Int) + 1 else -1
theorem Qd.opt {cs : List Int} (hv : Vld cs) {k s i x : Nat} (h : Qd cs k s i x) : opt cs x ≤ (k : Int) + 1 := by
  rcases h with ⟨s', _, h1, c, hc, hx⟩ | ⟨h1, c, hc, hx⟩
  · have := opt_more hv.mnt hc (s := (s' : Int)) (by omega)
    rw [hx]; omega
  · have := opt_more hv.mnt (List.mem_of_mem_take hc) (s := (s : Int)) (by omega)
    rw [hx]; omega
end Go.Proofs.Ytjgmfdgpgdaclaa
set_option linter.unusedVariables false
namespace Go.Proofs.Ytjgmfdgpgdaclaa
open Go.Vi
abbrev N : Nat × Nat := (10000, 1)
noncomputable def repB (x : Int) (m : Nat) : Bool := (List.range m).all fun k => decide (D52 N [x] (k : Nat) = some (List.replicate k x))
theorem repB1 : repB (-1) 251 = true := by kernel_rfl
theorem rep_eq {k : Nat} (h : k < 251) : D52 N [-1] (k : Int) = some (List.replicate k (-1)) := by
  have := List.all_eq_true.1 repB1 k (by simpa using h)
  simpa using this
end Go.Proofs.Ytjgmfdgpgdaclaa
set_option linter.unusedVariables false
set_option linter.unusedSimpArgs false
namespace Go.Proofs.Ytjgmfdgpgdaclaa
open Go.Vi
/-- What the coins add to the next round's sums. -/
def adds (M : Nat) (s : Nat) (l : List Int) : List Int := (l.map fun c => (s : Int) + c).filter fun t => decide (t ≤ (M : Int))
/-- In round k: sums with fewer coins are known, and those of k coins that were met. -/
structure Rd (cs : List Int) (M k : Nat) (F : Nat → Int) : Prop where
  val : ∀ x, x ≤ M → F x = opt cs x ∨ F x = -1
  low : ∀ x, x ≤ M → opt cs x < k → F x = opt cs x
  top : ∀ x, x ≤ M → F x = opt cs x → opt cs x ≤ k
theorem Vld.cons {cs : List Int} (h : Vld cs) : ∃ l, cs = 1 :: l := by
  have h1 := h.one
  have h2 := h.pos
  cases cs with
  | nil => simp at h2
  | cons a l => simp at h1; exact ⟨l, by rw [h1]⟩
/-! ### Greatest coins, one by one -/
def bump (l : List Int) (i : Nat) : List Int := l.set i (l[i]?.getD 0 + 1)
/-! ### One coin more -/
theorem works_eq : D17 N = some true := by kernel_rfl
/-! ### Payments that prove it -/
def cnt (cs l : List Int) : Int := if l.length ≠ cs.length then 5 else if (∀ x ∈ l, 0 ≤ x ∧ x ≤ 200) then 0 else 1
theorem min_loop (n : Nat × Nat) (l : List Int) (hl : l.length ≤ 100) : ∀ (m i : Nat) (v : Int), i ≤ l.length → l.length - i < m → ∃ r : Int, DL75_1 n m l v (i : Int) = some r ∧ (r = v ∨ r ∈ l) ∧ r ≤ v ∧ ∀ x ∈ l.drop i, r ≤ x
  | 0, i, v, _, h => by omega
  | m + 1, i, v, hi, h => by
    rw [DL75_1_succ]
    unfold DF75_1
    by_cases hlt : i < l.length
    · rw [decide_eq_true (show (i : Int) < (l.length : Int) by omega), cond_true, idx_nat hlt, drop_cons hlt]
      simp only [Option.bind_some]
      obtain ⟨r, h1, h2, h3, h4⟩ := min_loop n l hl m (i + 1) (if l[i] < v then l[i] else v) (by omega) (by omega)
      rw [show ((i + 1 : Nat) : Int) = wr .i64 ((i : Int) + 1) by rw [wr_ok (by omega) (by omega)]; omega] at h1
      refine ⟨r, h1, ?_, ?_, fun x hx => ?_⟩
      · rcases h2 with h2 | h2
        · split at h2
          · right; rw [h2]; exact List.getElem_mem _
          · exact .inl h2
        · exact .inr h2
      · split at h3 <;> omega
      · rcases List.mem_cons.1 hx with rfl | hx
        · split at h3 <;> omega
        · exact h4 x hx
    · rw [decide_eq_false (show ¬ (i : Int) < (l.length : Int) by omega), cond_false, List.drop_of_length_le (by omega)]
      exact ⟨v, rfl, .inl rfl, Int.le_refl v, by simp⟩
theorem max_loop (n : Nat × Nat) (l : List Int) (hl : l.length ≤ 100) : ∀ (m i : Nat) (v : Int), i ≤ l.length → l.length - i < m → ∃ r : Int, DL76_1 n m l v (i : Int) = some r ∧ (r = v ∨ r ∈ l) ∧ v ≤ r ∧ ∀ x ∈ l.drop i, x ≤ r
  | 0, i, v, _, h => by omega
  | m + 1, i, v, hi, h => by
    rw [DL76_1_succ]
    unfold DF76_1
    by_cases hlt : i < l.length
    · rw [decide_eq_true (show (i : Int) < (l.length : Int) by omega), cond_true, idx_nat hlt, drop_cons hlt]
      simp only [Option.bind_some]
      obtain ⟨r, h1, h2, h3, h4⟩ := max_loop n l hl m (i + 1) (if l[i] > v then l[i] else v) (by omega) (by omega)
      rw [show ((i + 1 : Nat) : Int) = wr .i64 ((i : Int) + 1) by rw [wr_ok (by omega) (by omega)]; omega] at h1
      refine ⟨r, h1, ?_, ?_, fun x hx => ?_⟩
      · rcases h2 with h2 | h2
        · split at h2
          · right; rw [h2]; exact List.getElem_mem _
          · exact .inl h2
        · exact .inr h2
      · split at h3 <;> omega
      · rcases List.mem_cons.1 hx with rfl | hx
        · split at h3 <;> omega
        · exact h4 x hx
    · rw [decide_eq_false (show ¬ (i : Int) < (l.length : Int) by omega), cond_false, List.drop_of_length_le (by omega)]
      exact ⟨v, rfl, .inl rfl, Int.le_refl v, by simp⟩
theorem min_eq {n : Nat × Nat} (hn : 1000 ≤ n.1) (l : List Int) (hl : l.length ≤ 100) (h0 : 0 < l.length) : ∃ r : Int, D75 n l = some r ∧ r ∈ l ∧ ∀ x ∈ l, r ≤ x := by
  unfold D75
  rw [decide_eq_false (show ¬ (l.length : Int) < 1 by omega), cond_false, show idx l 0 = some l[0] from idx_int (k := 0) rfl h0]
  simp only [Option.bind_some]
  obtain ⟨r, h1, h2, h3, h4⟩ := min_loop n l hl n.1 1 l[0] (by omega) (by omega)
  refine ⟨r, h1, ?_, fun x hx => ?_⟩
  · rcases h2 with rfl | h2
    · exact List.getElem_mem _
    · exact h2
  · rw [show l = l[0] :: l.drop 1 by rw [← drop_cons (k := 0) h0]; rfl] at hx
    rcases List.mem_cons.1 hx with rfl | hx
    · exact h3
    · exact h4 x hx
theorem max_eq {n : Nat × Nat} (hn : 1000 ≤ n.1) (l : List Int) (hl : l.length ≤ 100) (h0 : 0 < l.length) : ∃ r : Int, D76 n l = some r ∧ r ∈ l ∧ ∀ x ∈ l, x ≤ r := by
  unfold D76
  rw [decide_eq_false (show ¬ (l.length : Int) < 1 by omega), cond_false, show idx l 0 = some l[0] from idx_int (k := 0) rfl h0]
  simp only [Option.bind_some]
  obtain ⟨r, h1, h2, h3, h4⟩ := max_loop n l hl n.1 1 l[0] (by omega) (by omega)
  refine ⟨r, h1, ?_, fun x hx => ?_⟩
  · rcases h2 with rfl | h2
    · exact List.getElem_mem _
    · exact h2
  · rw [show l = l[0] :: l.drop 1 by rw [← drop_cons (k := 0) h0]; rfl] at hx
    rcases List.mem_cons.1 hx with rfl | hx
    · exact h3
    · exact h4 x hx
theorem cnt_eq {n : Nat × Nat} (hn : 1000 ≤ n.1) (cs l : List Int) (h0 : 0 < cs.length) (hl : cs.length ≤ 100) : D68 n cs l = some (cnt cs l) := by
  unfold D68 cnt
  by_cases h : l.length = cs.length
  · rw [show ((l.length : Int) != (cs.length : Int)) = false by simp [h], cond_false, if_neg (by simpa using h)]
    obtain ⟨a, a1, a2, a3⟩ := min_eq hn l (by omega) (by omega)
    obtain ⟨b, b1, b2, b3⟩ := max_eq hn l (by omega) (by omega)
    rw [a1]
    simp only [Option.bind_some]
    by_cases h1 : a < 0
    · rw [if_neg (fun hh => by have := hh a a2; omega)]
      simp [h1]
    · rw [decide_eq_false h1, show (false == false) = true from rfl, cond_true, b1]
      simp only [Option.bind_some]
      by_cases h2 : b > 200
      · rw [if_neg (fun hh => by have := hh b b2; omega)]
        simp [h2]
      · rw [if_pos (fun x hx => by have := a3 x hx; have := b3 x hx; omega)]
        simp [h2]
  · rw [show ((l.length : Int) != (cs.length : Int)) = true by simpa using (show ¬ (l.length : Int) = (cs.length : Int) by omega), cond_true, if_pos h]
end Go.Proofs.Ytjgmfdgpgdaclaa
