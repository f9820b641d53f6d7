/- Texts of this claim, joined: G40 to Ch. -/
import Derived.KernelRfl
import Derived.Test.YtjgmfdgpgdaclaaProg
import Derived.WalkKit
import Derived.Test.YtjgmfdgpgdaclaaP6
set_option linter.unusedVariables false
set_option linter.unusedSimpArgs false
set_option maxRecDepth 100000
namespace Go.Proofs.Ytjgmfdgpgdaclaa
open Go.Vi
/- headword/headwordref12.Change -/
abbrev R40 := Int × Int × Int
noncomputable def c40 : Code := bodyOf Try.f40
noncomputable def an40 : Ann := (.s .l (.s .l (.s (.s .l (.j [0, 1, 59, 60, 61, 62, 63, 64, 65, 66, 67, 68, 69] .l .l)) (.s .l (.s .l (.s .l (.s (.s .l (.j [10, 11] (.j [1, 8, 9, 10, 11, 12, 59, 60, 61, 62, 63, 64, 65, 66, 67, 68, 69] (.s (.s .l (.j [1, 8, 9, 10, 11, 12, 59, 60, 61, 62, 63, 64, 65, 66, 67, 68, 69] .l .l)) (.j [] (.j [1, 8, 9, 10, 11, 12, 59, 60, 61, 62, 63, 64, 65, 66, 67, 68, 69] (.s .l (.s .l (.j [1, 8, 9, 10, 11, 12, 59, 60, 61, 62, 63, 64, 65, 66, 67, 68, 69] .l .l))) .l) .l)) .l) .l)) .l)))))))
def pk40 : List PK := [.c (.sl (.int .i64)), .c (.int .i64)]
def rk40 : List RK := [.c (.int .i64) 4, .c (.int .i64) 5, .c (.int .i64) 6]
noncomputable def rt40 (st : St) : Option R40 := rtG rk40 st
noncomputable def E40 (n : Nat × Nat) : Env := { T := tab, phi := (consPhi 58 (fun _ => true) (P58 n) (consPhi 59 (fun _ => true) (P59 n) noPhi)), eff := fun _ => false, fuel := n.1, hold := n.2 }
noncomputable def kq40_1 (n : Nat × Nat) : St → Option R40 := run (E40 n) (cB (cB (cB c40))) (Ann.snd (Ann.snd (Ann.snd an40))) rt40 (fun _ _ => none) rt40
noncomputable def kc40_2 (n : Nat × Nat) : St → Option R40 := fun s => normC [0, 1, 59, 60, 61, 62, 63, 64, 65, 66, 67, 68, 69] s (kq40_1 n)
noncomputable def kq40_3 (n : Nat × Nat) : St → Option R40 := run (E40 n) (cB (cB (cB (cB (cB (cB (cB c40))))))) (Ann.snd (Ann.snd (Ann.snd (Ann.snd (Ann.snd (Ann.snd (Ann.snd an40))))))) rt40 (fun _ _ => none) rt40
noncomputable def kc40_4 (n : Nat × Nat) : St → Option R40 := fun s => normC [10, 11] s (kq40_3 n)
noncomputable def xb40_5 (n : Nat × Nat) : Nat → St → Option R40 := fun j s => bif Nat.beq j 0 then normC [10, 11] s (kq40_3 n) else (fun _ _ => none) j s
noncomputable def F40_6 (n : Nat × Nat) : (St → Option R40) → St → Option R40 := fun K s => run (E40 n) (cA (cA (cB (cA (cB (cB (cB (cB (cB (cB c40)))))))))) (Ann.fst (Ann.fst (Ann.snd (Ann.fst (Ann.snd (Ann.snd (Ann.snd (Ann.snd (Ann.snd (Ann.snd an40)))))))))) (fun s => normC [1, 8, 9, 10, 11, 12, 59, 60, 61, 62, 63, 64, 65, 66, 67, 68, 69] s K) (xb40_5 n) rt40 s
noncomputable def kq40_7 (n : Nat × Nat) (m1 : Nat) : St → Option R40 := run (E40 n) (cB (cA (cA (cB (cA (cB (cB (cB (cB (cB (cB c40))))))))))) (Ann.snd (Ann.fst (Ann.fst (Ann.snd (Ann.fst (Ann.snd (Ann.snd (Ann.snd (Ann.snd (Ann.snd (Ann.snd an40))))))))))) (fun s => normC [1, 8, 9, 10, 11, 12, 59, 60, 61, 62, 63, 64, 65, 66, 67, 68, 69] s (loopN (F40_6 n) m1)) (xb40_5 n) rt40
noncomputable def kc40_8 (n : Nat × Nat) (m1 : Nat) : St → Option R40 := fun s => normC [1, 8, 9, 10, 11, 12, 59, 60, 61, 62, 63, 64, 65, 66, 67, 68, 69] s (kq40_7 n m1)
noncomputable def kq40_9 (n : Nat × Nat) (m1 : Nat) : St → Option R40 := run (E40 n) (cB (cB (cA (cA (cB (cA (cB (cB (cB (cB (cB (cB c40)))))))))))) (Ann.snd (Ann.snd (Ann.fst (Ann.fst (Ann.snd (Ann.fst (Ann.snd (Ann.snd (Ann.snd (Ann.snd (Ann.snd (Ann.snd an40)))))))))))) (fun s => normC [1, 8, 9, 10, 11, 12, 59, 60, 61, 62, 63, 64, 65, 66, 67, 68, 69] s (loopN (F40_6 n) m1)) (xb40_5 n) rt40
noncomputable def kc40_10 (n : Nat × Nat) (m1 : Nat) : St → Option R40 := fun s => normC [1, 8, 9, 10, 11, 12, 59, 60, 61, 62, 63, 64, 65, 66, 67, 68, 69] s (loopN (fun _ => (kq40_9 n m1)) n.2)
noncomputable def xb40_11 (n : Nat × Nat) (m1 : Nat) : Nat → St → Option R40 := fun j s => bif Nat.beq j 1 then normC [1, 8, 9, 10, 11, 12, 59, 60, 61, 62, 63, 64, 65, 66, 67, 68, 69] s (loopN (fun _ => (kq40_9 n m1)) n.2) else (xb40_5 n) j s
noncomputable def kc40_12 (n : Nat × Nat) (m1 : Nat) : St → Option R40 := fun s => normC [1, 8, 9, 10, 11, 12, 59, 60, 61, 62, 63, 64, 65, 66, 67, 68, 69] s (kc40_10 n m1)
noncomputable def L40_1 (n : Nat × Nat) (m : Nat) (sum1 : Int) (most8 : Int) (pay10 : Int) (back11 : Int) (x12 : Int) (l9 : List Int) : Option R40 := loopN (F40_6 n) m { tm := [uu, .c (.int .i64 sum1), uu, uu, uu, uu, uu, uu, .c (.int .i64 most8), .own 9 none false, .c (.int .i64 pay10), .c (.int .i64 back11), .c (.int .i64 x12), uu, uu, uu, uu, uu, uu, uu, uu, uu, uu, uu, uu, uu, uu, uu, uu, uu, uu, uu, uu, uu, uu, uu, uu, uu, uu, uu, uu, uu, uu, uu, uu, uu, uu, uu, uu, uu, uu, uu, uu, uu, uu, uu, uu, uu, uu, uu, uu, uu, uu, uu, uu, uu, uu, uu, uu, uu, uu, uu, uu, uu, uu, uu, uu, uu, uu, uu, uu, uu, uu], hp := (upd emp 9 (.arr (.int .i64) l9 false)) }
noncomputable def L40_2 (n : Nat × Nat) (m1 : Nat) (sum1 : Int) (most8 : Int) (pay10 : Int) (back11 : Int) (x12 : Int) (l9 : List Int) : Option R40 := loopN (fun _ => (kq40_9 n m1)) n.2 { tm := [uu, .c (.int .i64 sum1), uu, uu, uu, uu, uu, uu, .c (.int .i64 most8), .own 9 none false, .c (.int .i64 pay10), .c (.int .i64 back11), .c (.int .i64 x12), uu, uu, uu, uu, uu, uu, uu, uu, uu, uu, uu, uu, uu, uu, uu, uu, uu, uu, uu, uu, uu, uu, uu, uu, uu, uu, uu, uu, uu, uu, uu, uu, uu, uu, uu, uu, uu, uu, uu, uu, uu, uu, uu, uu, uu, uu, uu, uu, uu, uu, uu, uu, uu, uu, uu, uu, uu, uu, uu, uu, uu, uu, uu, uu, uu, uu, uu, uu, uu, uu], hp := (upd emp 9 (.arr (.int .i64) l9 false)) }
theorem L40_1_eq (n : Nat × Nat) (m1 : Nat) (sum1 : Int) (most8 : Int) (pay10 : Int) (back11 : Int) (x12 : Int) (l9 : List Int) : L40_1 n (m1 + 1) sum1 most8 pay10 back11 x12 l9 =
    (bif decide (x12 ≤ most8) then (bif inB (wr .i64 (sum1 + x12)) l9.length then (idx l9 (wr .i64 (sum1 + x12))).bind fun x5' =>
        (bif inB x12 l9.length then (idx l9 x12).bind fun x6' =>
          ((bif (decide (wr .i64 (x5' + x6') < wr .i64 (pay10 + back11)) == false) then ((bif (((wr .i64 (x5' + x6')) == (wr .i64 (pay10 + back11))) == true) then (bif inB x12 l9.length then (idx l9 x12).bind fun x7' =>
                    some (decide (x7' < back11))
                  else none)
                else some false)).bind fun b8' =>
              some b8'
            else some true)).bind fun b9' =>
          (bif b9' then (bif inB (wr .i64 (sum1 + x12)) l9.length then (idx l9 (wr .i64 (sum1 + x12))).bind fun x10' =>
              (bif inB x12 l9.length then (idx l9 x12).bind fun x11' =>
                L40_2 n m1 sum1 most8 x10' x11' x12 l9
              else none)
            else none)
          else L40_2 n m1 sum1 most8 pay10 back11 x12 l9)
        else none)
      else none)
    else some (pay10, back11, 0)) := by kernel_rfl
theorem L40_2_raw (n : Nat × Nat) (m1 : Nat) (sum1 : Int) (most8 : Int) (pay10 : Int) (back11 : Int) (x12 : Int) (l9 : List Int) : (kq40_9 n m1) { tm := [uu, .c (.int .i64 sum1), uu, uu, uu, uu, uu, uu, .c (.int .i64 most8), .own 9 none false, .c (.int .i64 pay10), .c (.int .i64 back11), .c (.int .i64 x12), uu, uu, uu, uu, uu, uu, uu, uu, uu, uu, uu, uu, uu, uu, uu, uu, uu, uu, uu, uu, uu, uu, uu, uu, uu, uu, uu, uu, uu, uu, uu, uu, uu, uu, uu, uu, uu, uu, uu, uu, uu, uu, uu, uu, uu, uu, uu, uu, uu, uu, uu, uu, uu, uu, uu, uu, uu, uu, uu, uu, uu, uu, uu, uu, uu, uu, uu, uu, uu, uu], hp := (upd emp 9 (.arr (.int .i64) l9 false)) } =
    L40_1 n m1 sum1 most8 pay10 back11 (wr .i64 (x12 + 1)) l9 := by kernel_rfl
noncomputable def S40 (n : Nat × Nat) (coins0 : List Int) (sum1 : Int) : Option R40 := run (E40 n) c40 an40 rt40 (fun _ _ => none) rt40 { tm := [.c (.sl (.int .i64) coins0 false), .c (.int .i64 sum1), uu, uu, uu, uu, uu, uu, uu, uu, uu, uu, uu, uu, uu, uu, uu, uu, uu, uu, uu, uu, uu, uu, uu, uu, uu, uu, uu, uu, uu, uu, uu, uu, uu, uu, uu, uu, uu, uu, uu, uu, uu, uu, uu, uu, uu, uu, uu, uu, uu, uu, uu, uu, uu, uu, uu, uu, uu, uu, uu, uu, uu, uu, uu, uu, uu, uu, uu, uu, uu, uu, uu, uu, uu, uu, uu, uu, uu, uu, uu, uu, uu], hp := emp }
theorem S40_eq (n : Nat × Nat) (coins0 : List Int) (sum1 : Int) : S40 n coins0 sum1 =
    (S58 n coins0 sum1).bind fun r1' =>
    (bif (r1' != 0) then some (0, 0, r1')
    else (idx coins0 (wr .i64 ((coins0.length : Int) - 1))).bind fun x2' =>
      (S59 n coins0 (wr .i64 (sum1 + x2'))).bind fun r3' =>
      (bif inB sum1 r3'.length then (idx r3' sum1).bind fun x4' =>
        L40_1 n n.1 sum1 x2' x4' 0 1 r3'
      else none)) := by kernel_rfl
theorem S40_run (n : Nat × Nat) (xs : pksDen pk40) : S40 n xs.1 xs.2.1 = runG (E40 n) noScope c40 an40 (rtG rk40) (fun _ _ => none) (rtG rk40) (st0 pk40 xs Try.f40.ntmps) := by kernel_rfl
noncomputable def P40 (n : Nat × Nat) := phiOf pk40 rk40 (fun xs => S40 n xs.1 xs.2.1)
theorem call40 : CallOK Try.prog 40 := callOK_of Try.func40 (by kernel_rfl) (by kernel_rfl)
theorem env40 (n : Nat × Nat) : EnvOK Try.prog (E40 n) := envOK0 (consPhi_ok (FC58 n) call58 (consPhi_ok (FC59 n) call59 noPhi_ok)) rfl rfl
theorem par40 (n : Nat × Nat) : EnvPar (E40 n) := envPar0 (consPhi_par phiOf_Par1 (consPhi_par phiOf_Par1 noPhi_par)) rfl
theorem FC40 (n : Nat × Nat) : FCs Try.prog 40 (P40 n) := phiOf_FCs fun xs r h vs hv => FC.of_runG tabOK eqsOK (env40 n) (par40 n) mixed (fun _ => noScope_ok) Try.func40 (c := c40) (an := an40) (pks := pk40) (rks := rk40) (by kernel_rfl) (by kernel_rfl) hv ((S40_run n xs).symm.trans h)
end Go.Proofs.Ytjgmfdgpgdaclaa
set_option linter.unusedVariables false
set_option linter.unusedSimpArgs false
set_option maxRecDepth 100000
namespace Go.Proofs.Ytjgmfdgpgdaclaa
open Go.Vi
/-D 40 -/
noncomputable def DL40_2 (n : Nat × Nat) (f1 : Int → Int → Int → Int → Int → List Int → Option R40) (sum1 : Int) (most8 : Int) (pay10 : Int) (back11 : Int) (x12 : Int) (l9 : List Int) : Option R40 :=
    f1 sum1 most8 pay10 back11 (wr .i64 (x12 + 1)) l9
theorem DL40_2_eq (n : Nat × Nat) (hn : n.2 = 1) (m1 : Nat) : L40_2 n m1 = DL40_2 n (L40_1 n m1) := by
  funext sum1 most8 pay10 back11 x12 l9; refine ((held_eq hn _).trans (L40_2_raw n m1 sum1 most8 pay10 back11 x12 l9)).trans ?_
  unfold DL40_2
  (try simp only [S58_D n hn, S59_D n hn]) <;> first | with_reducible rfl | rfl
noncomputable def DF40_1 (n : Nat × Nat) (f1 : Int → Int → Int → Int → Int → List Int → Option R40) (sum1 : Int) (most8 : Int) (pay10 : Int) (back11 : Int) (x12 : Int) (l9 : List Int) : Option R40 :=
    (bif decide (x12 ≤ most8) then (bif inB (wr .i64 (sum1 + x12)) l9.length then (idx l9 (wr .i64 (sum1 + x12))).bind fun x5' =>
        (bif inB x12 l9.length then (idx l9 x12).bind fun x6' =>
          ((bif (decide (wr .i64 (x5' + x6') < wr .i64 (pay10 + back11)) == false) then ((bif (((wr .i64 (x5' + x6')) == (wr .i64 (pay10 + back11))) == true) then (bif inB x12 l9.length then (idx l9 x12).bind fun x7' =>
                    some (decide (x7' < back11))
                  else none)
                else some false)).bind fun b8' =>
              some b8'
            else some true)).bind fun b9' =>
          (bif b9' then (bif inB (wr .i64 (sum1 + x12)) l9.length then (idx l9 (wr .i64 (sum1 + x12))).bind fun x10' =>
              (bif inB x12 l9.length then (idx l9 x12).bind fun x11' =>
                DL40_2 n f1 sum1 most8 x10' x11' x12 l9
              else none)
            else none)
          else DL40_2 n f1 sum1 most8 pay10 back11 x12 l9)
        else none)
      else none)
    else some (pay10, back11, 0))
noncomputable def DL40_1 (n : Nat × Nat) (m : Nat) : Int → Int → Int → Int → Int → List Int → Option R40 := Nat.rec (motive := fun _ => Int → Int → Int → Int → Int → List Int → Option R40) (fun _ _ _ _ _ _ => none) (fun _ ih => DF40_1 n ih) m
theorem DL40_1_succ (n : Nat × Nat) (m : Nat) : DL40_1 n (m + 1) = DF40_1 n (DL40_1 n m) := rfl
theorem DL40_1_eq (n : Nat × Nat) (hn : n.2 = 1) : ∀ m, L40_1 n m = DL40_1 n m
  | 0 => by funext sum1 most8 pay10 back11 x12 l9; kernel_rfl
  | m + 1 => by
    have ih := DL40_1_eq n hn m
    funext sum1 most8 pay10 back11 x12 l9; refine (L40_1_eq n m sum1 most8 pay10 back11 x12 l9).trans ?_
    rw [DL40_1_succ]
    unfold DF40_1
    (try simp only [ih, DL40_2_eq n hn, S58_D n hn, S59_D n hn]) <;> first | with_reducible rfl | rfl
noncomputable def D40 (n : Nat × Nat) (coins0 : List Int) (sum1 : Int) : Option R40 :=
    (D58 n coins0 sum1).bind fun r1' =>
    (bif (r1' != 0) then some (0, 0, r1')
    else (idx coins0 (wr .i64 ((coins0.length : Int) - 1))).bind fun x2' =>
      (D59 n coins0 (wr .i64 (sum1 + x2'))).bind fun r3' =>
      (bif inB sum1 r3'.length then (idx r3' sum1).bind fun x4' =>
        DL40_1 n n.1 sum1 x2' x4' 0 1 r3'
      else none))
theorem S40_D (n : Nat × Nat) (hn : n.2 = 1) : S40 n = D40 n := by
  funext coins0 sum1; refine (S40_eq n coins0 sum1).trans ?_
  unfold D40
  (try simp only [DL40_2_eq n hn, DL40_1_eq n hn, S58_D n hn, S59_D n hn]) <;> first | with_reducible rfl | rfl
end Go.Proofs.Ytjgmfdgpgdaclaa
/-
  Sums of coins: the fewest coins of a sum, greatest coins, the first bad sum, one coin more (plain law).
-/
set_option linter.unusedVariables false
set_option linter.unusedSimpArgs false
namespace Go.Proofs.Ytjgmfdgpgdaclaa

/-- The sum is so many coins. -/
def Rch (cs : List Int) : Nat → Int → Prop
  | 0, s => s = 0
  | n + 1, s => ∃ c ∈ cs, Rch cs n (s - c)

theorem Rch.add {cs : List Int} {m : Nat} {t : Int} (h : Rch cs m t) : ∀ {n : Nat} {s : Int}, Rch cs n s → Rch cs (n + m) (s + t)
  | 0, s, h0 => by
    have h0 : s = 0 := h0
    subst h0
    simpa using h
  | n + 1, s, ⟨c, hc, h1⟩ => by
    rw [show n + 1 + m = (n + m) + 1 by omega]
    refine ⟨c, hc, ?_⟩
    rw [show s + t - c = (s - c) + t by omega]
    exact h.add h1
theorem Rch.one {cs : List Int} {c : Int} (hc : c ∈ cs) : Rch cs 1 c := ⟨c, hc, by show c - c = 0; omega⟩
theorem Rch.mono {cs ds : List Int} (h : ∀ c ∈ cs, c ∈ ds) : ∀ {n : Nat} {s : Int}, Rch cs n s → Rch ds n s
  | 0, s, h0 => h0
  | n + 1, s, ⟨c, hc, h1⟩ => ⟨c, h c hc, h1.mono h⟩
theorem Rch.le {cs : List Int} (hp : ∀ c ∈ cs, 1 ≤ c) : ∀ {n : Nat} {s : Int}, Rch cs n s → (n : Int) ≤ s
  | 0, s, h0 => by have h0 : s = 0 := h0; omega
  | n + 1, s, ⟨c, hc, h1⟩ => by have := h1.le hp; have := hp c hc; omega
theorem Rch.ones {cs : List Int} (h1 : 1 ∈ cs) : ∀ n : Nat, Rch cs n n
  | 0 => rfl
  | n + 1 => ⟨1, h1, by rw [show ((n + 1 : Nat) : Int) - 1 = n by omega]; exact Rch.ones h1 n⟩

theorem exMin (P : Nat → Prop) : (∃ n, P n) → ∃ n, P n ∧ ∀ m, P m → n ≤ m := by
  intro ⟨n, hn⟩
  induction n using Nat.strongRecOn with
  | ind n ih =>
    by_cases h : ∃ m, m < n ∧ P m
    · obtain ⟨m, h1, h2⟩ := h
      exact ih m h1 h2
    · refine ⟨n, hn, fun m hm => ?_⟩
      by_cases h' : m < n
      · exact absurd ⟨m, h', hm⟩ h
      · omega

/-- Coins: 1 is among them, and none is smaller. -/
structure Mnt (cs : List Int) : Prop where
  one : 1 ∈ cs
  pos : ∀ c ∈ cs, 1 ≤ c

open Classical in
/-- The fewest coins of a sum. -/
noncomputable def opt (cs : List Int) (s : Int) : Int := if h : ∃ n, Rch cs n s then ((Classical.choose (exMin _ h) : Nat) : Int) else 0

theorem opt_spec {cs : List Int} (hc : Mnt cs) {s : Int} (h0 : 0 ≤ s) : ∃ n : Nat, opt cs s = n ∧ Rch cs n s ∧ ∀ m, Rch cs m s → n ≤ m := by
  have h : ∃ n, Rch cs n s := ⟨s.toNat, by have := Rch.ones hc.one s.toNat; rwa [Int.toNat_of_nonneg h0] at this⟩
  refine ⟨_, by unfold opt; rw [dif_pos h], (Classical.choose_spec (exMin _ h)).1, (Classical.choose_spec (exMin _ h)).2⟩
theorem opt_le {cs : List Int} (hc : Mnt cs) {s : Int} {n : Nat} (h : Rch cs n s) : opt cs s ≤ n := by
  obtain ⟨k, h1, h2, h3⟩ := opt_spec hc (s := s) (by have := h.le hc.pos; omega)
  have := h3 n h
  omega
theorem opt_nonneg {cs : List Int} (hc : Mnt cs) {s : Int} (h0 : 0 ≤ s) : 0 ≤ opt cs s := by
  obtain ⟨n, h, _⟩ := opt_spec hc h0
  omega
theorem opt_zero {cs : List Int} (hc : Mnt cs) : opt cs 0 = 0 := by
  have h1 := opt_le hc (show Rch cs 0 0 from rfl)
  have h2 := opt_nonneg hc (Int.le_refl 0)
  omega
theorem opt_self {cs : List Int} (hc : Mnt cs) {s : Int} (h0 : 0 ≤ s) : opt cs s ≤ s := by
  have h := Rch.ones hc.one s.toNat
  have := opt_le hc h
  rw [Int.toNat_of_nonneg h0] at this
  omega
theorem opt_add {cs : List Int} (hc : Mnt cs) {s t : Int} (h0 : 0 ≤ s) (h1 : 0 ≤ t) : opt cs (s + t) ≤ opt cs s + opt cs t := by
  obtain ⟨n, a1, a2, _⟩ := opt_spec hc h0
  obtain ⟨m, b1, b2, _⟩ := opt_spec hc h1
  have := opt_le hc (b2.add a2)
  omega
theorem opt_coin {cs : List Int} (hc : Mnt cs) {c : Int} (h : c ∈ cs) : opt cs c = 1 := by
  have h1 := opt_le hc (Rch.one h)
  obtain ⟨n, a1, a2, _⟩ := opt_spec hc (s := c) (by have := hc.pos c h; omega)
  cases n with
  | zero => have : c = 0 := a2; have := hc.pos c h; omega
  | succ n => omega
theorem opt_more {cs : List Int} (hc : Mnt cs) {c s : Int} (h : c ∈ cs) (hs : 0 ≤ s) : opt cs (s + c) ≤ opt cs s + 1 := by
  have := opt_add hc hs (show 0 ≤ c by have := hc.pos c h; omega)
  rw [opt_coin hc h] at this
  exact this
theorem opt_less {cs : List Int} (hc : Mnt cs) {c s : Int} (h : c ∈ cs) (hs : c ≤ s) : opt cs s ≤ opt cs (s - c) + 1 := by
  have := opt_more hc h (s := s - c) (by omega)
  rwa [show s - c + c = s by omega] at this
theorem opt_step {cs : List Int} (hc : Mnt cs) {s : Int} (hs : 0 < s) : ∃ c ∈ cs, c ≤ s ∧ opt cs s = opt cs (s - c) + 1 := by
  obtain ⟨n, a1, a2, _⟩ := opt_spec hc (s := s) (by omega)
  cases n with
  | zero => have : s = 0 := a2; omega
  | succ n =>
    obtain ⟨c, hcc, h1⟩ := a2
    have hle := h1.le hc.pos
    have h2 := opt_le hc h1
    have h3 := opt_less hc hcc (s := s) (by omega)
    exact ⟨c, hcc, by omega, by omega⟩
theorem opt_pos {cs : List Int} (hc : Mnt cs) {s : Int} (hs : 0 < s) : 1 ≤ opt cs s := by
  obtain ⟨c, h1, h2, h3⟩ := opt_step hc hs
  have := opt_nonneg hc (s := s - c) (by omega)
  omega
/-- What the fewest coins are, up to a sum. -/
theorem opt_unique {cs : List Int} (hc : Mnt cs) {f : Int → Int} {M : Int} (f0 : f 0 = 0) (h1 : ∀ s, 0 < s → s ≤ M → ∃ c ∈ cs, c ≤ s ∧ f s = f (s - c) + 1)
    (h2 : ∀ s, 0 < s → s ≤ M → ∀ c ∈ cs, c ≤ s → f s ≤ f (s - c) + 1) : ∀ s, 0 ≤ s → s ≤ M → f s = opt cs s := by
  have key : ∀ k : Nat, (k : Int) ≤ M → f k = opt cs k := by
    intro k
    induction k using Nat.strongRecOn with
    | ind k ih =>
      intro hk
      by_cases h0 : k = 0
      · subst h0
        rw [show ((0 : Nat) : Int) = 0 from rfl, f0, opt_zero hc]
      · have ih' : ∀ c ∈ cs, c ≤ (k : Int) → f (k - c) = opt cs (k - c) := fun c hcc hck => by
          have := hc.pos c hcc
          have := ih (k - c).toNat (by omega) (by omega)
          rwa [Int.toNat_of_nonneg (by omega)] at this
        obtain ⟨c, a1, a2, a3⟩ := h1 k (by omega) hk
        obtain ⟨d, b1, b2, b3⟩ := opt_step hc (s := (k : Int)) (by omega)
        have := ih' c a1 a2
        have := ih' d b1 b2
        have := h2 k (by omega) hk d b1 b2
        have := opt_less hc a1 a2
        omega
  intro s hs hM
  have := key s.toNat (by omega)
  rwa [Int.toNat_of_nonneg hs] at this
theorem opt_mono {cs ds : List Int} (hc : Mnt cs) (hd : Mnt ds) (h : ∀ c ∈ cs, c ∈ ds) {s : Int} (hs : 0 ≤ s) : opt ds s ≤ opt cs s := by
  obtain ⟨n, a1, a2, _⟩ := opt_spec hc hs
  have := opt_le hd (a2.mono h)
  omega

/-- The number of greatest coins: the coins in falling order. -/
def grd : List Int → Int → Int
  | [], _ => 0
  | d :: ds, s => s / d + grd ds (s % d)

theorem grd_cons (d : Int) (ds : List Int) (s : Int) : grd (d :: ds) s = s / d + grd ds (s % d) := rfl

theorem grd_nonneg : ∀ {ds : List Int} (hp : ∀ c ∈ ds, 1 ≤ c) {s : Int}, 0 ≤ s → 0 ≤ grd ds s
  | [], _, s, _ => Int.le_refl 0
  | d :: ds, hp, s, hs => by
    have h1 := hp d (by simp)
    have h2 := Int.ediv_nonneg hs (show 0 ≤ d by omega)
    have h3 := grd_nonneg (ds := ds) (fun c h => hp c (by simp [h])) (Int.emod_nonneg s (show d ≠ 0 by omega))
    rw [grd_cons]
    omega
theorem grd_rch : ∀ {ds : List Int} (hp : ∀ c ∈ ds, 1 ≤ c) (h1 : 1 ∈ ds) {s : Int}, 0 ≤ s → Rch ds (grd ds s).toNat s
  | [], _, h1, _, _ => by cases h1
  | d :: ds, hp, h1, s, hs => by
    have hd := hp d (by simp)
    have hq := Int.ediv_nonneg hs (show 0 ≤ d by omega)
    have hr := Int.emod_nonneg s (show d ≠ 0 by omega)
    have key : ∀ k : Nat, Rch (d :: ds) k ((k : Int) * d) := by
      intro k
      induction k with
      | zero => show (0 : Int) * d = 0; simp
      | succ k ih => exact ⟨d, by simp, by rw [show ((k + 1 : Nat) : Int) * d - d = (k : Int) * d by rw [Int.natCast_add, Int.add_mul]; omega]; exact ih⟩
    have hk := key (s / d).toNat
    rw [Int.toNat_of_nonneg hq] at hk
    have hg := Int.mul_ediv_add_emod s d
    have hr2 : Rch (d :: ds) (grd ds (s % d)).toNat (s % d) := by
      by_cases h : 1 ∈ ds
      · exact (grd_rch (fun c h => hp c (by simp [h])) h hr).mono (fun c h => by simp [h])
      · have : d = 1 := by
          rcases List.mem_cons.1 h1 with h1 | h1
          · exact h1.symm
          · exact absurd h1 h
        subst this
        have h0 : s % 1 = 0 := by omega
        rw [h0]
        have hz : ∀ l : List Int, grd l 0 = 0 := by
          intro l
          induction l with
          | nil => rfl
          | cons a l ih => simp [grd, ih]
        rw [hz]
        rfl
    have := hr2.add hk
    have hn := grd_nonneg (ds := ds) (fun c h => hp c (by simp [h])) hr
    have e : (grd (d :: ds) s).toNat = (s / d).toNat + (grd ds (s % d)).toNat := by
      show (s / d + grd ds (s % d)).toNat = _
      omega
    rw [e]
    have e2 : s / d * d + s % d = s := by rw [Int.mul_comm]; omega
    rw [e2] at this
    exact this
theorem grd_zero : ∀ l : List Int, grd l 0 = 0
  | [] => rfl
  | a :: l => by simp [grd, grd_zero l]
theorem grd_small {d : Int} {ds : List Int} {s : Int} (h0 : 0 ≤ s) (h : s < d) : grd (d :: ds) s = grd ds s := by
  rw [grd_cons]
  rw [Int.ediv_eq_zero_of_lt h0 h, Int.emod_eq_of_lt h0 h]
  omega
theorem grd_big {d : Int} {ds : List Int} {s : Int} (hd : 1 ≤ d) (h : d ≤ s) : grd (d :: ds) s = grd (d :: ds) (s - d) + 1 := by
  rw [grd_cons, grd_cons]
  have h1 : (s - d) % d = s % d := by simp
  have h2 : (s - d) / d = s / d - 1 := by
    have := Int.add_mul_ediv_right s (-1) (show d ≠ 0 by omega)
    rw [show s + -1 * d = s - d by omega] at this
    omega
  rw [h1, h2]
  omega
theorem grd_opt {ds : List Int} (hc : Mnt ds) {s : Int} (hs : 0 ≤ s) : opt ds s ≤ grd ds s := by
  have h := opt_le hc (grd_rch hc.pos hc.one hs)
  rw [Int.toNat_of_nonneg (grd_nonneg hc.pos hs)] at h
  exact h

/-- Greatest coins are best for this sum. -/
def Well (ds : List Int) (s : Int) : Prop := grd ds s ≤ opt ds s
theorem Well.eq {ds : List Int} {s : Int} (hc : Mnt ds) (hs : 0 ≤ s) (h : Well ds s) : grd ds s = opt ds s := by
  have := grd_opt hc hs
  unfold Well at h
  omega

/-- The first bad sum is smaller than the two greatest coins together. -/
theorem kozen {d e : Int} {ds : List Int} (hc : Mnt (d :: e :: ds)) (hde : e < d) (hle : ∀ c ∈ ds, c ≤ e) {w : Int} (hw : 0 ≤ w) (hb : ¬ Well (d :: e :: ds) w) (hmin : ∀ s, 0 ≤ s → s < w → Well (d :: e :: ds) s) : w < d + e := by
  refine Int.not_le.1 fun hge => hb ?_
  have he1 := hc.pos e (by simp)
  have hd1 := hc.pos d (by simp)
  obtain ⟨c, hcm, hcw, hco⟩ := opt_step hc (s := w) (by omega)
  have hcp := hc.pos c hcm
  have hgw := grd_big (ds := e :: ds) hd1 (show d ≤ w by omega)
  have hd' := (hmin (w - d) (by omega) (by omega)).eq hc (by omega)
  unfold Well
  rcases List.mem_cons.1 hcm with rfl | hcm2
  · omega
  · have hce : c ≤ e := by
      rcases List.mem_cons.1 hcm2 with rfl | h
      · exact Int.le_refl _
      · exact hle c h
    have hc' := (hmin (w - c) (by omega) (by omega)).eq hc (by omega)
    have hg2 := grd_big (ds := e :: ds) hd1 (show d ≤ w - c by omega)
    have h3 := opt_less hc hcm (s := w - d) (by omega)
    have h4 := grd_opt hc (s := w - c - d) (by omega)
    rw [show w - d - c = w - c - d by omega] at h3
    omega

/-- A greatest coin more changes nothing for smaller sums. -/
theorem opt_cons {d : Int} {ds : List Int} (hc : Mnt (d :: ds)) (hd : Mnt ds) {s : Int} (hs : 0 ≤ s) (h : s < d) : opt (d :: ds) s = opt ds s := by
  refine (opt_unique (f := opt ds) hc (M := d - 1) (opt_zero hd) (fun s h1 h2 => ?_) (fun s h1 h2 c hcm hcs => ?_) s hs (by omega)).symm
  · obtain ⟨c, a1, a2, a3⟩ := opt_step hd h1
    exact ⟨c, by simp [a1], a2, a3⟩
  · rcases List.mem_cons.1 hcm with rfl | hcm
    · omega
    · exact opt_less hd hcm hcs
theorem well_cons {d : Int} {ds : List Int} (hc : Mnt (d :: ds)) (hd : Mnt ds) {s : Int} (hs : 0 ≤ s) (h : s < d) : Well (d :: ds) s ↔ Well ds s := by
  unfold Well
  rw [opt_cons hc hd hs h, grd_small hs h]
theorem well_top {d : Int} {ds : List Int} (hc : Mnt (d :: ds)) : Well (d :: ds) d := by
  unfold Well
  rw [opt_coin hc (by simp), grd_cons]
  have := hc.pos d (by simp)
  rw [Int.ediv_self (by omega), Int.emod_self, grd_zero]
  omega

/-- One coin: always well. -/
theorem well_one : ∀ s, 0 ≤ s → Well [1] s := by
  intro s hs
  have hc : Mnt [1] := ⟨by simp, by simp⟩
  unfold Well
  have h1 : grd [1] s = s := by simp [grd]
  rw [h1]
  obtain ⟨n, a1, a2, _⟩ := opt_spec hc hs
  have : ∀ (n : Nat) (t : Int), Rch [1] n t → t = n := by
    intro n
    induction n with
    | zero => intro t h; exact h
    | succ n ih =>
      intro t ⟨c, h1, h2⟩
      simp at h1
      have := ih _ h2
      omega
  have := this n s a2
  omega

/-- All bad sums, or none: there is a first one. -/
theorem first_bad {ds : List Int} (h : ¬ ∀ s, 0 ≤ s → Well ds s) : ∃ w, 0 ≤ w ∧ ¬ Well ds w ∧ ∀ s, 0 ≤ s → s < w → Well ds s := by
  have : ∃ n : Nat, ¬ Well ds n := by
    refine Classical.byContradiction fun hn => h fun s hs => Classical.byContradiction fun hw => hn ⟨s.toNat, by rwa [Int.toNat_of_nonneg hs]⟩
  obtain ⟨n, h1, h2⟩ := exMin (fun n : Nat => ¬ Well ds n) this
  refine ⟨n, by omega, h1, fun s hs hsn => Classical.byContradiction fun hw => ?_⟩
  have := h2 s.toNat (by rwa [Int.toNat_of_nonneg hs])
  omega

/-- Two coins are good. -/
theorem well_two {d : Int} (hd : 1 < d) : ∀ s, 0 ≤ s → Well [d, 1] s := by
  refine Classical.byContradiction fun h => ?_
  have hc : Mnt [d, 1] := ⟨by simp, by simp; omega⟩
  obtain ⟨w, h0, h1, h2⟩ := first_bad h
  have := kozen (ds := []) hc hd (by simp) h0 h1 h2
  by_cases e : w = d
  · subst e
    exact h1 (well_top hc)
  · exact h1 ((well_cons hc ⟨by simp, by simp⟩ h0 (by omega)).2 (well_one w h0))

/-- The first bad sum is greater than the third coin and 1. -/
theorem kozen_low : ∀ {ds : List Int} {c b : Int} (hp : (ds ++ [c, b, 1]).Pairwise (· > ·)) {w : Int} (h0 : 0 ≤ w) (hb : ¬ Well (ds ++ [c, b, 1]) w), c + 1 < w := by
  have base : ∀ {ds : List Int} {c b : Int} (hp : (ds ++ [c, b, 1]).Pairwise (· > ·)) {w : Int}, 0 ≤ w → w ≤ c → Well (ds ++ [c, b, 1]) w := by
    intro ds
    induction ds with
    | nil =>
      intro c b hp w h0 hw
      simp at hp
      have hc : Mnt [c, b, 1] := ⟨by simp, by simp; omega⟩
      have hc2 : Mnt [b, 1] := ⟨by simp, by simp; omega⟩
      by_cases e : w = c
      · subst e
        exact well_top hc
      · exact (well_cons hc hc2 h0 (by omega)).2 (well_two (by omega) w h0)
    | cons d ds ih =>
      intro c b hp w h0 hw
      have hp2 : (ds ++ [c, b, 1]).Pairwise (· > ·) := (List.pairwise_cons.1 hp).2
      have hd := (List.pairwise_cons.1 hp).1
      have hcd := hd c (by simp)
      have m2 : Mnt (ds ++ [c, b, 1]) := by
        refine ⟨by simp, ?_⟩
        have : ∀ (l : List Int), (l ++ [c, b, 1]).Pairwise (· > ·) → ∀ x ∈ l ++ [c, b, 1], 1 ≤ x := by
          intro l
          induction l with
          | nil => intro h x hx; simp at h hx; omega
          | cons a l ih =>
            intro h x hx
            have h2 := List.pairwise_cons.1 h
            rcases List.mem_cons.1 hx with rfl | hx
            · have := h2.1 1 (by simp); omega
            · exact ih h2.2 x hx
        exact this ds hp2
      have m1 : Mnt (d :: (ds ++ [c, b, 1])) := ⟨by simp, fun x hx => by
        rcases List.mem_cons.1 hx with rfl | hx
        · have := hd 1 (by simp); omega
        · exact m2.pos x hx⟩
      exact (well_cons m1 m2 h0 (by omega)).2 (ih hp2 h0 hw)
  intro ds c b hp w h0 hb
  refine Int.not_le.1 fun hle => hb ?_
  by_cases h1 : w ≤ c
  · exact base hp h0 h1
  · have e : w = c + 1 := by omega
    subst e
    -- the sum c + 1: itself a coin, or two coins
    have pos : ∀ (l : List Int), (l ++ [c, b, 1]).Pairwise (· > ·) → ∀ x ∈ l ++ [c, b, 1], 1 ≤ x := by
      intro l
      induction l with
      | nil => intro h x hx; simp at h hx; omega
      | cons a l ih =>
        intro h x hx
        have h2 := List.pairwise_cons.1 h
        rcases List.mem_cons.1 hx with rfl | hx
        · have := h2.1 1 (by simp); omega
        · exact ih h2.2 x hx
    have key : ∀ (l : List Int), (l ++ [c, b, 1]).Pairwise (· > ·) → Well (l ++ [c, b, 1]) (c + 1) := by
      intro l
      induction l with
      | nil =>
        intro h
        have m : Mnt [c, b, 1] := ⟨by simp, pos [] h⟩
        simp at h
        have hg : grd [c, b, 1] (c + 1) = 2 := by
          rw [grd_big (by omega) (by omega), show c + 1 - c = 1 by omega, grd_small (by omega) (by omega), grd_small (by omega) (by omega)]
          rfl
        show grd [c, b, 1] (c + 1) ≤ opt [c, b, 1] (c + 1)
        rw [hg]
        obtain ⟨x, hx, hxs, ho⟩ := opt_step m (s := c + 1) (by omega)
        have : x ≤ c := by simp at hx; omega
        have := opt_pos m (s := c + 1 - x) (by omega)
        omega
      | cons a l ih =>
        intro h
        have h2 := List.pairwise_cons.1 h
        have m2 : Mnt (l ++ [c, b, 1]) := ⟨by simp, pos l h2.2⟩
        have m1 : Mnt (a :: (l ++ [c, b, 1])) := ⟨by simp, pos (a :: l) h⟩
        have hac := h2.1 c (by simp)
        by_cases e : c + 1 = a
        · rw [e]
          exact well_top m1
        · exact (well_cons m1 m2 (by have := m2.pos c (by simp); omega) (by omega)).2 (ih h2.2)
    exact key ds hp

/-- One coin more: one sum tells whether coins stay good. -/
theorem one_point {c d : Int} {ds : List Int} (hc : Mnt (c :: d :: ds)) (hd : Mnt (d :: ds)) (hdc : d < c) (hxlt : ∀ x ∈ d :: ds, x < c) (hg : ∀ s, 0 ≤ s → Well (d :: ds) s) {m : Int} (hm1 : c ≤ m * d) (hm2 : m * d < c + d)
    (h : grd (c :: d :: ds) (m * d) ≤ m) : ∀ s, 0 ≤ s → Well (c :: d :: ds) s := by
  have hd1 := hd.pos d (by simp)
  have e1 := grd_big (ds := d :: ds) (show 1 ≤ c by omega) hm1
  have e2 := grd_small (ds := d :: ds) (show 0 ≤ m * d - c by omega) (show m * d - c < c by omega)
  have hgo : ∀ s, 0 ≤ s → grd (d :: ds) s = opt (d :: ds) s := fun s hs => (hg s hs).eq hd hs
  have hmul : ∀ (k : Nat) (y : Int), 0 ≤ y → grd (d :: ds) (y + (k : Int) * d) = grd (d :: ds) y + k := by
    intro k
    induction k with
    | zero => intro y hy; simp
    | succ k ih =>
      intro y hy
      have hk : 0 ≤ (k : Int) * d := Int.mul_nonneg (by omega) (by omega)
      have e : ((k + 1 : Nat) : Int) * d = (k : Int) * d + d := by rw [Int.natCast_add, Int.add_mul]; omega
      rw [e, grd_big hd1 (by omega), show y + ((k : Int) * d + d) - d = y + (k : Int) * d by omega, ih y hy]
      omega
  have hm0 : 1 ≤ m := by
    refine Int.not_lt.1 fun h => ?_
    have : m * d ≤ 0 := Int.mul_nonpos_of_nonpos_of_nonneg (by omega) (by omega)
    omega
  have hmd : (m - 1) * d = m * d - d := by rw [Int.sub_mul]; omega
  -- one more coin c is no loss
  have step : ∀ y, c ≤ y → grd (d :: ds) (y - c) + 1 ≤ grd (d :: ds) y := by
    intro y hy
    by_cases hym : m * d ≤ y
    · have a1 := hmul m.toNat (y - m * d) (by omega)
      rw [Int.toNat_of_nonneg (by omega), show y - m * d + m * d = y by omega] at a1
      have a2 := opt_add hd (s := y - m * d) (t := m * d - c) (by omega) (by omega)
      rw [show y - m * d + (m * d - c) = y - c by omega, ← hgo _ (by omega), ← hgo _ (by omega), ← hgo _ (by omega)] at a2
      omega
    · have a1 := hmul (m - 1).toNat (y - (m - 1) * d) (by omega)
      rw [Int.toNat_of_nonneg (by omega), show y - (m - 1) * d + (m - 1) * d = y by omega] at a1
      have a2 := opt_add hd (s := y - (m - 1) * d) (t := m * d - c) (by omega) (by omega)
      rw [← hgo _ (by omega), ← hgo _ (by omega), ← hgo _ (by omega)] at a2
      have a3 := grd_big (ds := ds) hd1 (show d ≤ y - (m - 1) * d + (m * d - c) by omega)
      rw [show y - (m - 1) * d + (m * d - c) - d = y - c by omega] at a3
      omega
  -- all payments of the new coins
  have nb : ∀ (k : Nat) (s : Int), Rch (c :: d :: ds) k s → 0 ≤ s → grd (c :: d :: ds) s ≤ k := by
    intro k
    induction k with
    | zero => intro s hs h0; have hs : s = 0 := hs; subst hs; rw [grd_zero]; omega
    | succ k ihk =>
      intro s ⟨x, hx, hr⟩ h0
      have hsx := hr.le hc.pos
      have hxp := hc.pos x hx
      have b1 := ihk (s - x) hr (by omega)
      -- grd s ≤ grd (s - x) + 1
      have lip : ∀ (j : Nat) (t : Int), 0 ≤ t → t < (j : Int) → grd (c :: d :: ds) (t + x) ≤ grd (c :: d :: ds) t + 1 := by
        intro j
        induction j with
        | zero => intro t h1 h2; omega
        | succ j ihj =>
          intro t h1 h2
          by_cases htc : c ≤ t
          · have := ihj (t - c) (by omega) (by omega)
            rw [grd_big (show 1 ≤ c by omega) (show c ≤ t + x by omega), grd_big (show 1 ≤ c by omega) htc, show t + x - c = t - c + x by omega]
            omega
          · rcases List.mem_cons.1 hx with rfl | hx2
            · rw [grd_big (show 1 ≤ x by omega) (show x ≤ t + x by omega), show t + x - x = t by omega]
              omega
            · have hl : grd (d :: ds) (t + x) ≤ grd (d :: ds) t + 1 := by
                rw [hgo _ (by omega), hgo _ h1]
                exact opt_more hd hx2 h1
              rw [grd_small (ds := d :: ds) h1 (by omega)]
              by_cases hxc : t + x < c
              · rw [grd_small (by omega) hxc]
                exact hl
              · have hs1 := step (t + x) (by omega)
                rw [grd_big (show 1 ≤ c by omega) (by omega)]
                by_cases h2c : t + x - c < c
                · rw [grd_small (by omega) h2c]
                  omega
                · -- x < c, so the rest is smaller than c
                  exfalso
                  have : x ≤ c := by
                    have := hxlt x hx2
                    omega
                  omega
      have := lip ((s - x).toNat + 1) (s - x) (by omega) (by omega)
      rw [show s - x + x = s by omega] at this
      omega
  intro s hs
  obtain ⟨k, o1, o2, _⟩ := opt_spec hc hs
  have := nb k s o2 hs
  unfold Well
  omega
end Go.Proofs.Ytjgmfdgpgdaclaa
/-
  Payments: the first of those with the fewest coins (plain law).
-/
set_option linter.unusedVariables false
set_option linter.unusedSimpArgs false
namespace Go.Proofs.Ytjgmfdgpgdaclaa

/-- A payment out of a purse. -/
def Pay : List Int → List Int → Int → List Int → Prop
  | [], _, s, p => s = 0 ∧ p = []
  | c :: cs, qs, s, p => ∃ n p', p = n :: p' ∧ 0 ≤ n ∧ n ≤ qs.headD 0 ∧ Pay cs qs.tail (s - n * c) p'
/-- A payment out of a purse that is never empty. -/
def PayU : List Int → Int → List Int → Prop
  | [], s, p => s = 0 ∧ p = []
  | c :: cs, s, p => ∃ n p', p = n :: p' ∧ 0 ≤ n ∧ PayU cs (s - n * c) p'
def tot : List Int → Int
  | [] => 0
  | n :: l => n + tot l
/-- The order of payments. -/
def Lx : List Int → List Int → Prop
  | n :: p, m :: q => n < m ∨ n = m ∧ Lx p q
  | _, _ => True

theorem Pay.length : ∀ {cs qs : List Int} {s : Int} {p : List Int}, Pay cs qs s p → p.length = cs.length
  | [], _, s, p, h => by rw [h.2]
  | c :: cs, qs, s, p, ⟨n, p', h1, h2, h3, h4⟩ => by rw [h1]; simp [h4.length]
theorem PayU.length : ∀ {cs : List Int} {s : Int} {p : List Int}, PayU cs s p → p.length = cs.length
  | [], s, p, h => by rw [h.2]
  | c :: cs, s, p, ⟨n, p', h1, h2, h4⟩ => by rw [h1]; simp [h4.length]
theorem Pay.free : ∀ {cs qs : List Int} {s : Int} {p : List Int}, Pay cs qs s p → PayU cs s p
  | [], _, s, p, h => h
  | c :: cs, qs, s, p, ⟨n, p', h1, h2, h3, h4⟩ => ⟨n, p', h1, h2, h4.free⟩
theorem PayU.sum {cs : List Int} : ∀ (hp : ∀ c ∈ cs, 1 ≤ c) {s : Int} {p : List Int}, PayU cs s p → 0 ≤ tot p ∧ tot p ≤ s := by
  induction cs with
  | nil => intro hp s p h; rw [h.1, h.2]; exact ⟨Int.le_refl _, Int.le_refl _⟩
  | cons c cs ih =>
    intro hp s p ⟨n, p', h1, h2, h4⟩
    obtain ⟨a, b⟩ := ih (fun c h => hp c (by simp [h])) h4
    have hc := hp c (by simp)
    have : n * 1 ≤ n * c := Int.mul_le_mul_of_nonneg_left hc h2
    rw [h1]
    simp only [tot]
    omega
theorem PayU.lim {cs : List Int} : ∀ (hp : ∀ c ∈ cs, 1 ≤ c) {qs : List Int} {s m : Int} {p : List Int}, PayU cs s p → s ≤ m → qs.length = cs.length → (∀ q ∈ qs, m ≤ q) → Pay cs qs s p := by
  induction cs with
  | nil => intro hp qs s m p h hm hl hq; exact h
  | cons c cs ih =>
    intro hp qs s m p ⟨n, p', h1, h2, h4⟩ hm hl hq
    have hc := hp c (by simp)
    have hnc : n * 1 ≤ n * c := Int.mul_le_mul_of_nonneg_left hc h2
    obtain ⟨a, b⟩ := PayU.sum (fun c h => hp c (by simp [h])) h4
    cases qs with
    | nil => simp at hl
    | cons q qs =>
      have := hq q (by simp)
      exact ⟨n, p', h1, h2, by show n ≤ q; omega, ih (fun c h => hp c (by simp [h])) h4 (by omega : s - n * c ≤ m) (by simpa using hl) (fun x h => hq x (List.mem_cons_of_mem _ h))⟩

theorem Lx.refl : ∀ p : List Int, Lx p p
  | [] => trivial
  | n :: p => .inr ⟨rfl, Lx.refl p⟩
theorem Lx.anti : ∀ {p q : List Int}, p.length = q.length → Lx p q → Lx q p → p = q
  | [], [], _, _, _ => rfl
  | [], _ :: _, h, _, _ => by simp at h
  | _ :: _, [], h, _, _ => by simp at h
  | n :: p, m :: q, h, h1, h2 => by
    rcases h1 with h1 | ⟨rfl, h1⟩
    · rcases h2 with h2 | ⟨rfl, h2⟩ <;> omega
    · rcases h2 with h2 | ⟨_, h2⟩
      · omega
      · rw [Lx.anti (by simpa using h) h1 h2]

/-- The first of the payments with the fewest coins. -/
def IsBst (A : List Int → Prop) (p : List Int) : Prop := A p ∧ ∀ p', A p' → tot p < tot p' ∨ tot p = tot p' ∧ Lx p p'
theorem IsBst.uniq {A : List Int → Prop} {p q : List Int} (hl : p.length = q.length) (h : IsBst A p) (k : IsBst A q) : p = q := by
  have h1 := h.2 q k.1
  have h2 := k.2 p h.1
  rcases h1 with h1 | ⟨h1, h3⟩ <;> rcases h2 with h2 | ⟨h2, h4⟩
  · omega
  · omega
  · omega
  · exact Lx.anti hl h3 h4
theorem IsBst.congr {A B : List Int → Prop} {p : List Int} (h : IsBst A p) (e : ∀ p, A p ↔ B p) : IsBst B p := ⟨(e p).1 h.1, fun p' h' => h.2 p' ((e p').2 h')⟩

/-- Payments and sums of single coins. -/
theorem PayU.rch {cs : List Int} : ∀ {s : Int} {p : List Int}, PayU cs s p → Rch cs (tot p).toNat s := by
  induction cs with
  | nil => intro s p h; rw [h.1, h.2]; rfl
  | cons c cs ih =>
    intro s p ⟨n, p', h1, h2, h4⟩
    have h5 := (ih h4).mono (ds := c :: cs) (fun x h => by simp [h])
    have key : ∀ k : Nat, Rch (c :: cs) k ((k : Int) * c) := by
      intro k
      induction k with
      | zero => show (0 : Int) * c = 0; simp
      | succ k ih => exact ⟨c, by simp, by rw [show ((k + 1 : Nat) : Int) * c - c = (k : Int) * c by rw [Int.natCast_add, Int.add_mul]; omega]; exact ih⟩
    have h6 := key n.toNat
    rw [Int.toNat_of_nonneg h2] at h6
    have h7 := h5.add h6
    have ht : 0 ≤ tot p' := by
      have : ∀ {cs : List Int} {s : Int} {p : List Int}, PayU cs s p → 0 ≤ tot p := by
        intro cs
        induction cs with
        | nil => intro s p h; rw [h.2]; exact Int.le_refl _
        | cons c cs ih => intro s p ⟨n, p', h1, h2, h4⟩; have := ih h4; rw [h1]; simp only [tot]; omega
      exact this h4
    rw [h1]
    simp only [tot]
    rw [show (n + tot p').toNat = n.toNat + (tot p').toNat by omega]
    rwa [show n * c + (s - n * c) = s by omega] at h7
theorem PayU.zero : ∀ cs : List Int, ∃ p, PayU cs 0 p ∧ tot p = 0
  | [] => ⟨[], ⟨rfl, rfl⟩, rfl⟩
  | c :: cs => by
    obtain ⟨p, h1, h2⟩ := PayU.zero cs
    exact ⟨0 :: p, ⟨0, p, rfl, Int.le_refl _, by simpa using h1⟩, by simp only [tot]; omega⟩
theorem PayU.bump {c : Int} : ∀ {cs : List Int} {s : Int} {p : List Int}, PayU cs s p → c ∈ cs → ∃ p', PayU cs (s + c) p' ∧ tot p' = tot p + 1
  | [], _, _, _, h => by cases h
  | d :: cs, s, p, ⟨n, p', h1, h2, h4⟩, h => by
    rcases List.mem_cons.1 h with rfl | h
    · exact ⟨(n + 1) :: p', ⟨n + 1, p', rfl, by omega, by rw [Int.add_mul, show s + c - (n * c + 1 * c) = s - n * c by omega]; exact h4⟩, by rw [h1]; simp only [tot]; omega⟩
    · obtain ⟨p'', h5, h6⟩ := h4.bump h
      exact ⟨n :: p'', ⟨n, p'', rfl, h2, by rw [show s + c - n * d = s - n * d + c by omega]; exact h5⟩, by rw [h1]; simp only [tot]; omega⟩
theorem Rch.payU {cs : List Int} : ∀ {n : Nat} {s : Int}, Rch cs n s → ∃ p, PayU cs s p ∧ tot p = n
  | 0, s, h => by
    have h : s = 0 := h
    subst h
    obtain ⟨p, h1, h2⟩ := PayU.zero cs
    exact ⟨p, h1, by rw [h2]; rfl⟩
  | n + 1, s, ⟨c, hc, h⟩ => by
    obtain ⟨p, h1, h2⟩ := h.payU
    obtain ⟨p', h3, h4⟩ := h1.bump hc
    exact ⟨p', by rwa [show s - c + c = s by omega] at h3, by omega⟩
theorem opt_pay {cs : List Int} (hc : Mnt cs) {s : Int} (hs : 0 ≤ s) : ∃ p, PayU cs s p ∧ tot p = opt cs s := by
  obtain ⟨n, h1, h2, _⟩ := opt_spec hc hs
  obtain ⟨p, h3, h4⟩ := h2.payU
  exact ⟨p, h3, by omega⟩
theorem opt_pay_le {cs : List Int} (hc : Mnt cs) {s : Int} {p : List Int} (h : PayU cs s p) : opt cs s ≤ tot p := by
  have h1 := opt_le hc h.rch
  have h2 := (PayU.sum hc.pos h).1
  omega
/-- The first best payment has the fewest coins. -/
theorem IsBst.opt {cs : List Int} (hc : Mnt cs) {s : Int} (hs : 0 ≤ s) {p : List Int} (h : IsBst (PayU cs s) p) : tot p = opt cs s := by
  obtain ⟨q, h1, h2⟩ := opt_pay hc hs
  have h3 := opt_pay_le hc h.1
  rcases h.2 q h1 with h4 | ⟨h4, _⟩ <;> omega
/-- The full purse. -/
theorem pay_full {cs : List Int} (hp : ∀ c ∈ cs, 1 ≤ c) {qs : List Int} {s m : Int} (hm : s ≤ m) (hl : qs.length = cs.length) (hq : ∀ q ∈ qs, m ≤ q) (p : List Int) : Pay cs qs s p ↔ PayU cs s p :=
  ⟨Pay.free, fun h => h.lim hp hm hl hq⟩
end Go.Proofs.Ytjgmfdgpgdaclaa
/-
  Coins: what is checked (both), the fewest coins of each sum (the program's and the reference's table).
-/
set_option linter.unusedVariables false
set_option linter.unusedSimpArgs false
namespace Go.Proofs.Ytjgmfdgpgdaclaa
open Go.Vi

theorem wr_ok {x : Int} (h1 : -9223372036854775808 ≤ x) (h2 : x ≤ 9223372036854775807) : wr .i64 x = x := by
  have : wr .i64 x = (x + 9223372036854775808) % 18446744073709551616 - 9223372036854775808 := by
    simp only [wr, IntKind.wrap, IntKind.signed, IntKind.bits]
    simp
    split <;> omega
  rw [this]
  omega
theorem idx_nat {α : Type} {l : List α} {k : Nat} (h : k < l.length) : idx l (k : Int) = some l[k] := by
  unfold idx
  rw [if_pos (by omega), Int.toNat_natCast, List.getElem?_eq_getElem h]
theorem idx_int {α : Type} {l : List α} {k : Nat} {i : Int} (hi : i = k) (h : k < l.length) : idx l i = some l[k] := by
  subst hi
  exact idx_nat h
theorem drop_cons {α : Type} {l : List α} {k : Nat} (h : k < l.length) : l.drop k = l[k] :: l.drop (k + 1) := List.drop_eq_getElem_cons h
theorem inB_nat {k n : Nat} (h : k < n) : inB (k : Int) n = true := by
  unfold inB
  simp [h]

/-- What is checked, behind a coin. -/
def chkl : Option Int → List Int → Int
  | _, [] => 0
  | p, c :: l => if c < 1 ∨ 40 < c then 1 else if c ≤ p.getD 0 then 7 else chkl (some c) l
def chk (cs : List Int) : Int := if cs.length = 0 then 4 else if 6 < cs.length then 3 else if chkl none cs = 0 then (if cs.headD 0 = 1 then 0 else 5) else chkl none cs

def lst (cs : List Int) (k : Nat) : Option Int := if k = 0 then none else cs[k - 1]?

theorem chk_loop (n : Nat × Nat) (cs : List Int) (hl : cs.length ≤ 6) (h0 : 0 < cs.length) : ∀ (m k : Nat), k ≤ cs.length → cs.length - k < m → (∀ j (h : j < cs.length), j < k → 1 ≤ cs[j]) →
    DL25_1 n m cs cs (cs.length : Int) (k : Int) = some (if chkl (lst cs k) (cs.drop k) = 0 then (if cs.headD 0 = 1 then 0 else 5) else chkl (lst cs k) (cs.drop k))
  | 0, k, _, h, _ => by omega
  | m + 1, k, hk, h, hp => by
    rw [DL25_1_succ]
    unfold DF25_1
    by_cases hlt : k < cs.length
    · rw [decide_eq_true (show (k : Int) < (cs.length : Int) by omega), cond_true, idx_nat hlt, drop_cons hlt]
      simp only [Option.bind_some, chkl]
      generalize hc : cs[k] = c
      by_cases h1 : c < 1
      · simp [h1]
      by_cases h2 : c > 40
      · simp [h1, h2]
      have ih := chk_loop n cs hl h0 m (k + 1) (by omega) (by omega) (fun j hj hjk => by
        by_cases e : j = k
        · subst e; rw [hc]; omega
        · exact hp j hj (by omega))
      rw [show ((k + 1 : Nat) : Int) = wr .i64 ((k : Int) + 1) by rw [wr_ok (by omega) (by omega)]; omega] at ih
      have hlst : lst cs (k + 1) = some c := by
        unfold lst
        rw [if_neg (by omega), show k + 1 - 1 = k by omega, List.getElem?_eq_getElem hlt, hc]
      rw [hlst] at ih
      simp only [decide_eq_false h1, decide_eq_false h2, beq_self_eq_true, cond_true, cond_false, Option.bind_some, if_neg (show ¬ (c < 1 ∨ 40 < c) by omega)]
      by_cases hk0 : k = 0
      · subst hk0
        simp only [lst, if_pos, Option.getD_none, if_neg (show ¬ c ≤ 0 by omega)]
        simp only [show decide (((0 : Nat) : Int) > 0) = false by decide, show (false == true) = false from rfl, cond_false, Option.bind_some, if_false]
        exact ih
      · have hlk : lst cs k = some cs[k - 1] := by
          unfold lst
          rw [if_neg hk0, List.getElem?_eq_getElem (by omega)]
        rw [hlk, Option.getD_some, decide_eq_true (show (k : Int) > 0 by omega), show (true == true) = true from rfl, cond_true, idx_int (k := k - 1) (by rw [wr_ok (by omega) (by omega)]; omega) (by omega)]
        simp only [Option.bind_some]
        by_cases h7 : c ≤ cs[k - 1]
        · simp [h7]
        · simp only [decide_eq_false h7, cond_false, if_neg h7]
          exact ih
    · rw [decide_eq_false (show ¬ (k : Int) < (cs.length : Int) by omega), cond_false, List.drop_of_length_le (by omega), show idx cs 0 = some cs[0] from idx_int (k := 0) rfl h0]
      simp only [Option.bind_some, chkl, if_true]
      have hh : cs.headD 0 = cs[0] := by cases cs with | nil => simp at h0 | cons a l => rfl
      have h1 := hp 0 h0 (by omega)
      rw [hh]
      by_cases h5 : cs[0] > 1
      · rw [decide_eq_true h5, cond_true, if_neg (by omega)]
      · rw [decide_eq_false h5, cond_false, if_pos (by omega)]

theorem chk_eq {n : Nat × Nat} (hn : 1000 ≤ n.1) (cs : List Int) : D25 n cs = some (chk cs) := by
  unfold D25 chk
  by_cases h0 : cs.length = 0
  · simp [h0]
  rw [show (((cs.length : Int)) == 0) = false by simpa using h0, cond_false, if_neg h0]
  by_cases h8 : 6 < cs.length
  · rw [decide_eq_true (show (cs.length : Int) > 6 by omega), cond_true, if_pos h8]
  · rw [decide_eq_false (show ¬ (cs.length : Int) > 6 by omega), cond_false, if_neg h8]
    have := chk_loop n cs (by omega) (by omega) n.1 0 (by omega) (by omega) (fun j hj hjk => by omega)
    simpa [lst] using this

theorem in_eq (n : Nat × Nat) (v lo hi : Int) : D65 n v lo hi = some (decide (lo ≤ v) && decide (v ≤ hi)) := by
  unfold D65
  by_cases h : lo ≤ v <;> simp [h]

theorem chkr_loop (n : Nat × Nat) (cs : List Int) (hl : cs.length ≤ 6) (h0 : 0 < cs.length) : ∀ (m k : Nat), k ≤ cs.length → cs.length - k < m → 
    DL26_1 n m cs (k : Int) = some (if chkl (lst cs k) (cs.drop k) = 0 then (if cs.headD 0 = 1 then 0 else 5) else chkl (lst cs k) (cs.drop k))
  | 0, k, _, h => by omega
  | m + 1, k, hk, h => by
    rw [DL26_1_succ]
    unfold DF26_1
    by_cases hlt : k < cs.length
    · rw [decide_eq_true (show (k : Int) < (cs.length : Int) by omega), cond_true, idx_nat hlt, drop_cons hlt]
      simp only [Option.bind_some, chkl, in_eq]
      generalize hc : cs[k] = c
      by_cases h1 : c < 1
      · simp [h1, show ¬ 1 ≤ c by omega]
      by_cases h2 : c > 40
      · simp [h1, h2, show ¬ c ≤ 40 by omega]
      have ih := chkr_loop n cs hl h0 m (k + 1) (by omega) (by omega)
      rw [show ((k + 1 : Nat) : Int) = wr .i64 ((k : Int) + 1) by rw [wr_ok (by omega) (by omega)]; omega] at ih
      have hlst : lst cs (k + 1) = some c := by
        unfold lst
        rw [if_neg (by omega), show k + 1 - 1 = k by omega, List.getElem?_eq_getElem hlt, hc]
      rw [hlst] at ih
      simp only [decide_eq_true (show 1 ≤ c by omega), decide_eq_true (show c ≤ 40 by omega), Bool.and_self, Bool.not_true, cond_false, if_neg (show ¬ (c < 1 ∨ 40 < c) by omega)]
      by_cases hk0 : k = 0
      · subst hk0
        simp only [lst, if_pos, Option.getD_none, if_neg (show ¬ c ≤ 0 by omega)]
        simp only [show decide (((0 : Nat) : Int) > 0) = false by decide, show (false == true) = false from rfl, cond_false, Option.bind_some, if_false]
        exact ih
      · have hlk : lst cs k = some cs[k - 1] := by
          unfold lst
          rw [if_neg hk0, List.getElem?_eq_getElem (by omega)]
        rw [hlk, Option.getD_some, decide_eq_true (show (k : Int) > 0 by omega), show (true == true) = true from rfl, cond_true, idx_int (k := k - 1) (by rw [wr_ok (by omega) (by omega)]; omega) (by omega)]
        simp only [Option.bind_some]
        by_cases h7 : c ≤ cs[k - 1]
        · simp [h7]
        · simp only [decide_eq_false h7, cond_false, if_neg h7]
          exact ih
    · rw [decide_eq_false (show ¬ (k : Int) < (cs.length : Int) by omega), cond_false, List.drop_of_length_le (by omega), show idx cs 0 = some cs[0] from idx_int (k := 0) rfl h0]
      simp only [Option.bind_some, chkl, if_true]
      have hh : cs.headD 0 = cs[0] := by cases cs with | nil => simp at h0 | cons a l => rfl
      rw [hh]
      by_cases h5 : cs[0] = 1
      · simp [h5]
      · rw [show (cs[0] != 1) = true by simpa using h5, cond_true, if_neg h5]

theorem chkr_eq {n : Nat × Nat} (hn : 1000 ≤ n.1) (cs : List Int) : D26 n cs = some (chk cs) := by
  unfold D26 chk
  by_cases h0 : cs.length = 0
  · simp [h0]
  rw [show (((cs.length : Int)) == 0) = false by simpa using h0, cond_false, if_neg h0]
  by_cases h8 : 6 < cs.length
  · rw [decide_eq_true (show (cs.length : Int) > 6 by omega), cond_true, if_pos h8]
  · rw [decide_eq_false (show ¬ (cs.length : Int) > 6 by omega), cond_false, if_neg h8]
    have := chkr_loop n cs (by omega) (by omega) n.1 0 (by omega) (by omega)
    simpa [lst] using this

/-- Good coins to pay with. -/
structure Vld (cs : List Int) : Prop where
  pos : 0 < cs.length
  len : cs.length ≤ 6
  rng : ∀ c ∈ cs, 1 ≤ c ∧ c ≤ 40
  inc : cs.Pairwise (· < ·)
  one : cs.headD 0 = 1

theorem chkl_spec : ∀ (l : List Int) (p : Option Int), chkl p l = 0 → (∀ c ∈ l, 1 ≤ c ∧ c ≤ 40) ∧ l.Pairwise (· < ·) ∧ ∀ q, p = some q → ∀ c ∈ l, q < c
  | [], p, _ => ⟨by simp, List.Pairwise.nil, by simp⟩
  | c :: l, p, h => by
    simp only [chkl] at h
    split at h
    · cases h
    rename_i h1
    split at h
    · cases h
    rename_i h2
    obtain ⟨a, b, d⟩ := chkl_spec l (some c) h
    refine ⟨fun x hx => ?_, List.pairwise_cons.2 ⟨fun x hx => d c rfl x hx, b⟩, fun q hq x hx => ?_⟩
    · rcases List.mem_cons.1 hx with rfl | hx
      · omega
      · exact a x hx
    · subst hq
      rw [Option.getD_some] at h2
      rcases List.mem_cons.1 hx with rfl | hx
      · omega
      · have := d c rfl x hx; omega
theorem chkl_zero : ∀ (l : List Int) (p : Option Int), (∀ c ∈ l, 1 ≤ c ∧ c ≤ 40) → l.Pairwise (· < ·) → (∀ q, p = some q → ∀ c ∈ l, q < c) → chkl p l = 0
  | [], _, _, _, _ => rfl
  | c :: l, p, a, b, d => by
    have h1 := a c (by simp)
    have h2 := List.pairwise_cons.1 b
    have ih := chkl_zero l (some c) (fun x hx => a x (by simp [hx])) h2.2 (fun q hq x hx => by cases hq; exact h2.1 x hx)
    simp only [chkl]
    rw [if_neg (by omega)]
    have : ¬ c ≤ p.getD 0 := by
      cases p with
      | none => simp; omega
      | some q => have := d q rfl c (by simp); simp; omega
    rw [if_neg this]
    exact ih
theorem chk_vld {cs : List Int} (h : chk cs = 0) : Vld cs := by
  unfold chk at h
  split at h
  · cases h
  split at h
  · cases h
  split at h
  · rename_i h3
    split at h
    · rename_i h4
      obtain ⟨a, b, _⟩ := chkl_spec cs none h3
      exact ⟨by omega, by omega, a, b, h4⟩
    · cases h
  · rename_i h3
    exact absurd h h3
theorem vld_chk {cs : List Int} (h : Vld cs) : chk cs = 0 := by
  unfold chk
  have h1 := h.pos
  have h2 := h.len
  rw [if_neg (by omega), if_neg (by omega), chkl_zero cs none h.rng h.inc (fun q hq => by cases hq), if_pos rfl, if_pos h.one]
theorem Vld.mnt {cs : List Int} (h : Vld cs) : Mnt cs := by
  refine ⟨?_, fun c hc => (h.rng c hc).1⟩
  have h1 := h.one
  have h2 := h.pos
  cases cs with
  | nil => simp at h2
  | cons a l => simp at h1; simp [h1]

def smd (cs : List Int) (s : Int) : Int := if chk cs = 0 then (if s < 0 ∨ 200 < s then 1 else 0) else chk cs
theorem smd_eq {n : Nat × Nat} (hn : 1000 ≤ n.1) (cs : List Int) (s : Int) : D56 n cs s = some (smd cs s) := by
  unfold D56 smd
  rw [chk_eq hn]
  simp only [Option.bind_some]
  by_cases h : chk cs = 0
  · by_cases h1 : s < 0
    · simp [h, h1]
    · by_cases h2 : s > 200
      · simp [h, h1, h2]
      · simp [h, h1, h2]
  · rw [show (chk cs == 0) = false by simpa using h]; simp [h]
theorem smdr_eq {n : Nat × Nat} (hn : 1000 ≤ n.1) (cs : List Int) (s : Int) : D58 n cs s = some (smd cs s) := by
  unfold D58 smd
  rw [chkr_eq hn]
  simp only [Option.bind_some, in_eq]
  by_cases h : chk cs = 0
  · by_cases h1 : s < 0
    · simp [h, h1, show ¬ 0 ≤ s by omega]
    · by_cases h2 : s > 200
      · simp [h, h1, h2, show ¬ s ≤ 200 by omega]
      · simp [h, h1, h2, show 0 ≤ s by omega, show s ≤ 200 by omega]
  · rw [show (chk cs == 0) = false by simpa using h]; simp [h]
theorem smd_zero {cs : List Int} {s : Int} (h : smd cs s = 0) : Vld cs ∧ 0 ≤ s ∧ s ≤ 200 := by
  unfold smd at h
  split at h
  · rename_i h1
    split at h
    · cases h
    · exact ⟨chk_vld h1, by omega, by omega⟩
  · rename_i h1; exact absurd h h1
theorem smd_ok {cs : List Int} {s : Int} (h : Vld cs) (h1 : 0 ≤ s) (h2 : s ≤ 200) : smd cs s = 0 := by
  unfold smd
  rw [if_pos (vld_chk h), if_neg (by omega)]

/-! ### The fewest coins of each sum -/
noncomputable def ftab (cs : List Int) (M : Nat) : List Int := (List.range (M + 1)).map fun i => opt cs (i : Nat)
theorem ftab_length (cs : List Int) (M : Nat) : (ftab cs M).length = M + 1 := by simp [ftab]
theorem ftab_get (cs : List Int) (M : Nat) {i : Nat} (h : i < (ftab cs M).length) : (ftab cs M)[i] = opt cs (i : Nat) := by simp [ftab]
theorem ftab_succ (cs : List Int) (M : Nat) : ftab cs (M + 1) = ftab cs M ++ [opt cs ((M + 1 : Nat) : Int)] := by
  unfold ftab
  rw [List.range_succ, List.map_append]
  rfl

/-- The fewest coins, so far. -/
noncomputable def mnf (cs : List Int) (s : Int) : List Int → Int → Int
  | [], v => v
  | c :: l, v => mnf cs s l (if c ≤ s then (if 1 + opt cs (s - c) < v then 1 + opt cs (s - c) else v) else v)
theorem mnf_ge {cs : List Int} (hc : Mnt cs) {s : Int} : ∀ (l : List Int), (∀ c ∈ l, c ∈ cs) → ∀ v, opt cs s ≤ v → opt cs s ≤ mnf cs s l v
  | [], _, v, h => h
  | c :: l, hl, v, h => by
    refine mnf_ge hc l (fun x hx => hl x (by simp [hx])) _ ?_
    split
    · have := opt_less hc (hl c (by simp)) (s := s) (by assumption)
      split <;> omega
    · exact h
theorem mnf_le {cs : List Int} {s : Int} : ∀ (l : List Int) (v : Int), mnf cs s l v ≤ v
  | [], v => Int.le_refl v
  | c :: l, v => by
    refine Int.le_trans (mnf_le l _) ?_
    split
    · split <;> omega
    · exact Int.le_refl v
theorem mnf_hit {cs : List Int} {s c : Int} : ∀ (l : List Int) (v : Int), c ∈ l → c ≤ s → mnf cs s l v ≤ 1 + opt cs (s - c)
  | [], v, h, _ => by cases h
  | d :: l, v, h, hs => by
    rcases List.mem_cons.1 h with rfl | h
    · refine Int.le_trans (mnf_le l _) ?_
      rw [if_pos hs]
      split <;> omega
    · exact mnf_hit l _ h hs
theorem mnf_eq {cs : List Int} (hc : Mnt cs) {s : Int} (hs : 0 < s) : mnf cs s cs s = opt cs s := by
  obtain ⟨c, h1, h2, h3⟩ := opt_step hc hs
  have a := mnf_ge hc cs (fun c h => h) s (opt_self hc (by omega))
  have b := mnf_hit (cs := cs) cs s h1 h2
  omega

theorem few_inner (n : Nat × Nat) {cs : List Int} (hv : Vld cs) (f1 : List Int → Int → Int → List Int → Option R57) (M : Int) (s : Nat) (hs : 0 < s) (hsM : s ≤ 1000) : ∀ (m k : Nat) (v : Int), k ≤ cs.length → cs.length - k < m → 0 ≤ v → v ≤ s →
    DL57_2 n f1 m cs M (s : Int) v cs (cs.length : Int) (k : Int) (ftab cs (s - 1)) = f1 cs M ((s : Int) + 1) (ftab cs (s - 1) ++ [mnf cs s (cs.drop k) v])
  | 0, k, v, _, h, _, _ => by omega
  | m + 1, k, v, hk, h, hv0, hvs => by
    have hl := hv.len
    rw [DL57_2_succ]
    unfold DF57_2
    by_cases hlt : k < cs.length
    · obtain ⟨hc1, hc2⟩ := hv.rng cs[k] (List.getElem_mem _)
      rw [decide_eq_true (show (k : Int) < (cs.length : Int) by omega), cond_true, idx_nat hlt, drop_cons hlt]
      simp only [Option.bind_some, mnf]
      generalize cs[k] = c at hc1 hc2
      have ih := few_inner n hv f1 M s hs hsM m (k + 1)
      rw [show ((k + 1 : Nat) : Int) = wr .i64 ((k : Int) + 1) by rw [wr_ok (by omega) (by omega)]; omega] at ih
      by_cases hcs : c ≤ (s : Int)
      · obtain ⟨d, hd⟩ : ∃ d : Nat, (s : Int) - c = d := ⟨((s : Int) - c).toNat, by omega⟩
        have hd1 : wr .i64 ((s : Int) - c) = d := by rw [wr_ok (by omega) (by omega)]; exact hd
        have hdl : d < (ftab cs (s - 1)).length := by rw [ftab_length]; omega
        have ho0 := opt_nonneg hv.mnt (s := (d : Int)) (by omega)
        have ho1 := opt_self hv.mnt (s := (d : Int)) (by omega)
        rw [decide_eq_true hcs, cond_true, hd1, inB_nat hdl, cond_true, idx_nat hdl, ftab_get]
        simp only [Option.bind_some, DL57_3]
        rw [wr_ok (x := 1 + opt cs (d : Nat)) (by omega) (by omega), if_pos hcs, hd]
        exact ih _ (by omega) (by omega) (by split <;> omega) (by split <;> omega)
      · rw [decide_eq_false hcs, cond_false, if_neg hcs]
        simp only [DL57_3]
        exact ih _ (by omega) (by omega) hv0 hvs
    · rw [decide_eq_false (show ¬ (k : Int) < (cs.length : Int) by omega), cond_false, List.drop_of_length_le (by omega), decide_eq_true (by rw [ftab_length]; simp [lim]; omega), cond_true, wr_ok (by omega) (by omega)]
      rfl
theorem few_loop (n : Nat × Nat) (hn : 1000 ≤ n.1) {cs : List Int} (hv : Vld cs) (M : Nat) (hM : M ≤ 900) : ∀ (m s : Nat), 0 < s → s ≤ M + 1 → M + 1 - s < m → DL57_1 n m cs (M : Int) (s : Int) (ftab cs (s - 1)) = some (ftab cs M)
  | 0, s, _, _, h => by omega
  | m + 1, s, hs, hsM, h => by
    have hl := hv.len
    rw [DL57_1_succ]
    unfold DF57_1
    by_cases hlt : s ≤ M
    · rw [decide_eq_true (show (s : Int) ≤ (M : Int) by omega), cond_true]
      have hi := few_inner n hv (DL57_1 n m) (M : Int) s hs (by omega) n.1 0 s (by omega) (by omega) (by omega) (by omega)
      rw [show ((0 : Nat) : Int) = 0 from rfl, List.drop_zero, mnf_eq hv.mnt (by omega)] at hi
      have ih := few_loop n hn hv M hM m (s + 1) (by omega) (by omega) (by omega)
      have ht : ftab cs (s + 1 - 1) = ftab cs (s - 1) ++ [opt cs (s : Nat)] := by
        have := ftab_succ cs (s - 1)
        rw [show s - 1 + 1 = s by omega] at this
        exact this
      rw [ht] at ih
      rw [hi]
      exact ih
    · rw [decide_eq_false (show ¬ (s : Int) ≤ (M : Int) by omega), cond_false, show s - 1 = M by omega]
theorem few_eq {n : Nat × Nat} (hn : 1000 ≤ n.1) {cs : List Int} (hv : Vld cs) (M : Nat) (hM : M ≤ 900) : D57 n cs (M : Int) = some (ftab cs M) := by
  unfold D57
  have := few_loop n hn hv M hM n.1 1 (by omega) (by omega) (by omega)
  rw [show ftab cs (1 - 1) = [0] by simp [ftab, opt_zero hv.mnt]] at this
  exact this
end Go.Proofs.Ytjgmfdgpgdaclaa
/-
  Coins: the reference's table of the fewest coins.
-/
set_option linter.unusedVariables false
set_option linter.unusedSimpArgs false
namespace Go.Proofs.Ytjgmfdgpgdaclaa
open Go.Vi

def ltab (M : Nat) (F : Nat → Int) : List Int := (List.range (M + 1)).map F
theorem ltab_length (M : Nat) (F : Nat → Int) : (ltab M F).length = M + 1 := by simp [ltab]
theorem ltab_get (M : Nat) (F : Nat → Int) {i : Nat} (h : i < (ltab M F).length) : (ltab M F)[i] = F i := by simp [ltab]
theorem ltab_congr {M : Nat} {F G : Nat → Int} (h : ∀ i, i ≤ M → F i = G i) : ltab M F = ltab M G := by
  unfold ltab
  exact List.map_congr_left fun i hi => h i (by simp at hi; omega)
theorem ltab_set (M : Nat) (F : Nat → Int) (t : Nat) (v : Int) : (ltab M F).set t v = ltab M (fun x => if x = t then v else F x) := by
  apply List.ext_getElem
  · simp [ltab]
  · intro i h1 h2
    rw [List.getElem_set, ltab_get M (fun x => if x = t then v else F x)]
    by_cases e : t = i
    · subst e; rw [if_pos rfl, if_pos rfl]
    · rw [if_neg e, if_neg (fun h => e h.symm)]
      exact ltab_get M F _

/-- Reached in this round: from smaller sums, or from this one by the first coins. -/
def Qd (cs : List Int) (k s i : Nat) (x : Nat) : Prop := (∃ s' : Nat, s' < s ∧ opt cs s' = k ∧ ∃ c ∈ cs, (x : Int) = s' + c) ∨ (opt cs s = k ∧ ∃ c ∈ cs.take i, (x : Int) = s + c)
open Classical in
noncomputable def lay (cs : List Int) (k s i : Nat) (x : Nat) : Int := if opt cs x ≤ k then opt cs x else if Qd cs k s i x then (k : Int) + 1 else -1

theorem Qd.opt {cs : List Int} (hv : Vld cs) {k s i x : Nat} (h : Qd cs k s i x) : opt cs x ≤ (k : Int) + 1 := by
  rcases h with ⟨s', _, h1, c, hc, hx⟩ | ⟨h1, c, hc, hx⟩
  · have := opt_more hv.mnt hc (s := (s' : Int)) (by omega)
    rw [hx]; omega
  · have := opt_more hv.mnt (List.mem_of_mem_take hc) (s := (s : Int)) (by omega)
    rw [hx]; omega
theorem lay_next {cs : List Int} (hv : Vld cs) {k s x : Nat} : lay cs k (s + 1) 0 x = lay cs k s cs.length x := by
  have : Qd cs k (s + 1) 0 x ↔ Qd cs k s cs.length x := by
    unfold Qd
    rw [List.take_length]
    constructor
    · rintro (⟨s', h0, h1, h2⟩ | ⟨_, c, hc, _⟩)
      · by_cases e : s' = s
        · subst e; exact .inr ⟨h1, h2⟩
        · exact .inl ⟨s', by omega, h1, h2⟩
      · simp at hc
    · rintro (⟨s', h0, h1, h2⟩ | ⟨h1, h2⟩)
      · exact .inl ⟨s', by omega, h1, h2⟩
      · exact .inl ⟨s, by omega, h1, h2⟩
  unfold lay
  by_cases h9 : Qd cs k s cs.length x
  · rw [if_pos h9, if_pos (this.2 h9)]
  · rw [if_neg h9, if_neg (fun h => h9 (this.1 h))]
theorem lay_skip {cs : List Int} {k s i x : Nat} (h : opt cs s ≠ k) : lay cs k (s + 1) 0 x = lay cs k s i x := by
  have : Qd cs k (s + 1) 0 x ↔ Qd cs k s i x := by
    unfold Qd
    constructor
    · rintro (⟨s', h0, h1, h2⟩ | ⟨_, c, hc, _⟩)
      · by_cases e : s' = s
        · subst e; exact absurd h1 h
        · exact .inl ⟨s', by omega, h1, h2⟩
      · simp at hc
    · rintro (⟨s', h0, h1, h2⟩ | ⟨h1, h2⟩)
      · exact .inl ⟨s', by omega, h1, h2⟩
      · exact absurd h1 h
  unfold lay
  by_cases h9 : Qd cs k s i x
  · rw [if_pos h9, if_pos (this.2 h9)]
  · rw [if_neg h9, if_neg (fun h => h9 (this.1 h))]
theorem lay_round {cs : List Int} (hv : Vld cs) {k M x : Nat} (hx : x ≤ M) : lay cs (k + 1) 0 0 x = lay cs k (M + 1) 0 x := by
  have hm := hv.mnt
  have no : ¬ Qd cs (k + 1) 0 0 x := by
    rintro (⟨s', h0, _⟩ | ⟨_, c, hc, _⟩)
    · omega
    · simp at hc
  unfold lay
  rw [if_neg no]
  by_cases h1 : opt cs x ≤ (k : Int)
  · rw [if_pos h1, if_pos (by omega)]
  · rw [if_neg h1]
    by_cases h2 : opt cs x = (k : Int) + 1
    · rw [if_pos (by omega)]
      have hx0 : 0 < (x : Int) := by
        have := opt_self hm (s := (x : Int)) (by omega)
        omega
      obtain ⟨c, a1, a2, a3⟩ := opt_step hm hx0
      have hc := hm.pos c a1
      have : Qd cs k (M + 1) 0 x := .inl ⟨((x : Int) - c).toNat, by omega, by rw [Int.toNat_of_nonneg (by omega)]; omega, c, a1, by omega⟩
      rw [if_pos this]
      exact h2
    · rw [if_neg (by omega)]
      have : ¬ Qd cs k (M + 1) 0 x := fun h => by have := h.opt hv; omega
      rw [if_neg this]
theorem lay_add {cs : List Int} (hv : Vld cs) {k s i : Nat} (hi : i < cs.length) (ho : opt cs s = k) (x : Nat) : lay cs k s (i + 1) x = if (x : Int) = s + cs[i] ∧ lay cs k s i x < 0 then (k : Int) + 1 else lay cs k s i x := by
  have hq : Qd cs k s (i + 1) x ↔ Qd cs k s i x ∨ (x : Int) = s + cs[i] := by
    unfold Qd
    rw [List.take_add_one, List.getElem?_eq_getElem hi]
    simp only [Option.toList_some, List.mem_append, List.mem_singleton]
    constructor
    · rintro (h | ⟨h1, c, hc | rfl, h2⟩)
      · exact .inl (.inl h)
      · exact .inl (.inr ⟨h1, c, hc, h2⟩)
      · exact .inr h2
    · rintro ((h | ⟨h1, c, hc, h2⟩) | h)
      · exact .inl h
      · exact .inr ⟨h1, c, .inl hc, h2⟩
      · exact .inr ⟨ho, _, .inr rfl, h⟩
  have h0 := opt_nonneg hv.mnt (s := (x : Int)) (by omega)
  unfold lay
  by_cases h1 : opt cs x ≤ (k : Int)
  · rw [if_pos h1, if_pos h1, if_neg (by omega)]
  · rw [if_neg h1, if_neg h1]
    by_cases h2 : Qd cs k s i x
    · rw [if_pos (hq.2 (.inl h2)), if_pos h2, if_neg (by omega)]
    · rw [if_neg h2]
      by_cases h3 : (x : Int) = s + cs[i]
      · rw [if_pos (hq.2 (.inr h3)), if_pos ⟨h3, by omega⟩]
      · rw [if_neg (fun h => (hq.1 h).elim h2 h3), if_neg (fun h => h3 h.1)]
theorem lay_at {cs : List Int} (hv : Vld cs) {k s i : Nat} : (lay cs k s i s = k ↔ opt cs s = k) := by
  unfold lay
  have h0 := opt_nonneg hv.mnt (s := (s : Int)) (by omega)
  split
  · exact Iff.rfl
  · split <;> omega

theorem rfew_inner (n : Nat × Nat) {cs : List Int} (hv : Vld cs) (f1 : List Int → Int → Int → List Int → Option R59) (f2 : List Int → Int → Int → Int → List Int → Option R59) (M k s : Nat) (hM : M ≤ 900) (hk : k ≤ M) (hs : s ≤ M) : ∀ (m i : Nat), i ≤ cs.length → cs.length - i < m →
    DL59_4 n f1 f2 m cs (M : Int) (k : Int) (s : Int) (i : Int) (ltab M (lay cs k s i)) = f2 cs (M : Int) (k : Int) ((s : Int) + 1) (ltab M (lay cs k (s + 1) 0))
  | 0, i, _, h => by omega
  | m + 1, i, hi, h => by
    have hl := hv.len
    rw [DL59_4_succ]
    unfold DF59_4
    by_cases hlt : i < cs.length
    · obtain ⟨hc1, hc2⟩ := hv.rng cs[i] (List.getElem_mem _)
      have hsl : s < (ltab M (lay cs k s i)).length := by rw [ltab_length]; omega
      rw [decide_eq_true (show (i : Int) < (cs.length : Int) by omega), show (true == true) = true from rfl, cond_true, inB_nat hsl, cond_true, idx_nat hsl, ltab_get]
      simp only [Option.bind_some]
      by_cases ho : opt cs s = k
      · rw [(lay_at hv).2 ho, show (((k : Nat) : Int) == (k : Int)) = true by simp, cond_true, idx_nat hlt]
        simp only [Option.bind_some]
        have ih := rfew_inner n hv f1 f2 M k s hM hk hs m (i + 1) (by omega) (by omega)
        rw [show ((i + 1 : Nat) : Int) = wr .i64 ((i : Int) + 1) by rw [wr_ok (by omega) (by omega)]; omega] at ih
        have hadd := lay_add hv hlt ho
        obtain ⟨t, ht⟩ : ∃ t : Nat, (s : Int) + cs[i] = t := ⟨((s : Int) + cs[i]).toNat, by omega⟩
        rw [ht] at hadd
        rw [ht, wr_ok (x := (t : Int)) (by omega) (by omega)]
        by_cases htM : t ≤ M
        · have htl : t < (ltab M (lay cs k s i)).length := by rw [ltab_length]; omega
          rw [decide_eq_true (show (t : Int) ≤ (M : Int) by omega), show (true == true) = true from rfl, cond_true, inB_nat htl, cond_true, idx_nat htl, ltab_get]
          simp only [Option.bind_some]
          by_cases hneg : lay cs k s i t < 0
          · rw [decide_eq_true hneg, cond_true, cond_true]
            simp only [Option.bind_some, DL59_5]
            rw [Int.toNat_natCast, ltab_set, wr_ok (x := (k : Int) + 1) (by omega) (by omega)]
            rw [ltab_congr (G := lay cs k s (i + 1)) (fun x hx => by
              rw [hadd x]
              by_cases e : x = t
              · subst e; rw [if_pos rfl, if_pos ⟨rfl, hneg⟩]
              · rw [if_neg e, if_neg (fun h => e (by omega))])]
            exact ih
          · rw [decide_eq_false hneg, cond_false]
            simp only [DL59_5]
            rw [ltab_congr (G := lay cs k s (i + 1)) (fun x hx => by
              rw [hadd x, if_neg (fun h => by
                have : x = t := by omega
                subst this
                exact hneg h.2)])]
            exact ih
        · rw [decide_eq_false (show ¬ (t : Int) ≤ (M : Int) by omega), show (false == true) = false from rfl, cond_false]
          simp only [Option.bind_some, cond_false, DL59_5]
          rw [ltab_congr (G := lay cs k s (i + 1)) (fun x hx => by rw [hadd x, if_neg (fun h => by omega)])]
          exact ih
      · rw [show (lay cs k s i s == (k : Int)) = false by simpa using fun e => ho ((lay_at hv).1 e), cond_false, wr_ok (by omega) (by omega)]
        rw [ltab_congr (fun x hx => (lay_skip ho).symm)]
    · obtain rfl : i = cs.length := by omega
      rw [decide_eq_false (show ¬ (cs.length : Int) < (cs.length : Int) by omega), show (false == true) = false from rfl, cond_false]
      simp only [Option.bind_some, cond_false]
      rw [wr_ok (by omega) (by omega), ltab_congr (fun x hx => (lay_next hv).symm)]
theorem rfew_mid (n : Nat × Nat) (hn : 1000 ≤ n.1) {cs : List Int} (hv : Vld cs) (f1 : List Int → Int → Int → List Int → Option R59) (M k : Nat) (hM : M ≤ 900) (hk : k ≤ M) : ∀ (m s : Nat), s ≤ M + 1 → M + 1 - s < m →
    DL59_3 n f1 m cs (M : Int) (k : Int) (s : Int) (ltab M (lay cs k s 0)) = f1 cs (M : Int) ((k : Int) + 1) (ltab M (lay cs (k + 1) 0 0))
  | 0, s, _, h => by omega
  | m + 1, s, hs, h => by
    have hl := hv.len
    rw [DL59_3_succ]
    unfold DF59_3
    by_cases hlt : s ≤ M
    · rw [decide_eq_true (show (s : Int) ≤ (M : Int) by omega), cond_true]
      have hi := rfew_inner n hv f1 (DL59_3 n f1 m) M k s hM hk hlt n.1 0 (by omega) (by omega)
      have ih := rfew_mid n hn hv f1 M k hM hk m (s + 1) (by omega) (by omega)
      rw [show ((s + 1 : Nat) : Int) = (s : Int) + 1 by omega] at ih
      exact hi.trans ih
    · obtain rfl : s = M + 1 := by omega
      rw [decide_eq_false (show ¬ ((M + 1 : Nat) : Int) ≤ (M : Int) by omega), cond_false, wr_ok (by omega) (by omega)]
      rw [ltab_congr (fun x hx => (lay_round hv hx).symm)]
theorem rfew_out (n : Nat × Nat) (hn : 1000 ≤ n.1) {cs : List Int} (hv : Vld cs) (M : Nat) (hM : M ≤ 900) : ∀ (m k : Nat), k ≤ M + 1 → M + 1 - k < m → DL59_2 n m cs (M : Int) (k : Int) (ltab M (lay cs k 0 0)) = some (ftab cs M)
  | 0, k, _, h => by omega
  | m + 1, k, hk, h => by
    rw [DL59_2_succ]
    unfold DF59_2
    by_cases hlt : k ≤ M
    · rw [decide_eq_true (show (k : Int) ≤ (M : Int) by omega), cond_true]
      have hi := rfew_mid n hn hv (DL59_2 n m) M k hM hlt n.1 0 (by omega) (by omega)
      have ih := rfew_out n hn hv M hM m (k + 1) (by omega) (by omega)
      rw [show ((k + 1 : Nat) : Int) = (k : Int) + 1 by omega] at ih
      exact hi.trans ih
    · rw [decide_eq_false (show ¬ (k : Int) ≤ (M : Int) by omega), cond_false]
      have : ltab M (lay cs k 0 0) = ftab cs M := ltab_congr fun x hx => by
        have := opt_self hv.mnt (s := (x : Int)) (by omega)
        unfold lay
        rw [if_pos (by omega)]
      rw [this]
theorem rfew_init (n : Nat × Nat) (hn : 1000 ≤ n.1) {cs : List Int} (hv : Vld cs) (M : Nat) (hM : M ≤ 900) : ∀ (m s : Nat), 1 ≤ s → s ≤ M + 1 → M + 1 - s < m → DL59_1 n m cs (M : Int) (s : Int) (ltab M (fun x => if 1 ≤ x ∧ x < s then -1 else 0)) = some (ftab cs M)
  | 0, s, _, _, h => by omega
  | m + 1, s, hs1, hs, h => by
    rw [DL59_1_succ]
    unfold DF59_1
    by_cases hlt : s ≤ M
    · have hsl : s < (ltab M (fun x => if 1 ≤ x ∧ x < s then -1 else 0)).length := by rw [ltab_length]; omega
      rw [decide_eq_true (show (s : Int) ≤ (M : Int) by omega), cond_true, inB_nat hsl, cond_true, idx_nat hsl]
      simp only [Option.bind_some]
      have ih := rfew_init n hn hv M hM m (s + 1) (by omega) (by omega) (by omega)
      rw [show ((s + 1 : Nat) : Int) = wr .i64 ((s : Int) + 1) by rw [wr_ok (by omega) (by omega)]; omega] at ih
      rw [Int.toNat_natCast, ltab_set, ltab_congr (G := fun x => if 1 ≤ x ∧ x < s + 1 then -1 else 0) (fun x hx => by
        by_cases e : x = s
        · subst e; rw [if_pos rfl, if_pos (by omega)]
        · rw [if_neg e]
          by_cases e2 : 1 ≤ x ∧ x < s
          · rw [if_pos e2, if_pos (by omega)]
          · rw [if_neg e2, if_neg (by omega)])]
      exact ih
    · rw [decide_eq_false (show ¬ (s : Int) ≤ (M : Int) by omega), cond_false]
      have h0 := rfew_out n hn hv M hM n.1 0 (by omega) (by omega)
      rw [ltab_congr (G := lay cs 0 0 0) (fun x hx => by
        have no : ¬ Qd cs 0 0 0 x := by
          rintro (⟨s', h0, _⟩ | ⟨_, c, hc, _⟩)
          · omega
          · simp at hc
        unfold lay
        rw [if_neg no]
        by_cases e : x = 0
        · subst e
          have := opt_zero hv.mnt
          rw [if_neg (by omega), show (((0 : Nat) : Int)) = 0 from rfl, this, if_pos (Int.le_refl 0)]
        · have := opt_pos hv.mnt (s := (x : Int)) (by omega)
          rw [if_pos (by omega), if_neg (by omega)])]
      exact h0
theorem rfew_eq {n : Nat × Nat} (hn : 1000 ≤ n.1) {cs : List Int} (hv : Vld cs) (M : Nat) (hM : M ≤ 900) : D59 n cs (M : Int) = some (ftab cs M) := by
  unfold D59
  have h1 : wr .i64 ((M : Int) + 1) = ((M + 1 : Nat) : Int) := by rw [wr_ok (by omega) (by omega)]; omega
  rw [h1, decide_eq_true (show (0 : Int) ≤ ((M + 1 : Nat) : Int) by omega), decide_eq_true (Int.le_refl _), decide_eq_true (show ((M + 1 : Nat) : Int) ≤ lim by simp [lim]; omega), Bool.and_self, Bool.and_self, cond_true, Int.toNat_natCast]
  have := rfew_init n hn hv M hM n.1 1 (by omega) (by omega) (by omega)
  rw [show ltab M (fun x => if 1 ≤ x ∧ x < 1 then -1 else 0) = List.replicate (M + 1) 0 by
    apply List.ext_getElem
    · simp [ltab]
    · intro i h1 h2; rw [ltab_get]; simp; omega] at this
  exact this
end Go.Proofs.Ytjgmfdgpgdaclaa
/-
  Coins: rows of one number, as the library makes them.
-/
set_option linter.unusedVariables false
namespace Go.Proofs.Ytjgmfdgpgdaclaa
open Go.Vi

abbrev N : Nat × Nat := (10000, 1)

noncomputable def repB (x : Int) (m : Nat) : Bool := (List.range m).all fun k => decide (D52 N [x] (k : Nat) = some (List.replicate k x))
theorem repB1 : repB (-1) 251 = true := by kernel_rfl
theorem rep_eq {k : Nat} (h : k < 251) : D52 N [-1] (k : Int) = some (List.replicate k (-1)) := by
  have := List.all_eq_true.1 repB1 k (by simpa using h)
  simpa using this

end Go.Proofs.Ytjgmfdgpgdaclaa
/-
  Coins: the fewest coins as the statements find them.
-/
set_option linter.unusedVariables false
set_option linter.unusedSimpArgs false
namespace Go.Proofs.Ytjgmfdgpgdaclaa
open Go.Vi

theorem filter_less (p : Nat → Bool) (s : Nat) : ∀ (l : List Nat), l.Nodup → s ∈ l → p s = true → (l.filter (fun x => p x && x != s)).length + 1 = (l.filter p).length
  | [], _, h, _ => by cases h
  | a :: l, hn, h, hp => by
    have h2 := List.nodup_cons.1 hn
    by_cases e : a = s
    · subst e
      have hf : l.filter (fun x => p x && x != a) = l.filter p := List.filter_congr fun x hx => by
        have : x ≠ a := fun e => h2.1 (e ▸ hx)
        simp [this]
      rw [List.filter_cons_of_neg (by simp), List.filter_cons_of_pos hp, hf]
      simp
    · have hs : s ∈ l := by
        rcases List.mem_cons.1 h with h | h
        · exact absurd h.symm e
        · exact h
      have ih := filter_less p s l h2.2 hs hp
      by_cases hpa : p a = true
      · rw [List.filter_cons_of_pos (by simp [hpa, e]), List.filter_cons_of_pos hpa]
        simp only [List.length_cons]
        omega
      · rw [List.filter_cons_of_neg (by simp [hpa]), List.filter_cons_of_neg hpa]
        exact ih
/-- How many sums are not yet reached. -/
def unm (M : Nat) (F : Nat → Int) : Nat := ((List.range (M + 1)).filter fun x => decide (F x < 0)).length
theorem unm_le (M : Nat) (F : Nat → Int) : unm M F ≤ M + 1 := by
  unfold unm
  refine Nat.le_trans (List.length_filter_le _ _) ?_
  simp
theorem unm_set {M : Nat} {F : Nat → Int} {s : Nat} {v : Int} (hs : s ≤ M) (h : F s < 0) (hv : 0 ≤ v) : unm M (fun x => if x = s then v else F x) + 1 = unm M F := by
  unfold unm
  rw [← filter_less (fun x => decide (F x < 0)) s (List.range (M + 1)) List.nodup_range (by simp; omega) (by simpa using h)]
  congr 2
  apply List.filter_congr
  intro x _
  by_cases e : x = s
  · subst e; simp; omega
  · simp [e]

/-- What the coins add to the next round's sums. -/
def adds (M : Nat) (s : Nat) (l : List Int) : List Int := (l.map fun c => (s : Int) + c).filter fun t => decide (t ≤ (M : Int))
theorem of_inner (n : Nat × Nat) {cs : List Int} (hv : Vld cs) (f1 : List Int → Int → Int → List Int → List Int → Option R44) (f2 : List Int → Int → Int → Int → Int → List Int → List Int → List Int → Option R44) (M s : Nat) (k v26 v27 : Int) (out v25 : List Int) (hM : M ≤ 900) (hs : s ≤ M) :
    ∀ (m i : Nat) (nx : List Int), i ≤ cs.length → cs.length - i < m → nx.length + (cs.length - i) ≤ 10000 → DL44_4 n f1 f2 m cs (M : Int) k (s : Int) v26 v27 cs (cs.length : Int) (i : Int) out nx v25 = DL44_3 n f1 f2 cs (M : Int) k v26 v27 out (nx ++ adds M s (cs.drop i)) v25
  | 0, i, nx, _, h, _ => by omega
  | m + 1, i, nx, hi, h, hnx => by
    have hl := hv.len
    rw [DL44_4_succ]
    unfold DF44_4
    by_cases hlt : i < cs.length
    · obtain ⟨hc1, hc2⟩ := hv.rng cs[i] (List.getElem_mem _)
      rw [decide_eq_true (show (i : Int) < (cs.length : Int) by omega), cond_true, idx_nat hlt, drop_cons hlt]
      simp only [Option.bind_some, adds, List.map_cons]
      generalize cs[i] = c at hc1 hc2
      rw [wr_ok (x := (s : Int) + c) (by omega) (by omega)]
      have ih := fun nx (h9 : nx.length + (cs.length - (i + 1)) ≤ 10000) => of_inner n hv f1 f2 M s k v26 v27 out v25 hM hs m (i + 1) nx (by omega) (by omega) h9
      rw [show ((i + 1 : Nat) : Int) = wr .i64 ((i : Int) + 1) by rw [wr_ok (by omega) (by omega)]; omega] at ih
      by_cases hle : (s : Int) + c ≤ (M : Int)
      · rw [decide_eq_true hle, cond_true, decide_eq_true (by simp [lim]; omega), cond_true]
        simp only [DL44_5]
        rw [ih _ (by simp; omega), List.filter_cons_of_pos (by simpa using hle)]
        simp [adds]
      · rw [decide_eq_false hle, cond_false]
        simp only [DL44_5]
        rw [ih _ (by omega), List.filter_cons_of_neg (by simpa using hle)]
        simp [adds]
    · rw [decide_eq_false (show ¬ (i : Int) < (cs.length : Int) by omega), cond_false, List.drop_of_length_le (by omega)]
      simp [adds]
theorem adds_len (M s : Nat) (l : List Int) : (adds M s l).length ≤ l.length := by
  unfold adds
  refine Nat.le_trans (List.length_filter_le _ _) ?_
  simp

/-- In round k: sums with fewer coins are known, and those of k coins that were met. -/
structure Rd (cs : List Int) (M k : Nat) (F : Nat → Int) : Prop where
  val : ∀ x, x ≤ M → F x = opt cs x ∨ F x = -1
  low : ∀ x, x ≤ M → opt cs x < k → F x = opt cs x
  top : ∀ x, x ≤ M → F x = opt cs x → opt cs x ≤ k

theorem of_mid (n : Nat × Nat) (hn : 10000 ≤ n.1) {cs : List Int} (hv : Vld cs) (f1 : List Int → Int → Int → List Int → List Int → Option R44) (M k : Nat) (hM : M ≤ 900) (hk : k ≤ M) (now : List Int) (hnow : now.length ≤ 9000)
    (hr : ∀ x ∈ now, 0 ≤ x ∧ x ≤ (M : Int) ∧ Rch cs k x) :
    ∀ (m i : Nat) (F : Nat → Int) (nx : List Int), i ≤ now.length → now.length - i < m → Rd cs M k F → (∀ x ∈ now.take i, F x.toNat = opt cs x) → nx.length + 6 * unm M F ≤ 6 * (M + 1) →
      (∀ x ∈ nx, 0 ≤ x ∧ x ≤ (M : Int) ∧ Rch cs (k + 1) x) → (∀ s, s ≤ M → F s = opt cs s → opt cs s = k → ∀ c ∈ cs, (s : Int) + c ≤ M → (s : Int) + c ∈ nx) →
      ∃ F' nx', DL44_2 n f1 m cs (M : Int) (k : Int) (now.length : Int) (i : Int) (ltab M F) nx now = f1 cs (M : Int) ((k : Int) + 1) (ltab M F') nx' ∧
        Rd cs M k F' ∧ (∀ x ∈ now, F' x.toNat = opt cs x) ∧ nx'.length ≤ 6 * (M + 1) ∧ (∀ x ∈ nx', 0 ≤ x ∧ x ≤ (M : Int) ∧ Rch cs (k + 1) x) ∧ (∀ s, s ≤ M → F' s = opt cs s → opt cs s = k → ∀ c ∈ cs, (s : Int) + c ≤ M → (s : Int) + c ∈ nx')
  | 0, i, F, nx, _, h, _, _, _, _, _ => by omega
  | m + 1, i, F, nx, hi, h, hR, htk, hcnt, hnx, hcl => by
    rw [DL44_2_succ]
    unfold DF44_2
    by_cases hlt : i < now.length
    · obtain ⟨hx0, hxM, hxr⟩ := hr now[i] (List.getElem_mem _)
      rw [decide_eq_true (show (i : Int) < (now.length : Int) by omega), cond_true, inB_nat hlt, cond_true, idx_nat hlt]
      simp only [Option.bind_some]
      generalize hxx : now[i] = x at hx0 hxM hxr
      obtain ⟨s, rfl⟩ := Int.eq_ofNat_of_zero_le hx0
      have hsM : s ≤ M := by omega
      have hsl : s < (ltab M F).length := by rw [ltab_length]; omega
      have ho0 := opt_nonneg hv.mnt (s := (s : Int)) (by omega)
      have htk1 : ∀ (G : Nat → Int), G s = opt cs s → (∀ x ∈ now.take i, G x.toNat = opt cs x) → ∀ x ∈ now.take (i + 1), G x.toNat = opt cs x := fun G h1 h2 x hx => by
        rw [List.take_add_one, List.getElem?_eq_getElem hlt, hxx] at hx
        simp only [Option.toList_some, List.mem_append, List.mem_singleton] at hx
        rcases hx with hx | rfl
        · exact h2 x hx
        · exact h1
      rw [inB_nat hsl, cond_true, idx_nat hsl, ltab_get]
      simp only [Option.bind_some]
      have ih := of_mid n hn hv f1 M k hM hk now hnow hr m (i + 1)
      rw [show ((i + 1 : Nat) : Int) = wr .i64 ((i : Int) + 1) by rw [wr_ok (by omega) (by omega)]; omega] at ih
      by_cases hF : F s ≥ 0
      · rw [decide_eq_true hF, cond_true]
        simp only [DL44_3]
        have hFs : F s = opt cs s := by
          rcases hR.val s hsM with h | h
          · exact h
          · omega
        exact ih F nx (by omega) (by omega) hR (htk1 F hFs htk) hcnt hnx hcl
      · rw [decide_eq_false hF, cond_false, cond_true]
        have hge : (k : Int) ≤ opt cs s := by
          refine Int.not_lt.1 fun hl => ?_
          have := hR.low s hsM hl
          omega
        have hle := opt_le hv.mnt hxr
        have hok : opt cs s = k := by omega
        have hun := unm_set (M := M) (F := F) (s := s) (v := (k : Int)) hsM (by omega) (by omega)
        have hl6 := hv.len
        have hin := fun out => of_inner n hv f1 (DL44_2 n f1 m) M s (k : Int) (now.length : Int) (i : Int) out now hM hsM n.1 0 nx (by omega) (by omega) (by omega)
        simp only [show ((0 : Nat) : Int) = 0 from rfl] at hin
        rw [hin]
        simp only [DL44_3, List.drop_zero]
        rw [Int.toNat_natCast, ltab_set]
        have hadl := adds_len M s cs
        refine ih (fun x => if x = s then (k : Int) else F x) (nx ++ adds M s cs) (by omega) (by omega) ⟨?_, ?_, ?_⟩ ?_ ?_ ?_ ?_
        · intro x hx
          by_cases e : x = s
          · subst e; left; rw [if_pos rfl, hok]
          · rw [if_neg e]; exact hR.val x hx
        · intro x hx ho
          by_cases e : x = s
          · subst e; rw [if_pos rfl, hok]
          · rw [if_neg e]; exact hR.low x hx ho
        · intro x hx ho
          by_cases e : x = s
          · subst e; omega
          · rw [if_neg e] at ho; exact hR.top x hx ho
        · refine htk1 (fun x => if x = s then (k : Int) else F x) (by rw [if_pos rfl, hok]) fun x hx => ?_
          by_cases e : x.toNat = s
          · rw [if_pos e]
            have hx9 := hr x (List.mem_of_mem_take hx)
            rw [show x = (s : Int) by omega, hok]
          · rw [if_neg e]; exact htk x hx
        · simp only [List.length_append]; omega
        · intro x hx
          rcases List.mem_append.1 hx with hx | hx
          · exact hnx x hx
          · simp only [adds, List.mem_filter, List.mem_map, decide_eq_true_eq] at hx
            obtain ⟨⟨c, hc, rfl⟩, hxm⟩ := hx
            have := (hv.rng c hc).1
            exact ⟨by omega, hxm, c, hc, by rw [show (s : Int) + c - c = s by omega]; exact hxr⟩
        · intro t ht hFt hot c hc htc
          by_cases e : t = s
          · subst e
            refine List.mem_append.2 (.inr ?_)
            simp only [adds, List.mem_filter, List.mem_map, decide_eq_true_eq]
            exact ⟨⟨c, hc, rfl⟩, htc⟩
          · rw [if_neg e] at hFt
            exact List.mem_append.2 (.inl (hcl t ht hFt hot c hc htc))
    · obtain rfl : i = now.length := by omega
      rw [decide_eq_false (show ¬ (now.length : Int) < (now.length : Int) by omega), cond_false, wr_ok (by omega) (by omega)]
      rw [List.take_length] at htk
      exact ⟨F, nx, rfl, hR, htk, by omega, hnx, hcl⟩

theorem of_out (n : Nat × Nat) (hn : 10000 ≤ n.1) {cs : List Int} (hv : Vld cs) (M : Nat) (hM : M ≤ 900) : ∀ (m k : Nat) (F : Nat → Int) (now : List Int), k ≤ M + 1 → M + 1 - k < m → now.length ≤ 6 * (M + 1) → (∀ x ∈ now, 0 ≤ x ∧ x ≤ (M : Int) ∧ Rch cs k x) →
    (∀ x, x ≤ M → opt cs x = k → (x : Int) ∈ now) → (∀ x, x ≤ M → F x = if opt cs x < k then opt cs x else -1) → DL44_1 n m cs (M : Int) (k : Int) (ltab M F) now = some (ftab cs M)
  | 0, k, F, now, _, h, hl, hr, hc, hF => by
    omega
  | m + 1, k, F, now, hkM, h, hl, hr, hc, hF => by
    rw [DL44_1_succ]
    unfold DF44_1
    have hm := hv.mnt
    by_cases hz : now.length = 0
    · rw [decide_eq_false (by omega), cond_false]
      have hnil : now = [] := List.eq_nil_of_length_eq_zero hz
      -- no sum needs k coins or more
      have no : ∀ d : Nat, ∀ x : Nat, x ≤ M → opt cs x ≠ (k : Int) + d := by
        intro d
        induction d with
        | zero =>
          intro x hx ho
          have := hc x hx (by omega)
          rw [hnil] at this
          cases this
        | succ d ih =>
          intro x hx ho
          have hx0 : 0 < (x : Int) := by
            have := opt_self hm (s := (x : Int)) (by omega)
            omega
          obtain ⟨c, a1, a2, a3⟩ := opt_step hm hx0
          have hcp := hm.pos c a1
          refine ih ((x : Int) - c).toNat (by omega) ?_
          rw [Int.toNat_of_nonneg (by omega)]
          omega
      have : ltab M F = ftab cs M := ltab_congr fun x hx => by
        rw [hF x hx, if_pos]
        refine Int.not_le.1 fun hge => ?_
        have := no (opt cs x - k).toNat x hx
        omega
      rw [this]
    · rw [decide_eq_true (by omega), cond_true]
      -- some sum is k coins: k is not greater than the sum
      have hk : k ≤ M := by
        obtain ⟨x, hx⟩ := List.exists_mem_of_length_pos (show 0 < now.length by omega)
        obtain ⟨h1, h2, h3⟩ := hr x hx
        have := h3.le hm.pos
        omega
      have hv0 : ∀ x : Nat, 0 ≤ opt cs x := fun x => opt_nonneg hm (by omega)
      obtain ⟨F', nx', he, hR, hall, hln, hrn, hcn⟩ := of_mid n hn hv (DL44_1 n m) M k hM hk now (by omega) hr n.1 0 F [] (by omega) (by omega)
        ⟨fun x hx => by rw [hF x hx]; split <;> simp, fun x hx ho => by rw [hF x hx, if_pos ho], fun x hx ho => by
          rw [hF x hx] at ho
          have := hv0 x
          split at ho <;> omega⟩ (by simp) (by have := unm_le M F; simp; omega) (by simp) (fun s hs hFs ho => by
          rw [hF s hs, if_neg (by omega)] at hFs
          have := hv0 s
          omega)
      rw [show ((0 : Nat) : Int) = 0 from rfl] at he
      rw [he]
      have ih := of_out n hn hv M hM m (k + 1) F' nx' (by omega) (by omega) hln hrn (fun x hx ho => by
        have hx0 : 0 < (x : Int) := by
          have := opt_self hm (s := (x : Int)) (by omega)
          omega
        obtain ⟨c, a1, a2, a3⟩ := opt_step hm hx0
        have hcp := hm.pos c a1
        obtain ⟨y, hy⟩ : ∃ y : Nat, (x : Int) - c = y := ⟨((x : Int) - c).toNat, by omega⟩
        rw [hy] at a3
        have hoy : opt cs y = k := by omega
        have hyn := hall y (hc y (by omega) hoy)
        rw [Int.toNat_natCast] at hyn
        have := hcn y (by omega) hyn hoy c a1 (by omega)
        rwa [show (y : Int) + c = x by omega] at this) (fun x hx => by
        by_cases h1 : opt cs x < (k : Int)
        · rw [if_pos (by omega), hR.low x hx h1]
        · by_cases h2 : opt cs x = (k : Int)
          · rw [if_pos (by omega)]
            have := hall x (hc x hx h2)
            rwa [Int.toNat_natCast] at this
          · rw [if_neg (by omega)]
            rcases hR.val x hx with h3 | h3
            · have := hR.top x hx h3; omega
            · exact h3)
      rw [show ((k + 1 : Nat) : Int) = (k : Int) + 1 by omega] at ih
      exact ih
theorem ofew_eq {cs : List Int} (hv : Vld cs) (M : Nat) (hM : M ≤ 249) : D44 N cs (M : Int) = some (ftab cs M) := by
  unfold D44
  rw [show wr .i64 ((M : Int) + 1) = ((M + 1 : Nat) : Int) by rw [wr_ok (by omega) (by omega)]; omega, rep_eq (by omega)]
  simp only [Option.bind_some]
  have := of_out N (Nat.le_refl _) hv M (by omega) N.1 0 (fun _ => -1) [0] (by omega) (by show M + 1 - 0 < 10000; omega) (by simp; omega) (by simp; exact rfl) (fun x hx ho => by
    have : x = 0 := by
      refine Classical.byContradiction fun h => ?_
      have := opt_pos hv.mnt (s := (x : Int)) (by omega)
      omega
    subst this
    simp) (fun x hx => by
    have := opt_nonneg hv.mnt (s := (x : Int)) (by omega)
    rw [if_neg (by omega)])
  rw [show ltab M (fun _ => -1) = List.replicate (M + 1) (-1) by
    apply List.ext_getElem
    · simp [ltab]
    · intro i h1 h2; rw [ltab_get]; simp] at this
  exact this
end Go.Proofs.Ytjgmfdgpgdaclaa
/-
  Coins: greatest coins: the program's, the reference's and the statements' are the same.
-/
set_option linter.unusedVariables false
set_option linter.unusedSimpArgs false
namespace Go.Proofs.Ytjgmfdgpgdaclaa
open Go.Vi

theorem gr_cons (c : Int) (l : List Int) (s : Int) : gr (c :: l) s = ((gr l s).2.2 / c :: (gr l s).1, (gr l s).2.1 + (gr l s).2.2 / c, (gr l s).2.2 - (gr l s).2.2 / c * c) := rfl
theorem gr_length : ∀ (l : List Int) (s : Int), (gr l s).1.length = l.length
  | [], s => rfl
  | c :: l, s => by rw [gr_cons]; simp [gr_length l s]
theorem gr_rest {l : List Int} : ∀ (hp : ∀ c ∈ l, 1 ≤ c) {s : Int}, 0 ≤ s → 0 ≤ (gr l s).2.2 ∧ (gr l s).2.2 ≤ s := by
  induction l with
  | nil => intro hp s hs; exact ⟨hs, Int.le_refl s⟩
  | cons c l ih =>
    intro hp s hs
    obtain ⟨h1, h2⟩ := ih (fun c h => hp c (by simp [h])) hs
    have hc := hp c (by simp)
    have h3 := Int.emod_nonneg (gr l s).2.2 (show c ≠ 0 by omega)
    have h4 := Int.mul_ediv_add_emod (gr l s).2.2 c
    have h5 := Int.ediv_nonneg h1 (show 0 ≤ c by omega)
    have h6 : 0 ≤ (gr l s).2.2 / c * c := Int.mul_nonneg h5 (by omega)
    rw [Int.mul_comm] at h4
    rw [gr_cons]
    simp only
    omega
theorem gr_nn {l : List Int} : ∀ (hp : ∀ c ∈ l, 1 ≤ c) {s : Int}, 0 ≤ s → (∀ x ∈ (gr l s).1, 0 ≤ x) ∧ 0 ≤ (gr l s).2.1 ∧ (gr l s).2.1 + (gr l s).2.2 ≤ s := by
  induction l with
  | nil => intro hp s hs; exact ⟨by simp [gr], Int.le_refl 0, by show (0 : Int) + s ≤ s; omega⟩
  | cons c l ih =>
    intro hp s hs
    obtain ⟨h1, h2, h7⟩ := ih (fun c h => hp c (by simp [h])) hs
    have hr := gr_rest (l := l) (fun c h => hp c (by simp [h])) hs
    have hc := hp c (by simp)
    have h5 := Int.ediv_nonneg hr.1 (show 0 ≤ c by omega)
    have h6 : (gr l s).2.2 / c * 1 ≤ (gr l s).2.2 / c * c := Int.mul_le_mul_of_nonneg_left hc h5
    rw [gr_cons]
    refine ⟨fun x hx => ?_, by simp only; omega, by simp only; omega⟩
    rcases List.mem_cons.1 hx with rfl | hx
    · exact h5
    · exact h1 x hx
theorem gr_tot : ∀ (l : List Int) (s : Int), tot (gr l s).1 = (gr l s).2.1
  | [], s => rfl
  | c :: l, s => by rw [gr_cons]; simp only [tot]; rw [gr_tot l s]; omega
theorem gr_zero : ∀ (l : List Int), (gr l 0).1 = List.replicate l.length 0 ∧ (gr l 0).2 = (0, 0)
  | [] => ⟨rfl, rfl⟩
  | c :: l => by
    obtain ⟨h1, h2⟩ := gr_zero l
    rw [gr_cons, h1, h2]
    simp [List.replicate_succ]
theorem gr_over {l : List Int} {s : Int} (h0 : 0 ≤ s) : (∀ c ∈ l, s < c) → gr l s = (List.replicate l.length 0, 0, s) := by
  induction l with
  | nil => intro _; rfl
  | cons c l ih =>
    intro h
    rw [gr_cons, ih (fun x hx => h x (by simp [hx]))]
    simp only
    rw [Int.ediv_eq_zero_of_lt h0 (h c (by simp))]
    simp [List.replicate_succ]
/-- The number of greatest coins. -/
theorem gr_grd : ∀ (l : List Int) (s : Int), (∀ c ∈ l, 1 ≤ c) → ∀ (ds : List Int), grd (l.reverse ++ ds) s = (gr l s).2.1 + grd ds (gr l s).2.2
  | [], s, _, ds => by show grd ds s = 0 + grd ds s; omega
  | c :: l, s, hp, ds => by
    rw [List.reverse_cons, List.append_assoc, gr_grd l s (fun x hx => hp x (by simp [hx])) ([c] ++ ds), gr_cons]
    simp only [List.cons_append, List.nil_append, grd_cons]
    have h4 := Int.mul_ediv_add_emod (gr l s).2.2 c
    rw [Int.mul_comm] at h4
    rw [show (gr l s).2.2 - (gr l s).2.2 / c * c = (gr l s).2.2 % c by omega]
    omega
theorem gr_count {l : List Int} (hp : ∀ c ∈ l, 1 ≤ c) (s : Int) : (gr l s).2.1 = grd l.reverse s := by
  have := gr_grd l s hp []
  rw [List.append_nil] at this
  simp only [grd] at this
  omega
theorem Vld.cons {cs : List Int} (h : Vld cs) : ∃ l, cs = 1 :: l := by
  have h1 := h.one
  have h2 := h.pos
  cases cs with
  | nil => simp at h2
  | cons a l => simp at h1; exact ⟨l, by rw [h1]⟩
theorem gr_done {cs : List Int} (h : Vld cs) (s : Int) : (gr cs s).2.2 = 0 := by
  obtain ⟨l, rfl⟩ := h.cons
  rw [gr_cons]
  simp only [Int.ediv_one]
  omega
theorem gr_sub {l : List Int} : ∀ (hp : ∀ c ∈ l, 1 ≤ c) {s : Int}, 0 ≤ s → PayU l (s - (gr l s).2.2) (gr l s).1 := by
  induction l with
  | nil => intro hp s hs; exact ⟨by show s - s = 0; omega, rfl⟩
  | cons c l ih =>
    intro hp s hs
    have hr := gr_rest (l := l) (fun c h => hp c (by simp [h])) hs
    have hc := hp c (by simp)
    have h5 := Int.ediv_nonneg hr.1 (show 0 ≤ c by omega)
    rw [gr_cons]
    refine ⟨_, _, rfl, h5, ?_⟩
    have := ih (fun c h => hp c (by simp [h])) hs
    simp only
    rwa [show s - ((gr l s).2.2 - (gr l s).2.2 / c * c) - (gr l s).2.2 / c * c = s - (gr l s).2.2 by omega]
theorem gr_payU {cs : List Int} (h : Vld cs) {s : Int} (hs : 0 ≤ s) : PayU cs s (gr cs s).1 := by
  have := gr_sub (fun c hc => (h.rng c hc).1) hs
  rwa [gr_done h s, Int.sub_zero] at this

theorem great_eq {n : Nat × Nat} {cs : List Int} (h : Vld cs) {s : Int} (h0 : 0 ≤ s) (h1 : s ≤ 1000000) : D63 n cs s = some ((gr cs s).1, (gr cs s).2.1) := by
  unfold D63 HF63
  have hl := h.len
  have hp := h.pos
  have hb : ((cs.all fun c => decide (1 ≤ c) && decide (c ≤ 1073741824)) && (decide (0 ≤ s) && decide (s ≤ 1073741824)) && (decide (0 < cs.length) && decide (cs.length ≤ 1048576))) = true := by
    simp only [Bool.and_eq_true, decide_eq_true_eq, List.all_eq_true]
    exact ⟨⟨fun c hc => by have := h.rng c hc; omega, h0, by omega⟩, hp, by omega⟩
  rw [hb, cond_true]

theorem rgreat_loop (n : Nat × Nat) {cs : List Int} (h : Vld cs) {s : Int} (h0 : 0 ≤ s) (h1 : s ≤ 1000000) : ∀ (m i : Nat), i ≤ cs.length → i < m →
    DL64_1 n m cs (gr (cs.drop i) s).2.2 ((i : Int) - 1) (List.replicate i 0 ++ (gr (cs.drop i) s).1) = some (gr cs s).1
  | 0, i, _, hm => by omega
  | m + 1, i, hi, hm => by
    have hl := h.len
    rw [DL64_1_succ]
    unfold DF64_1
    cases i with
    | zero =>
      rw [decide_eq_false (by omega), cond_false]
      simp
    | succ i =>
      have hlt : i < cs.length := by omega
      have hc := h.rng cs[i] (List.getElem_mem _)
      have hr := gr_rest (l := cs.drop (i + 1)) (fun c hc => (h.rng c (List.mem_of_mem_drop hc)).1) h0
      have hol : i < (List.replicate (i + 1) (0 : Int) ++ (gr (cs.drop (i + 1)) s).1).length := by simp; omega
      rw [show ((i + 1 : Nat) : Int) - 1 = (i : Int) by omega, decide_eq_true (show (i : Int) ≥ 0 by omega), cond_true, idx_nat hlt]
      simp only [Option.bind_some]
      have hne : (cs[i] == 0) = false := by simpa using (show cs[i] ≠ 0 by omega)
      rw [hne, cond_false, inB_nat hol, cond_true, idx_nat hol]
      simp only [Option.bind_some, cond_false]
      have ih := rgreat_loop n h h0 h1 m i (by omega) (by omega)
      rw [drop_cons hlt, gr_cons] at ih
      generalize gr (cs.drop (i + 1)) s = g at *
      have hd := Int.ediv_nonneg hr.1 (show 0 ≤ cs[i] by omega)
      have hdl : g.2.2 / cs[i] * 1 ≤ g.2.2 / cs[i] * cs[i] := Int.mul_le_mul_of_nonneg_left hc.1 hd
      have hm4 := Int.mul_ediv_add_emod g.2.2 cs[i]
      have hm5 := Int.emod_nonneg g.2.2 (show cs[i] ≠ 0 by omega)
      rw [Int.mul_comm] at hm4
      rw [Int.tdiv_eq_ediv_of_nonneg hr.1, Int.tmod_eq_emod_of_nonneg hr.1, wr_ok (x := (i : Int) - 1) (by omega) (by omega), wr_ok (x := g.2.2 / cs[i]) (by omega) (by omega), Int.toNat_natCast]
      rw [show g.2.2 - g.2.2 / cs[i] * cs[i] = g.2.2 % cs[i] by omega] at ih
      rw [show (List.replicate (i + 1) (0 : Int) ++ g.1).set i (g.2.2 / cs[i]) = List.replicate i 0 ++ (g.2.2 / cs[i] :: g.1) by
        rw [List.set_append_left _ _ (by simp), List.replicate_succ', List.set_append_right _ _ (by simp)]
        simp]
      exact ih
theorem rgreat_eq {n : Nat × Nat} (hn : 1000 ≤ n.1) {cs : List Int} (h : Vld cs) {s : Int} (h0 : 0 ≤ s) (h1 : s ≤ 1000000) : D64 n cs s = some (gr cs s).1 := by
  unfold D64
  have hl := h.len
  rw [decide_eq_true (show (0 : Int) ≤ (cs.length : Int) by omega), decide_eq_true (Int.le_refl _), decide_eq_true (show (cs.length : Int) ≤ lim by simp [lim]; omega), Bool.and_self, Bool.and_self, cond_true, wr_ok (by omega) (by omega), Int.toNat_natCast]
  have := rgreat_loop n h h0 h1 n.1 cs.length (Nat.le_refl _) (by omega)
  rw [List.drop_of_length_le (Nat.le_refl _)] at this
  simpa [gr] using this

/-- The total. -/
theorem total_loop (n : Nat × Nat) (l : List Int) (hl : l.length ≤ 100) (hb : ∀ x ∈ l, -1000000000 ≤ x ∧ x ≤ 1000000000) : ∀ (m i : Nat) (v : Int), i ≤ l.length → l.length - i < m → -1000000000 * (i : Int) ≤ v → v ≤ 1000000000 * (i : Int) → DL70_1 n m l v (i : Int) = some (v + tot (l.drop i))
  | 0, i, v, _, h, _, _ => by omega
  | m + 1, i, v, hi, h, h1, h2 => by
    rw [DL70_1_succ]
    unfold DF70_1
    by_cases hlt : i < l.length
    · have hx := hb l[i] (List.getElem_mem _)
      rw [decide_eq_true (show (i : Int) < (l.length : Int) by omega), cond_true, idx_nat hlt]
      simp only [Option.bind_some]
      rw [wr_ok (x := v + l[i]) (by omega) (by omega), drop_cons hlt]
      have ih := total_loop n l hl hb m (i + 1) (v + l[i]) (by omega) (by omega) (by omega) (by omega)
      rw [show ((i + 1 : Nat) : Int) = wr .i64 ((i : Int) + 1) by rw [wr_ok (by omega) (by omega)]; omega] at ih
      rw [ih]
      simp only [tot]
      congr 1
      omega
    · rw [decide_eq_false (show ¬ (i : Int) < (l.length : Int) by omega), cond_false, List.drop_of_length_le (by omega)]
      simp [tot]
theorem total_eq {n : Nat × Nat} (hn : 1000 ≤ n.1) (l : List Int) (hl : l.length ≤ 100) (hb : ∀ x ∈ l, -1000000000 ≤ x ∧ x ≤ 1000000000) : D70 n l = some (tot l) := by
  unfold D70
  have := total_loop n l hl hb n.1 0 0 (by omega) (by omega) (by simp) (by simp)
  simpa using this
theorem gr_bd {cs : List Int} (h : Vld cs) {s : Int} (h0 : 0 ≤ s) : ∀ x ∈ (gr cs s).1, 0 ≤ x ∧ x ≤ s := by
  obtain ⟨h1, h2, h3⟩ := gr_nn (fun c hc => (h.rng c hc).1) h0
  have h4 := gr_rest (fun c hc => (h.rng c hc).1) h0
  have ht := gr_tot cs s
  have key : ∀ (l : List Int), (∀ x ∈ l, 0 ≤ x) → 0 ≤ tot l ∧ ∀ x ∈ l, x ≤ tot l := by
    intro l
    induction l with
    | nil => intro _; simp [tot]
    | cons a l ih =>
      intro ha
      obtain ⟨k1, k2⟩ := ih (fun x hx => ha x (by simp [hx]))
      have := ha a (by simp)
      refine ⟨by simp only [tot]; omega, fun x hx => ?_⟩
      simp only [tot]
      rcases List.mem_cons.1 hx with rfl | hx
      · omega
      · have := k2 x hx; omega
  intro x hx
  have := (key _ h1).2 x hx
  exact ⟨h1 x hx, by omega⟩
theorem rtotal_eq {n : Nat × Nat} (hn : 1000 ≤ n.1) {cs : List Int} (h : Vld cs) {s : Int} (h0 : 0 ≤ s) (h1 : s ≤ 1000000) : D70 n (gr cs s).1 = some (gr cs s).2.1 := by
  rw [total_eq hn _ (by rw [gr_length]; have := h.len; omega) (fun x hx => by have := gr_bd h h0 x hx; omega), gr_tot]
/-! ### Greatest coins, one by one -/
def bump (l : List Int) (i : Nat) : List Int := l.set i (l[i]?.getD 0 + 1)
theorem gr_step : ∀ {l : List Int} (hp : ∀ c ∈ l, 1 ≤ c) {s : Int} {i : Nat} (hi : i < l.length), l[i] ≤ s → (∀ j (hj : j < l.length), i < j → s < l[j]) →
    (gr l s).1 = bump (gr l (s - l[i])).1 i ∧ (gr l s).2.1 = (gr l (s - l[i])).2.1 + 1 ∧ (gr l s).2.2 = (gr l (s - l[i])).2.2
  | [], _, _, _, hi, _, _ => by simp at hi
  | c :: l, hp, s, 0, hi, hle, hov => by
    have hc := hp c (by simp)
    simp only [List.getElem_cons_zero] at hle ⊢
    have ho : ∀ x ∈ l, s < x := fun x hx => by
      obtain ⟨j, hj, rfl⟩ := List.getElem_of_mem hx
      have := hov (j + 1) (by simp; omega) (by omega)
      simpa using this
    have e1 := gr_over (l := l) (s := s) (by omega) ho
    have e2 := gr_over (l := l) (s := s - c) (by omega) (fun x hx => by have := ho x hx; omega)
    rw [gr_cons, gr_cons, e1, e2]
    have h2 : (s - c) / c = s / c - 1 := by
      have := Int.add_mul_ediv_right s (-1) (show c ≠ 0 by omega)
      rw [show s + -1 * c = s - c by omega] at this
      omega
    simp only [bump, h2]
    refine ⟨?_, by omega, ?_⟩
    · simp
    · rw [Int.sub_mul]; omega
  | c :: l, hp, s, i + 1, hi, hle, hov => by
    have hc := hp c (by simp)
    simp only [List.getElem_cons_succ] at hle ⊢
    obtain ⟨h1, h2, h3⟩ := gr_step (l := l) (fun x hx => hp x (by simp [hx])) (s := s) (i := i) (by simpa using hi) hle (fun j hj hij => by
      have := hov (j + 1) (by simp; omega) (by omega)
      simpa using this)
    rw [gr_cons, gr_cons, h1, h2, h3]
    simp only [bump]
    refine ⟨?_, by omega, trivial⟩
    simp

def zad (a b : List Int) : List Int := List.zipWith (· + ·) a b
theorem zad_zero : ∀ (a : List Int) (k : Nat), k = a.length → zad a (List.replicate k 0) = a
  | [], k, h => by subst h; rfl
  | x :: a, k, h => by
    subst h
    have := zad_zero a a.length rfl
    unfold zad at *
    simp only [List.length_cons, List.replicate_succ, List.zipWith_cons_cons, this, Int.add_zero]
theorem zero_zad : ∀ (a : List Int) (k : Nat), k = a.length → zad (List.replicate k 0) a = a
  | [], k, h => by subst h; rfl
  | x :: a, k, h => by
    subst h
    have := zero_zad a a.length rfl
    unfold zad at *
    simp only [List.length_cons, List.replicate_succ, List.zipWith_cons_cons, this, Int.zero_add]
theorem zad_bump : ∀ (a b : List Int) (i : Nat), a.length = b.length → i < a.length → zad (bump a i) b = zad a (bump b i)
  | [], _, i, _, h => by simp at h
  | x :: a, [], i, h, _ => by simp at h
  | x :: a, y :: b, 0, h, hi => by
    simp only [zad, bump, List.set_cons_zero, List.getElem?_cons_zero, Option.getD_some, List.zipWith_cons_cons]
    congr 1
    omega
  | x :: a, y :: b, i + 1, h, hi => by
    have := zad_bump a b i (by simpa using h) (by simpa using hi)
    simp only [zad, bump, List.set_cons_succ, List.getElem?_cons_succ, List.zipWith_cons_cons] at this ⊢
    rw [this]

theorem og_find (n : Nat × Nat) {cs : List Int} (h : Vld cs) (f1 : List Int → Int → Int → List Int → Option R45) (r v : Int) (out : List Int) (hr : 1 ≤ r) (hr2 : r ≤ 1000000) (hol : out.length = cs.length) (hob : ∀ x ∈ out, 0 ≤ x ∧ x ≤ 1000000) (hv0 : 0 ≤ v) (hv1 : v ≤ 1000000) :
    ∀ (m i : Nat) (hi : i < cs.length), i < m → (∀ j (hj : j < cs.length), i < j → r < cs[j]) →
    ∃ i' : Nat, ∃ hi' : i' < cs.length, cs[i'] ≤ r ∧ (∀ j (hj : j < cs.length), i' < j → r < cs[j]) ∧ DL45_2 n f1 m cs r v (i : Int) out = f1 cs (r - cs[i']) (v + 1) (bump out i')
  | 0, i, _, hm, _ => by omega
  | m + 1, i, hi, hm, hov => by
    have hl := h.len
    rw [DL45_2_succ]
    unfold DF45_2
    rw [idx_nat hi]
    simp only [Option.bind_some]
    have hc := h.rng cs[i] (List.getElem_mem _)
    by_cases hgt : cs[i] > r
    · rw [decide_eq_true hgt, cond_true]
      have hi0 : i ≠ 0 := by
        rintro rfl
        obtain ⟨l, hcl⟩ := h.cons
        have : cs[0] = 1 := by simp [hcl]
        omega
      obtain ⟨i', hi', a, b, c⟩ := og_find n h f1 r v out hr hr2 hol hob hv0 hv1 m (i - 1) (by omega) (by omega) (fun j hj hij => by
        by_cases e : j = i
        · subst e; omega
        · exact hov j hj (by omega))
      rw [show wr .i64 ((i : Int) - 1) = ((i - 1 : Nat) : Int) by rw [wr_ok (by omega) (by omega)]; omega]
      exact ⟨i', hi', a, b, c⟩
    · rw [decide_eq_false hgt, cond_false]
      have hio : i < out.length := by omega
      have hx := hob out[i] (List.getElem_mem _)
      rw [inB_nat hio, cond_true, idx_nat hio]
      simp only [Option.bind_some]
      rw [wr_ok (x := r - cs[i]) (by omega) (by omega), wr_ok (x := v + 1) (by omega) (by omega), wr_ok (x := out[i] + 1) (by omega) (by omega), Int.toNat_natCast]
      refine ⟨i, hi, by omega, hov, ?_⟩
      unfold bump
      rw [List.getElem?_eq_getElem hio]
      rfl
theorem og_loop (n : Nat × Nat) (hn : 1000 ≤ n.1) {cs : List Int} (h : Vld cs) (S : Int) (hS : S ≤ 1000000) : ∀ (m : Nat) (r v : Int) (out : List Int), 0 ≤ r → r < m → out.length = cs.length → (∀ x ∈ out, 0 ≤ x ∧ x + r ≤ S) → 0 ≤ v → v + r ≤ S →
    DL45_1 n m cs r v out = some (zad out (gr cs r).1, v + (gr cs r).2.1)
  | 0, r, v, out, h0, hm, _, _, _, _ => by omega
  | m + 1, r, v, out, h0, hm, hol, hob, hv0, hv1 => by
    have hl := h.len
    have hp := h.pos
    rw [DL45_1_succ]
    unfold DF45_1
    by_cases hr : r > 0
    · rw [decide_eq_true hr, cond_true]
      obtain ⟨i, hi, a, b, c⟩ := og_find n h (DL45_1 n m) r v out (by omega) (by omega) hol (fun x hx => by have := hob x hx; omega) hv0 (by omega) n.1 (cs.length - 1) (by omega) (by omega) (fun j hj hij => by omega)
      have hci := h.rng cs[i] (List.getElem_mem _)
      rw [show wr .i64 ((cs.length : Int) - 1) = ((cs.length - 1 : Nat) : Int) by rw [wr_ok (by omega) (by omega)]; omega, c]
      obtain ⟨h1, h2, h3⟩ := gr_step (fun c hc => (h.rng c hc).1) hi a b
      have hio : i < out.length := by omega
      rw [og_loop n hn h S hS m (r - cs[i]) (v + 1) (bump out i) (by omega) (by omega) (by simp [bump, hol]) (fun x hx => by
        unfold bump at hx
        rcases List.mem_or_eq_of_mem_set hx with hx | rfl
        · have := hob x hx; omega
        · rw [List.getElem?_eq_getElem hio]
          have := hob out[i] (List.getElem_mem _)
          simp only [Option.getD_some]
          omega) (by omega) (by omega)]
      rw [h1, h2, zad_bump _ _ _ (by rw [gr_length]; exact hol) hio]
      congr 2
      omega
    · rw [decide_eq_false hr, cond_false, show r = 0 by omega]
      obtain ⟨h1, h2⟩ := gr_zero cs
      rw [h1, h2, zad_zero out cs.length hol.symm]
      simp
theorem ogreat_eq {n : Nat × Nat} (hn : 1000 ≤ n.1) {cs : List Int} (h : Vld cs) {s : Int} (h0 : 0 ≤ s) (h1 : s < n.1) (h2 : s ≤ 1000000) : D45 n cs s = some ((gr cs s).1, (gr cs s).2.1) := by
  unfold D45
  have hl := h.len
  rw [decide_eq_true (show (0 : Int) ≤ (cs.length : Int) by omega), decide_eq_true (Int.le_refl _), decide_eq_true (show (cs.length : Int) ≤ lim by simp [lim]; omega), Bool.and_self, Bool.and_self, cond_true, Int.toNat_natCast]
  rw [og_loop n hn h s h2 n.1 s 0 (List.replicate cs.length 0) h0 h1 (by simp) (fun x hx => by
    have := List.eq_of_mem_replicate hx
    omega) (Int.le_refl 0) (by omega), zero_zad _ _ (gr_length cs s).symm]
  simp
end Go.Proofs.Ytjgmfdgpgdaclaa
/-
  Coins: the first bad sum (the program's and the reference's), and one coin more.
-/
set_option linter.unusedVariables false
set_option linter.unusedSimpArgs false
namespace Go.Proofs.Ytjgmfdgpgdaclaa
open Go.Vi

/-- Greatest coins are not best for this sum. -/
def Bad (cs : List Int) (s : Int) : Prop := opt cs s < (gr cs s).2.1

theorem Mnt.rev {cs : List Int} (h : Mnt cs) : Mnt cs.reverse := ⟨by simpa using h.one, fun c hc => h.pos c (by simpa using hc)⟩
theorem opt_rev {cs : List Int} (h : Mnt cs) {s : Int} (hs : 0 ≤ s) : opt cs.reverse s = opt cs s := by
  have h1 := opt_mono h h.rev (fun c hc => by simpa using hc) hs
  have h2 := opt_mono h.rev h (fun c hc => by simpa using hc) hs
  omega
theorem bad_iff {cs : List Int} (h : Mnt cs) {s : Int} (hs : 0 ≤ s) : Bad cs s ↔ ¬ Well cs.reverse s := by
  unfold Bad Well
  rw [gr_count h.pos, opt_rev h hs]
  omega
theorem not_bad_zero {cs : List Int} (h : Mnt cs) : ¬ Bad cs 0 := by
  unfold Bad
  rw [opt_zero h, (gr_zero cs).2]
  simp

open Classical in
/-- The first bad sum; 0: there is none. -/
noncomputable def fbad (cs : List Int) : Int := if h : ∃ n : Nat, Bad cs n then ((Classical.choose (exMin _ h) : Nat) : Int) else 0
theorem fbad_spec {cs : List Int} (hm : Mnt cs) : (fbad cs = 0 ∧ ∀ s, 0 ≤ s → ¬ Bad cs s) ∨ (0 < fbad cs ∧ Bad cs (fbad cs) ∧ ∀ s, 0 ≤ s → s < fbad cs → ¬ Bad cs s) := by
  unfold fbad
  by_cases h : ∃ n : Nat, Bad cs n
  · rw [dif_pos h]
    obtain ⟨h1, h2⟩ := Classical.choose_spec (exMin _ h)
    right
    refine ⟨?_, h1, fun s hs hlt hb => ?_⟩
    · have h0 : Classical.choose (exMin _ h) ≠ 0 := fun e => by
        rw [e] at h1
        exact not_bad_zero hm h1
      omega
    · have := h2 s.toNat (by rwa [Int.toNat_of_nonneg hs])
      omega
  · rw [dif_neg h]
    left
    refine ⟨rfl, fun s hs hb => h ⟨s.toNat, by rwa [Int.toNat_of_nonneg hs]⟩⟩
theorem fbad_zero {cs : List Int} (hm : Mnt cs) : fbad cs = 0 ↔ ∀ s, 0 ≤ s → ¬ Bad cs s := by
  rcases fbad_spec hm with ⟨h1, h2⟩ | ⟨h1, h2, h3⟩
  · exact ⟨fun _ => h2, fun _ => h1⟩
  · exact ⟨fun e => by omega, fun h => absurd h2 (h _ (by omega))⟩
theorem fbad_is {cs : List Int} (hm : Mnt cs) {w : Int} (h0 : 0 ≤ w) (h1 : Bad cs w) (h2 : ∀ s, 0 ≤ s → s < w → ¬ Bad cs s) : fbad cs = w := by
  rcases fbad_spec hm with ⟨e, h⟩ | ⟨h3, h4, h5⟩
  · exact absurd h1 (h w h0)
  · by_cases ha : fbad cs < w
    · exact absurd h4 (h2 _ (by omega) ha)
    · by_cases hb : w < fbad cs
      · exact absurd h1 (h5 _ h0 hb)
      · omega

theorem Vld.revp {cs : List Int} (h : Vld cs) : cs.reverse.Pairwise (· > ·) := List.pairwise_reverse.2 h.inc
theorem Vld.last2 {cs : List Int} (h : Vld cs) (h2 : 2 ≤ cs.length) : ∃ (d e : Int) (ds : List Int), cs.reverse = d :: e :: ds ∧ cs[cs.length - 1]? = some d ∧ cs[cs.length - 2]? = some e ∧ e < d ∧ ∀ x ∈ ds, x < e := by
  have hl : cs.reverse.length = cs.length := by simp
  match hr : cs.reverse with
  | [] => rw [hr] at hl; simp at hl; omega
  | [d] => rw [hr] at hl; simp at hl; omega
  | d :: e :: ds =>
    have hp := h.revp
    rw [hr] at hp
    have h1 := List.pairwise_cons.1 hp
    have h3 := List.pairwise_cons.1 h1.2
    refine ⟨d, e, ds, rfl, ?_, ?_, h1.1 e (by simp), fun x hx => h3.1 x hx⟩
    · have : cs.reverse[0]? = some d := by rw [hr]; rfl
      rw [List.getElem?_reverse (by omega)] at this
      exact this
    · have : cs.reverse[1]? = some e := by rw [hr]; rfl
      rw [List.getElem?_reverse (by omega)] at this
      rw [show cs.length - 2 = cs.length - 1 - 1 by omega]
      exact this
/-- Where the first bad sum can be. -/
theorem fbad_bound {cs : List Int} (h : Vld cs) (h2 : 2 ≤ cs.length) : fbad cs < cs[cs.length - 1]?.getD 0 + cs[cs.length - 2]?.getD 0 := by
  obtain ⟨d, e, ds, hr, h3, h4, h5, h6⟩ := h.last2 h2
  have hm := h.mnt.rev
  rw [hr] at hm
  rw [h3, h4, Option.getD_some, Option.getD_some]
  have hd := hm.pos d (by simp)
  have he := hm.pos e (by simp)
  rcases fbad_spec h.mnt with ⟨e0, _⟩ | ⟨k1, k2, k3⟩
  · omega
  · have b := (bad_iff h.mnt (by omega)).1 k2
    rw [hr] at b
    exact kozen hm h5 (fun c hc => by have := h6 c hc; omega) (by omega) b (fun s hs hlt => Classical.byContradiction fun hw => k3 s hs hlt ((bad_iff h.mnt hs).2 (by rw [hr]; exact hw)))
theorem fbad_two {cs : List Int} (h : Vld cs) (h2 : cs.length < 3) : fbad cs = 0 := by
  rw [fbad_zero h.mnt]
  intro s hs hb
  have b := (bad_iff h.mnt hs).1 hb
  obtain ⟨l, rfl⟩ := h.cons
  match l, h2 with
  | [], _ => exact b (well_one s hs)
  | [d], _ =>
    have : 1 < d := (List.pairwise_cons.1 h.inc).1 d (by simp)
    exact b (well_two this s hs)
  | _ :: _ :: _, h2 => simp at h2; omega
theorem fbad_low {cs : List Int} (h : Vld cs) (hb : 0 < fbad cs) : 2 < cs.length ∧ cs[2]?.getD 0 + 1 < fbad cs := by
  have h3 : ¬ cs.length < 3 := fun h9 => by have := fbad_two h h9; omega
  refine ⟨by omega, ?_⟩
  rcases fbad_spec h.mnt with ⟨e0, _⟩ | ⟨k1, k2, k3⟩
  · omega
  have b := (bad_iff h.mnt (by omega)).1 k2
  obtain ⟨l, rfl⟩ := h.cons
  match l, h3 with
  | [], h3 => simp at h3
  | [_], h3 => simp at h3
  | x :: y :: t, _ =>
    have hp := h.revp
    have e : (1 :: x :: y :: t).reverse = t.reverse ++ [y, x, 1] := by simp
    rw [e] at hp b
    exact kozen_low hp (by omega) b
theorem fbad_top {cs : List Int} (h : Vld cs) : fbad cs ≤ 2 * cs[cs.length - 1]?.getD 0 := by
  have hp := h.pos
  by_cases h2 : 2 ≤ cs.length
  · have := fbad_bound h h2
    obtain ⟨d, e, ds, hr, h3, h4, h5, h6⟩ := h.last2 h2
    rw [h3, h4, Option.getD_some, Option.getD_some] at this
    rw [h3, Option.getD_some]
    omega
  · have := fbad_two h (by omega)
    rw [List.getElem?_eq_getElem (by omega), Option.getD_some]
    have := h.rng cs[cs.length - 1] (List.getElem_mem _)
    omega

theorem bad_loop (n : Nat × Nat) (hn : 1000 ≤ n.1) {cs : List Int} (h : Vld cs) (M : Nat) (hM : M ≤ 900) (hb : fbad cs ≤ M) : ∀ (m k : Nat), k ≤ M + 1 → M + 1 - k < m → (∀ s : Int, 0 ≤ s → s < k → ¬ Bad cs s) → DL66_1 n m cs ((M + 1 : Nat) : Int) (k : Int) (ftab cs M) = some (fbad cs)
  | 0, k, _, hm, _ => by omega
  | m + 1, k, hk, hm, hno => by
    rw [DL66_1_succ]
    unfold DF66_1
    by_cases hlt : k < M + 1
    · have hkl : k < (ftab cs M).length := by rw [ftab_length]; omega
      rw [decide_eq_true (show (k : Int) < ((M + 1 : Nat) : Int) by omega), cond_true, inB_nat hkl, cond_true, idx_nat hkl, ftab_get]
      simp only [Option.bind_some]
      rw [great_eq h (by omega) (by omega)]
      simp only [Option.bind_some]
      by_cases hbad : Bad cs k
      · have hb2 : (gr cs (k : Int)).2.1 > opt cs (k : Int) := hbad
        rw [decide_eq_true hb2, cond_true, fbad_is h.mnt (by omega) hbad hno]
      · have hb2 : ¬ (gr cs (k : Int)).2.1 > opt cs (k : Int) := hbad
        rw [decide_eq_false hb2, cond_false]
        have ih := bad_loop n hn h M hM hb m (k + 1) (by omega) (by omega) (fun s hs hlt => by
          by_cases e : s = k
          · subst e; exact hbad
          · exact hno s hs (by omega))
        rw [show ((k + 1 : Nat) : Int) = wr .i64 ((k : Int) + 1) by rw [wr_ok (by omega) (by omega)]; omega] at ih
        exact ih
    · rw [decide_eq_false (show ¬ (k : Int) < ((M + 1 : Nat) : Int) by omega), cond_false]
      rcases fbad_spec h.mnt with ⟨e, _⟩ | ⟨h1, h2, _⟩
      · rw [e]
      · exact absurd h2 (hno _ (by omega) (by omega))
theorem bad_eq {n : Nat × Nat} (hn : 1000 ≤ n.1) {cs : List Int} (h : Vld cs) : D66 n cs = some (fbad cs) := by
  unfold D66
  have hp := h.pos
  have hl := h.len
  have hlt : cs.length - 1 < cs.length := by omega
  have hc := h.rng cs[cs.length - 1] (List.getElem_mem _)
  have ht := fbad_top h
  rw [List.getElem?_eq_getElem hlt, Option.getD_some] at ht
  rw [idx_int (k := cs.length - 1) (by rw [wr_ok (by omega) (by omega)]; omega) hlt]
  simp only [Option.bind_some]
  obtain ⟨M, hM⟩ : ∃ M : Nat, 2 * cs[cs.length - 1] = M := ⟨(2 * cs[cs.length - 1]).toNat, by omega⟩
  rw [hM, wr_ok (by omega) (by omega), few_eq hn h M (by omega)]
  simp only [Option.bind_some]
  rw [ftab_length]
  exact bad_loop n hn h M (by omega) (by omega) n.1 0 (by omega) (by omega) (fun s h1 h2 => by omega)
theorem rbad_loop (n : Nat × Nat) (hn : 1000 ≤ n.1) {cs : List Int} (h : Vld cs) (M : Nat) (hM : M ≤ 900) (hb : fbad cs < M) : ∀ (m k : Nat), 1 ≤ k → k ≤ M → M - k < m → (∀ s : Int, 0 ≤ s → s < k → ¬ Bad cs s) → DL67_1 n m cs (M : Int) (k : Int) (ftab cs M) = some (fbad cs)
  | 0, k, _, _, hm, _ => by omega
  | m + 1, k, hk1, hk, hm, hno => by
    rw [DL67_1_succ]
    unfold DF67_1
    by_cases hlt : k < M
    · have hkl : k < (ftab cs M).length := by rw [ftab_length]; omega
      rw [decide_eq_true (show (k : Int) < (M : Int) by omega), cond_true, rgreat_eq hn h (by omega) (by omega)]
      simp only [Option.bind_some]
      rw [rtotal_eq hn h (by omega) (by omega)]
      simp only [Option.bind_some]
      rw [inB_nat hkl, cond_true, idx_nat hkl, ftab_get]
      simp only [Option.bind_some]
      by_cases hbad : Bad cs k
      · have hb2 : (gr cs (k : Int)).2.1 > opt cs (k : Int) := hbad
        rw [decide_eq_true hb2, cond_true, fbad_is h.mnt (by omega) hbad hno]
      · have hb2 : ¬ (gr cs (k : Int)).2.1 > opt cs (k : Int) := hbad
        rw [decide_eq_false hb2, cond_false]
        have ih := rbad_loop n hn h M hM hb m (k + 1) (by omega) (by omega) (by omega) (fun s hs hlt => by
          by_cases e : s = k
          · subst e; exact hbad
          · exact hno s hs (by omega))
        rw [show ((k + 1 : Nat) : Int) = wr .i64 ((k : Int) + 1) by rw [wr_ok (by omega) (by omega)]; omega] at ih
        exact ih
    · rw [decide_eq_false (show ¬ (k : Int) < (M : Int) by omega), cond_false]
      rcases fbad_spec h.mnt with ⟨e, _⟩ | ⟨h1, h2, _⟩
      · rw [e]
      · exact absurd h2 (hno _ (by omega) (by omega))
theorem rbad_eq {n : Nat × Nat} (hn : 1000 ≤ n.1) {cs : List Int} (h : Vld cs) : D67 n cs = some (fbad cs) := by
  unfold D67
  have hp := h.pos
  have hl := h.len
  by_cases h3 : cs.length < 3
  · rw [decide_eq_true (show (cs.length : Int) < 3 by omega), cond_true, fbad_two h h3]
  · rw [decide_eq_false (show ¬ (cs.length : Int) < 3 by omega), cond_false]
    have hlt : cs.length - 1 < cs.length := by omega
    have hlt2 : cs.length - 2 < cs.length := by omega
    have hc := h.rng cs[cs.length - 1] (List.getElem_mem _)
    have hc2 := h.rng cs[cs.length - 2] (List.getElem_mem _)
    have ht := fbad_bound h (by omega)
    rw [List.getElem?_eq_getElem hlt, Option.getD_some, List.getElem?_eq_getElem hlt2, Option.getD_some] at ht
    rw [idx_int (k := cs.length - 1) (by rw [wr_ok (by omega) (by omega)]; omega) hlt, idx_int (k := cs.length - 2) (by rw [wr_ok (by omega) (by omega)]; omega) hlt2]
    simp only [Option.bind_some]
    obtain ⟨M, hM⟩ : ∃ M : Nat, cs[cs.length - 1] + cs[cs.length - 2] = M := ⟨(cs[cs.length - 1] + cs[cs.length - 2]).toNat, by omega⟩
    rw [hM, wr_ok (by omega) (by omega), rfew_eq hn h M (by omega)]
    simp only [Option.bind_some]
    exact rbad_loop n hn h M (by omega) (by omega) n.1 1 (Nat.le_refl 1) (by omega) (by omega) (fun s h1 h2 => by
      have : s = 0 := by omega
      subst this
      exact not_bad_zero h.mnt)

/-! ### One coin more -/
theorem Vld.snoc {cs : List Int} (h : Vld cs) (h6 : cs.length < 6) {c : Int} (hc : cs[cs.length - 1]?.getD 0 < c) (h40 : c ≤ 40) : Vld (cs ++ [c]) := by
  have hp := h.pos
  have hlt : cs.length - 1 < cs.length := by omega
  rw [List.getElem?_eq_getElem hlt, Option.getD_some] at hc
  have hall : ∀ x ∈ cs, x ≤ cs[cs.length - 1] := fun x hx => by
    obtain ⟨j, hj, rfl⟩ := List.getElem_of_mem hx
    by_cases e : j = cs.length - 1
    · subst e; exact Int.le_refl _
    · have := List.pairwise_iff_getElem.1 h.inc j (cs.length - 1) hj hlt (by omega)
      omega
  have hl1 := h.rng cs[cs.length - 1] (List.getElem_mem _)
  refine ⟨by simp, by simp; omega, fun x hx => ?_, ?_, ?_⟩
  · rcases List.mem_append.1 hx with hx | hx
    · exact h.rng x hx
    · simp at hx; omega
  · rw [List.pairwise_append]
    exact ⟨h.inc, by simp, fun a ha b hb => by simp at hb; have := hall a ha; omega⟩
  · obtain ⟨l, rfl⟩ := h.cons
    rfl
theorem one_iff {cs : List Int} (h : Vld cs) {c d m : Int} (hv : Vld (cs ++ [c])) (hd : cs[cs.length - 1]?.getD 0 = d) (hdc : d < c) (hg : fbad cs = 0) (hm1 : c ≤ m * d) (hm2 : m * d < c + d) :
    (gr (cs ++ [c]) (m * d)).2.1 ≤ m ↔ fbad (cs ++ [c]) = 0 := by
  have hp := h.pos
  have hlt : cs.length - 1 < cs.length := by omega
  rw [List.getElem?_eq_getElem hlt, Option.getD_some] at hd
  have hdm : d ∈ cs := hd ▸ List.getElem_mem _
  have hd1 := (h.rng d hdm).1
  have hm0 : 0 ≤ m := by
    refine Int.not_lt.1 fun hlt => ?_
    have : m * d ≤ 0 := Int.mul_nonpos_of_nonpos_of_nonneg (by omega) (by omega)
    omega
  have hc := hv.rng c (by simp)
  obtain ⟨ds, hds⟩ : ∃ ds, cs.reverse = d :: ds := by
    have : cs.reverse[0]? = some d := by rw [List.getElem?_reverse (by omega), List.getElem?_eq_getElem (by omega)]; simp [hd]
    match hr : cs.reverse, this with
    | x :: ds, h => cases h; exact ⟨ds, rfl⟩
  have hrev : (cs ++ [c]).reverse = c :: d :: ds := by simp [hds]
  constructor
  · intro hle
    have hm := hv.mnt.rev
    rw [hrev] at hm
    have hm9 := h.mnt.rev
    rw [hds] at hm9
    have hpr := hv.revp
    rw [hrev] at hpr
    have hq := List.pairwise_cons.1 hpr
    rw [fbad_zero hv.mnt]
    intro s hs hb
    have b := (bad_iff hv.mnt hs).1 hb
    rw [hrev] at b
    refine b (one_point hm hm9 hdc (fun x hx => hq.1 x hx) (fun s hs => ?_) hm1 hm2 ?_ s hs)
    · have := (fbad_zero h.mnt).1 hg s hs
      rw [bad_iff h.mnt hs, hds] at this
      exact Classical.byContradiction this
    · rw [gr_count hv.mnt.pos, hrev] at hle
      exact hle
  · intro h0
    have hnb := (fbad_zero hv.mnt).1 h0 (m * d) (by omega)
    have hr : Rch (cs ++ [c]) m.toNat (m * d) := by
      have key : ∀ k : Nat, Rch (cs ++ [c]) k ((k : Int) * d) := by
        intro k
        induction k with
        | zero => show (0 : Int) * d = 0; simp
        | succ k ih => exact ⟨d, by simp [hdm], by rw [show ((k + 1 : Nat) : Int) * d - d = (k : Int) * d by rw [Int.natCast_add, Int.add_mul]; omega]; exact ih⟩
      have := key m.toNat
      rwa [Int.toNat_of_nonneg hm0] at this
    have := opt_le hv.mnt hr
    unfold Bad at hnb
    omega
end Go.Proofs.Ytjgmfdgpgdaclaa
/-
  Coins: good coins, the first bad sum, payments that prove it: both sides; the examples.
-/
set_option linter.unusedVariables false
set_option linter.unusedSimpArgs false
namespace Go.Proofs.Ytjgmfdgpgdaclaa
open Go.Vi

theorem works_eq : D17 N = some true := by kernel_rfl

noncomputable def goodS (cs : List Int) : Bool × Int := if chk cs = 0 then (decide (fbad cs = 0), 0) else (false, chk cs)
noncomputable def whyS (cs : List Int) : Int × Int := if chk cs = 0 then (if fbad cs = 0 then (0, 13) else (fbad cs, 0)) else (0, chk cs)
theorem good_eq {n : Nat × Nat} (hn : 1000 ≤ n.1) (cs : List Int) : D27 n cs = some (goodS cs) := by
  unfold D27 goodS
  rw [chk_eq hn]
  simp only [Option.bind_some]
  by_cases h : chk cs = 0
  · rw [show (chk cs != 0) = false by simp [h], cond_false, if_pos h, bad_eq hn (chk_vld h)]
    simp only [Option.bind_some]
    by_cases h2 : fbad cs = 0 <;> simp [h2]
  · rw [show (chk cs != 0) = true by simpa using h, cond_true, if_neg h]
theorem rgood_eq {n : Nat × Nat} (hn : 1000 ≤ n.1) (cs : List Int) : D28 n cs = some (goodS cs) := by
  unfold D28 goodS
  rw [chkr_eq hn]
  simp only [Option.bind_some]
  by_cases h : chk cs = 0
  · rw [show (chk cs != 0) = false by simp [h], cond_false, if_pos h, rbad_eq hn (chk_vld h)]
    simp only [Option.bind_some]
    by_cases h2 : fbad cs = 0 <;> simp [h2]
  · rw [show (chk cs != 0) = true by simpa using h, cond_true, if_neg h]
theorem why_eq {n : Nat × Nat} (hn : 1000 ≤ n.1) (cs : List Int) : D29 n cs = some (whyS cs) := by
  unfold D29 whyS
  rw [chk_eq hn]
  simp only [Option.bind_some]
  by_cases h : chk cs = 0
  · rw [show (chk cs != 0) = false by simp [h], cond_false, if_pos h, bad_eq hn (chk_vld h)]
    simp only [Option.bind_some]
    by_cases h2 : fbad cs = 0
    · simp [h2]
    · rw [show (fbad cs == 0) = false by simpa using h2, cond_false, if_neg h2]
  · rw [show (chk cs != 0) = true by simpa using h, cond_true, if_neg h]
theorem rwhy_eq {n : Nat × Nat} (hn : 1000 ≤ n.1) (cs : List Int) : D30 n cs = some (whyS cs) := by
  unfold D30 whyS
  rw [chkr_eq hn]
  simp only [Option.bind_some]
  by_cases h : chk cs = 0
  · rw [show (chk cs == 0) = true by simp [h], show (true == true) = true from rfl, cond_true, if_pos h, rbad_eq hn (chk_vld h)]
    simp only [Option.bind_some]
    by_cases h2 : fbad cs = 0
    · simp [h2]
    · rw [show (fbad cs == 0) = false by simpa using h2, cond_false, if_neg h2, show (chk cs != 0) = false by simp [h], cond_false]
  · rw [show (chk cs == 0) = false by simpa using h, show (false == true) = false from rfl, cond_false, if_neg h]
    simp only [Option.bind_some, cond_false]
    rw [show (chk cs != 0) = true by simpa using h, cond_true]

/-! ### Payments that prove it -/
def cnt (cs l : List Int) : Int := if l.length ≠ cs.length then 5 else if (∀ x ∈ l, 0 ≤ x ∧ x ≤ 200) then 0 else 1
theorem min_loop (n : Nat × Nat) (l : List Int) (hl : l.length ≤ 100) : ∀ (m i : Nat) (v : Int), i ≤ l.length → l.length - i < m → ∃ r : Int, DL75_1 n m l v (i : Int) = some r ∧ (r = v ∨ r ∈ l) ∧ r ≤ v ∧ ∀ x ∈ l.drop i, r ≤ x
  | 0, i, v, _, h => by omega
  | m + 1, i, v, hi, h => by
    rw [DL75_1_succ]
    unfold DF75_1
    by_cases hlt : i < l.length
    · rw [decide_eq_true (show (i : Int) < (l.length : Int) by omega), cond_true, idx_nat hlt, drop_cons hlt]
      simp only [Option.bind_some]
      obtain ⟨r, h1, h2, h3, h4⟩ := min_loop n l hl m (i + 1) (if l[i] < v then l[i] else v) (by omega) (by omega)
      rw [show ((i + 1 : Nat) : Int) = wr .i64 ((i : Int) + 1) by rw [wr_ok (by omega) (by omega)]; omega] at h1
      refine ⟨r, h1, ?_, ?_, fun x hx => ?_⟩
      · rcases h2 with h2 | h2
        · split at h2
          · right; rw [h2]; exact List.getElem_mem _
          · exact .inl h2
        · exact .inr h2
      · split at h3 <;> omega
      · rcases List.mem_cons.1 hx with rfl | hx
        · split at h3 <;> omega
        · exact h4 x hx
    · rw [decide_eq_false (show ¬ (i : Int) < (l.length : Int) by omega), cond_false, List.drop_of_length_le (by omega)]
      exact ⟨v, rfl, .inl rfl, Int.le_refl v, by simp⟩
theorem max_loop (n : Nat × Nat) (l : List Int) (hl : l.length ≤ 100) : ∀ (m i : Nat) (v : Int), i ≤ l.length → l.length - i < m → ∃ r : Int, DL76_1 n m l v (i : Int) = some r ∧ (r = v ∨ r ∈ l) ∧ v ≤ r ∧ ∀ x ∈ l.drop i, x ≤ r
  | 0, i, v, _, h => by omega
  | m + 1, i, v, hi, h => by
    rw [DL76_1_succ]
    unfold DF76_1
    by_cases hlt : i < l.length
    · rw [decide_eq_true (show (i : Int) < (l.length : Int) by omega), cond_true, idx_nat hlt, drop_cons hlt]
      simp only [Option.bind_some]
      obtain ⟨r, h1, h2, h3, h4⟩ := max_loop n l hl m (i + 1) (if l[i] > v then l[i] else v) (by omega) (by omega)
      rw [show ((i + 1 : Nat) : Int) = wr .i64 ((i : Int) + 1) by rw [wr_ok (by omega) (by omega)]; omega] at h1
      refine ⟨r, h1, ?_, ?_, fun x hx => ?_⟩
      · rcases h2 with h2 | h2
        · split at h2
          · right; rw [h2]; exact List.getElem_mem _
          · exact .inl h2
        · exact .inr h2
      · split at h3 <;> omega
      · rcases List.mem_cons.1 hx with rfl | hx
        · split at h3 <;> omega
        · exact h4 x hx
    · rw [decide_eq_false (show ¬ (i : Int) < (l.length : Int) by omega), cond_false, List.drop_of_length_le (by omega)]
      exact ⟨v, rfl, .inl rfl, Int.le_refl v, by simp⟩
theorem min_eq {n : Nat × Nat} (hn : 1000 ≤ n.1) (l : List Int) (hl : l.length ≤ 100) (h0 : 0 < l.length) : ∃ r : Int, D75 n l = some r ∧ r ∈ l ∧ ∀ x ∈ l, r ≤ x := by
  unfold D75
  rw [decide_eq_false (show ¬ (l.length : Int) < 1 by omega), cond_false, show idx l 0 = some l[0] from idx_int (k := 0) rfl h0]
  simp only [Option.bind_some]
  obtain ⟨r, h1, h2, h3, h4⟩ := min_loop n l hl n.1 1 l[0] (by omega) (by omega)
  refine ⟨r, h1, ?_, fun x hx => ?_⟩
  · rcases h2 with rfl | h2
    · exact List.getElem_mem _
    · exact h2
  · rw [show l = l[0] :: l.drop 1 by rw [← drop_cons (k := 0) h0]; rfl] at hx
    rcases List.mem_cons.1 hx with rfl | hx
    · exact h3
    · exact h4 x hx
theorem max_eq {n : Nat × Nat} (hn : 1000 ≤ n.1) (l : List Int) (hl : l.length ≤ 100) (h0 : 0 < l.length) : ∃ r : Int, D76 n l = some r ∧ r ∈ l ∧ ∀ x ∈ l, x ≤ r := by
  unfold D76
  rw [decide_eq_false (show ¬ (l.length : Int) < 1 by omega), cond_false, show idx l 0 = some l[0] from idx_int (k := 0) rfl h0]
  simp only [Option.bind_some]
  obtain ⟨r, h1, h2, h3, h4⟩ := max_loop n l hl n.1 1 l[0] (by omega) (by omega)
  refine ⟨r, h1, ?_, fun x hx => ?_⟩
  · rcases h2 with rfl | h2
    · exact List.getElem_mem _
    · exact h2
  · rw [show l = l[0] :: l.drop 1 by rw [← drop_cons (k := 0) h0]; rfl] at hx
    rcases List.mem_cons.1 hx with rfl | hx
    · exact h3
    · exact h4 x hx
theorem cnt_eq {n : Nat × Nat} (hn : 1000 ≤ n.1) (cs l : List Int) (h0 : 0 < cs.length) (hl : cs.length ≤ 100) : D68 n cs l = some (cnt cs l) := by
  unfold D68 cnt
  by_cases h : l.length = cs.length
  · rw [show ((l.length : Int) != (cs.length : Int)) = false by simp [h], cond_false, if_neg (by simpa using h)]
    obtain ⟨a, a1, a2, a3⟩ := min_eq hn l (by omega) (by omega)
    obtain ⟨b, b1, b2, b3⟩ := max_eq hn l (by omega) (by omega)
    rw [a1]
    simp only [Option.bind_some]
    by_cases h1 : a < 0
    · rw [if_neg (fun hh => by have := hh a a2; omega)]
      simp [h1]
    · rw [decide_eq_false h1, show (false == false) = true from rfl, cond_true, b1]
      simp only [Option.bind_some]
      by_cases h2 : b > 200
      · rw [if_neg (fun hh => by have := hh b b2; omega)]
        simp [h2]
      · rw [if_pos (fun x hx => by have := a3 x hx; have := b3 x hx; omega)]
        simp [h2]
  · rw [show ((l.length : Int) != (cs.length : Int)) = true by simpa using (show ¬ (l.length : Int) = (cs.length : Int) by omega), cond_true, if_pos h]
theorem rcnt_loop (n : Nat × Nat) (l : List Int) (hl : l.length ≤ 100) : ∀ (m i : Nat), i ≤ l.length → l.length - i < m → DL69_1 n m l (i : Int) = some (if (∀ x ∈ l.drop i, 0 ≤ x ∧ x ≤ 200) then 0 else 1)
  | 0, i, _, h => by omega
  | m + 1, i, hi, h => by
    rw [DL69_1_succ]
    unfold DF69_1
    by_cases hlt : i < l.length
    · rw [decide_eq_true (show (i : Int) < (l.length : Int) by omega), cond_true, idx_nat hlt, drop_cons hlt]
      simp only [Option.bind_some, in_eq]
      have ih := rcnt_loop n l hl m (i + 1) (by omega) (by omega)
      rw [show ((i + 1 : Nat) : Int) = wr .i64 ((i : Int) + 1) by rw [wr_ok (by omega) (by omega)]; omega] at ih
      by_cases hx : 0 ≤ l[i] ∧ l[i] ≤ 200
      · rw [decide_eq_true hx.1, decide_eq_true hx.2]
        simp only [Bool.and_self, Bool.not_true, cond_false, List.forall_mem_cons]
        rw [ih]
        by_cases hy : ∀ x ∈ l.drop (i + 1), 0 ≤ x ∧ x ≤ 200
        · rw [if_pos hy, if_pos ⟨hx, hy⟩]
        · rw [if_neg hy, if_neg (fun h => hy h.2)]
      · rw [show (!(decide (0 ≤ l[i]) && decide (l[i] ≤ 200))) = true by
          rw [Bool.not_eq_true', Bool.and_eq_false_iff]
          by_cases h0 : 0 ≤ l[i]
          · right; exact decide_eq_false fun h2 => hx ⟨h0, h2⟩
          · left; exact decide_eq_false h0, cond_true, if_neg (fun h => hx (h l[i] List.mem_cons_self))]
    · rw [decide_eq_false (show ¬ (i : Int) < (l.length : Int) by omega), cond_false, List.drop_of_length_le (by omega)]
      simp
theorem rcnt_eq {n : Nat × Nat} (hn : 1000 ≤ n.1) (cs l : List Int) (hl : cs.length ≤ 100) : D69 n cs l = some (cnt cs l) := by
  unfold D69 cnt
  by_cases h : l.length = cs.length
  · rw [show ((l.length : Int) != (cs.length : Int)) = false by simp [h], cond_false, if_neg (by simpa using h)]
    have := rcnt_loop n l (by omega) n.1 0 (by omega) (by omega)
    simpa using this
  · rw [show ((l.length : Int) != (cs.length : Int)) = true by simpa using (show ¬ (l.length : Int) = (cs.length : Int) by omega), cond_true, if_pos h]

/-- What numbers of coins are together. -/
def dot : List Int → List Int → Int
  | c :: cs, p :: ps => p * c + dot cs ps
  | _, _ => 0
noncomputable def provS (cs : List Int) (s : Int) (p : List Int) : Int := if smd cs s ≠ 0 then smd cs s else if cnt cs p ≠ 0 then cnt cs p else if dot cs p ≠ s then 17 else if (gr cs s).2.1 ≤ tot p then 14 else 0

theorem mulb {a b : Int} (h1 : 0 ≤ a) (h2 : a ≤ 200) (h3 : 1 ≤ b) (h4 : b ≤ 40) : 0 ≤ a * b ∧ a * b ≤ 8000 := by
  have := Int.mul_nonneg h1 (show 0 ≤ b by omega)
  have := Int.mul_le_mul h2 h4 (by omega) (show (0 : Int) ≤ 200 by omega)
  omega
theorem cnt_zero {cs p : List Int} (h : cnt cs p = 0) : p.length = cs.length ∧ ∀ x ∈ p, 0 ≤ x ∧ x ≤ 200 := by
  unfold cnt at h
  split at h
  · cases h
  · rename_i h1
    split at h
    · rename_i h2; exact ⟨by simpa using h1, h2⟩
    · cases h
theorem prov_loop (n : Nat × Nat) {cs : List Int} (hv : Vld cs) {s : Int} (h0 : 0 ≤ s) (h1 : s ≤ 200) {p : List Int} (hpl : p.length = cs.length) (hp : ∀ x ∈ p, 0 ≤ x ∧ x ≤ 200) : ∀ (m i : Nat) (w t : Int), i ≤ p.length → p.length - i < m → 0 ≤ w → w ≤ 8000 * i → 0 ≤ t → t ≤ 200 * i →
    DL31_1 n m cs s w t p (p.length : Int) (i : Int) = some (if w + dot (cs.drop i) (p.drop i) ≠ s then 17 else if (gr cs s).2.1 ≤ t + tot (p.drop i) then 14 else 0)
  | 0, i, w, t, _, h, _, _, _, _ => by omega
  | m + 1, i, w, t, hi, h, a, b, c, d => by
    have hl := hv.len
    rw [DL31_1_succ]
    unfold DF31_1
    by_cases hlt : i < p.length
    · have hlc : i < cs.length := by omega
      have hx := hp p[i] (List.getElem_mem _)
      have hc := hv.rng cs[i] (List.getElem_mem _)
      have hmb := mulb hx.1 hx.2 hc.1 hc.2
      rw [decide_eq_true (show (i : Int) < (p.length : Int) by omega), cond_true, idx_nat hlt, idx_nat hlc, drop_cons hlt, drop_cons hlc]
      simp only [Option.bind_some, dot, tot]
      rw [wr_ok (x := p[i] * cs[i]) (by omega) (by omega), wr_ok (x := w + p[i] * cs[i]) (by omega) (by omega), wr_ok (x := t + p[i]) (by omega) (by omega)]
      have ih := prov_loop n hv h0 h1 hpl hp m (i + 1) (w + p[i] * cs[i]) (t + p[i]) (by omega) (by omega) (by omega) (by omega) (by omega) (by omega)
      rw [show ((i + 1 : Nat) : Int) = wr .i64 ((i : Int) + 1) by rw [wr_ok (by omega) (by omega)]; omega] at ih
      rw [ih, show w + p[i] * cs[i] + dot (cs.drop (i + 1)) (p.drop (i + 1)) = w + (p[i] * cs[i] + dot (cs.drop (i + 1)) (p.drop (i + 1))) by omega, show t + p[i] + tot (p.drop (i + 1)) = t + (p[i] + tot (p.drop (i + 1))) by omega]
      rfl
    · rw [decide_eq_false (show ¬ (i : Int) < (p.length : Int) by omega), cond_false, great_eq hv h0 (by omega)]
      simp only [Option.bind_some]
      rw [List.drop_of_length_le (show p.length ≤ i by omega), List.drop_of_length_le (show cs.length ≤ i by omega)]
      simp only [dot, tot, Int.add_zero]
      by_cases e : w = s
      · rw [show (w != s) = false by simp [e], cond_false, if_neg (by simpa using e)]
        by_cases e2 : (gr cs s).2.1 ≤ t
        · rw [decide_eq_true (show t ≥ (gr cs s).2.1 from e2), cond_true, if_pos e2]
        · rw [decide_eq_false (show ¬ t ≥ (gr cs s).2.1 from e2), cond_false, if_neg e2]
      · rw [show (w != s) = true by simpa using e, cond_true, if_pos e]
theorem prov_eq {n : Nat × Nat} (hn : 1000 ≤ n.1) (cs : List Int) (s : Int) (p : List Int) : D31 n cs s p = some (provS cs s p) := by
  unfold D31 provS
  rw [smd_eq hn]
  simp only [Option.bind_some]
  by_cases h : smd cs s = 0
  · obtain ⟨hv, h0, h1⟩ := smd_zero h
    rw [show (smd cs s != 0) = false by simp [h], cond_false, if_neg (by simpa using h), cnt_eq hn cs p hv.pos (by have := hv.len; omega)]
    simp only [Option.bind_some]
    by_cases h2 : cnt cs p = 0
    · obtain ⟨a, b⟩ := cnt_zero h2
      have := hv.len
      rw [show (cnt cs p != 0) = false by simp [h2], cond_false, if_neg (by simpa using h2)]
      have := prov_loop n hv h0 h1 a b n.1 0 0 0 (by omega) (by omega) (by omega) (by omega) (by omega) (by omega)
      simpa using this
    · rw [show (cnt cs p != 0) = true by simpa using h2, cond_true, if_pos h2]
  · rw [show (smd cs s != 0) = true by simpa using h, cond_true, if_pos h]
theorem rprov_loop (n : Nat × Nat) (hn : 1000 ≤ n.1) {cs : List Int} (hv : Vld cs) {s : Int} (h0 : 0 ≤ s) (h1 : s ≤ 200) {p : List Int} (hpl : p.length = cs.length) (hp : ∀ x ∈ p, 0 ≤ x ∧ x ≤ 200) : ∀ (m i : Nat) (w : Int), i ≤ p.length → p.length - i < m → 0 ≤ w → w ≤ 8000 * i →
    DL32_1 n m cs s p w (i : Int) = some (if w + dot (cs.drop i) (p.drop i) ≠ s then 17 else if (gr cs s).2.1 ≤ tot p then 14 else 0)
  | 0, i, w, _, h, _, _ => by omega
  | m + 1, i, w, hi, h, a, b => by
    have hl := hv.len
    rw [DL32_1_succ]
    unfold DF32_1
    by_cases hlt : i < p.length
    · have hlc : i < cs.length := by omega
      have hx := hp p[i] (List.getElem_mem _)
      have hc := hv.rng cs[i] (List.getElem_mem _)
      have hmb := mulb hx.1 hx.2 hc.1 hc.2
      rw [decide_eq_true (show (i : Int) < (cs.length : Int) by omega), cond_true, idx_nat hlt, idx_nat hlc, drop_cons hlt, drop_cons hlc]
      simp only [Option.bind_some, dot]
      rw [Int.mul_comm cs[i] p[i], wr_ok (x := p[i] * cs[i]) (by omega) (by omega), wr_ok (x := w + p[i] * cs[i]) (by omega) (by omega)]
      have ih := rprov_loop n hn hv h0 h1 hpl hp m (i + 1) (w + p[i] * cs[i]) (by omega) (by omega) (by omega) (by omega)
      rw [show ((i + 1 : Nat) : Int) = wr .i64 ((i : Int) + 1) by rw [wr_ok (by omega) (by omega)]; omega] at ih
      rw [ih, show w + p[i] * cs[i] + dot (cs.drop (i + 1)) (p.drop (i + 1)) = w + (p[i] * cs[i] + dot (cs.drop (i + 1)) (p.drop (i + 1))) by omega]
      rfl
    · rw [decide_eq_false (show ¬ (i : Int) < (cs.length : Int) by omega), cond_false]
      rw [List.drop_of_length_le (show p.length ≤ i by omega), List.drop_of_length_le (show cs.length ≤ i by omega)]
      simp only [dot, Int.add_zero]
      by_cases e : w = s
      · rw [show (w != s) = false by simp [e], cond_false, if_neg (by simpa using e), total_eq hn p (by omega) (fun x hx => by have := hp x hx; omega), rgreat_eq hn hv h0 (by omega)]
        simp only [Option.bind_some]
        rw [rtotal_eq hn hv h0 (by omega)]
        simp only [Option.bind_some]
        by_cases e2 : (gr cs s).2.1 ≤ tot p
        · rw [decide_eq_true (show tot p ≥ (gr cs s).2.1 from e2), cond_true, if_pos e2]
        · rw [decide_eq_false (show ¬ tot p ≥ (gr cs s).2.1 from e2), cond_false, if_neg e2]
      · rw [show (w != s) = true by simpa using e, cond_true, if_pos e]
theorem rprov_eq {n : Nat × Nat} (hn : 1000 ≤ n.1) (cs : List Int) (s : Int) (p : List Int) : D32 n cs s p = some (provS cs s p) := by
  unfold D32 provS
  rw [smdr_eq hn]
  simp only [Option.bind_some]
  by_cases h : smd cs s = 0
  · obtain ⟨hv, h0, h1⟩ := smd_zero h
    rw [show (smd cs s == 0) = true by simp [h], cond_true, if_neg (by simpa using h), rcnt_eq hn cs p (by have := hv.len; omega)]
    simp only [Option.bind_some]
    by_cases h2 : cnt cs p = 0
    · obtain ⟨a, b⟩ := cnt_zero h2
      have := hv.len
      rw [show (cnt cs p != 0) = false by simp [h2], cond_false, if_neg (by simpa using h2)]
      have := rprov_loop n hn hv h0 h1 a b n.1 0 0 (by omega) (by omega) (by omega) (by omega)
      simpa using this
    · rw [show (cnt cs p != 0) = true by simpa using h2, cond_true, if_pos h2]
  · rw [show (smd cs s == 0) = false by simpa using h, cond_false, show (smd cs s != 0) = true by simpa using h, cond_true, if_pos h]
end Go.Proofs.Ytjgmfdgpgdaclaa
