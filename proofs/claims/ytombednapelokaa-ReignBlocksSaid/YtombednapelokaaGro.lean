/-
  slices.Grow of nothing, in this program: a new row, with nothing in it. For a number from 0 to 2^30.
-/
import Derived.Test.YtombednapelokaaViS
import Derived.Test.YtombednapelokaaProg
import Derived.KernelRfl
import Derived.WalkKit
import Derived.Lib.Walk
import Derived.Lib.SliceRun
import Derived.Lib.AppendZerosOnto
set_option linter.unusedVariables false
set_option linter.unusedSimpArgs false
set_option maxRecDepth 100000
namespace Go.Proofs.Ytombednapelokaa
open Go.Vi Go.RowKit Go.Lib

def growF (e : Sh) (vs : List V) (ρ : Type) (K : Ret → Option ρ) : Option ρ :=
  match vs with
  | [.c (.sl _ [] true), .c (.int .i64 k)] => bif decide (0 ≤ k) && decide (k ≤ 1073741824) then K [.fresh e [] false] else none
  | _ => none

theorem growF_Par1 {e : Sh} : Par1 (growF e) := by
  intro vs ρ K r h
  unfold growF at h
  split at h
  · obtain ⟨hd, h⟩ := cond_some h rfl
    exact ⟨_, h, fun ρ' K' => by simp only [growF, hd, cond_true]⟩
  · cases h

/-- What is new is nothing but room. -/
theorem grow_ret {w : World} {A0 : Nat → Prop} {e : Sh} {t : TypeId} {row : Array Value} {G : Nat} (hG : G * e.nc ≤ row.size) :
    Grows w (w.drew.alloc (.cells row t)) ∧ RetR w (w.drew.alloc (.cells row t)) A0 [.fresh e [] false] (.slice (some ⟨w.heap.size, 0, none⟩) 0 G) := by
  refine ⟨(Grows.drew w).trans (Grows.alloc w.drew _), [.at w.heap.size G], [_], rfl, ⟨⟨fun h => (by cases h), Nat.zero_le _, row, t, ?_, hG, by simp⟩, ⟨rfl, Nat.zero_le _, fun h => (by cases h)⟩, fun b c h => ?_⟩, fun b c _ j hj => by simp at hj, trivial⟩
  · show (w.heap.push (.cells row t))[w.heap.size]? = _
    simp
  · cases h
    show w.heap.size ≤ w.heap.size ∧ w.heap.size < (w.heap.push _).size
    simp

theorem ginfo96 : (Try.prog.info? 79).map (fun i => (i.zero, i.size, i.bytes)) = some (some (Value.agg #[.int .i64 0, .int .i64 0]), 2, 16) := by kernel_rfl
theorem gunder96 : Try.prog.underlying 22 = some (.slice 79) := by kernel_rfl
theorem gint96 : Try.prog.underlying 3 = some (.int .i64) := by kernel_rfl
theorem gcall96 : CallOK Try.prog 96 := callOK_of Try.func96 (by kernel_rfl) (by kernel_rfl)

theorem grow_room96 (ad : Option Addr) (w : World) : Calls Try.prog 96 #[.slice ad 0 0, .int .i64 0] w fun e w' => e = .returned (.slice ad 0 0) ∧ w' = w := by
  go_enter Try.func96, Try.ntmps96
  go_wp2
  go_ret
  exact ⟨rfl, rfl⟩

set_option maxHeartbeats 4000000 in
theorem grow_new96 (ad : Option Addr) (n : Nat) (h0 : 0 < n) (hn : n ≤ 1073741824) (w : World) : Calls Try.prog 96 #[.slice ad 0 0, .int .i64 n] w fun e w' =>
    ∃ G, n ≤ G ∧ e = .returned (.slice (some ⟨w.heap.size, 0, none⟩) 0 G) ∧
      w' = w.drew.alloc (.cells (#[] ++ Builtin.zeroCells #[.int .i64 0, .int .i64 0] n ++ Builtin.zeroCells #[.int .i64 0, .int .i64 0] (G - n)) 79) := by
  obtain ⟨i0, hi0, hz0, hs0, hb0⟩ := info_parts ginfo96
  have h1 : ¬ ((n : Int) < 0) := by omega
  have h3 : wrap64 ((n : Int) - 0) = (n : Int) := by unfold wrap64; omega
  have h4 : (n : Int) > 0 := by omega
  have hold : (Builtin.firstCells i0.size 0 (.slice ad 0 0)).run Try.prog w.drew = .ok (#[] : Array Value) w.drew := by
    cases ad with
    | none => exact run_firstCells_none w.drew i0.size 0 0 0
    | some a => exact run_firstCells_some w.drew i0.size 0 a 0 0 [] (by simp) (by simp)
  have hrz : ∀ ty, (Builtin.append_ #[22, 3] ty #[.slice ad 0 0, .int .i64 (n : Int)]).run Try.prog w =
      .ok (.slice (some ⟨w.heap.size, 0, none⟩) n (grownCap w n 0 79)) (w.drew.alloc (.cells (#[] ++ Builtin.zeroCells #[.int .i64 0, .int .i64 0] n ++ Builtin.zeroCells #[.int .i64 0, .int .i64 0] (grownCap w n 0 79 - n)) 79)) := fun ty => by
    have h := Lib.run_append_grow_zeros w 22 3 ty 79 i0 (Value.agg #[.int .i64 0, .int .i64 0]) .i64 .i64 gunder96 gint96 hi0 hz0 ad 0 0 [] hold n h0 (by omega) (by omega) (by omega)
      (by rw [hb0]; omega)
      (growslice_fits (by omega) (by rw [hb0]; omega))
    have hc : (Value.agg #[Value.int IntKind.i64 0, Value.int IntKind.i64 0]).cells = #[Value.int IntKind.i64 0, Value.int IntKind.i64 0] := rfl
    rw [hc] at h
    simpa [Nat.zero_add] using h
  have hGn : n ≤ grownCap w n 0 79 := grownCap_ge w _ _ _
  obtain ⟨G, hG⟩ : ∃ G, G = grownCap w n 0 79 := ⟨_, rfl⟩
  rw [← hG] at hrz hGn
  have hG63 : G ≤ 9223372036854775807 := by
    have := grownCap_le_maxLen w n 0 79 (by unfold maxLen; omega)
    rw [← hG] at this
    unfold maxLen at this
    omega
  clear hold hG
  go_enter Try.func96, Try.ntmps96
  cases ad with
  | none =>
    go_wp2_with (at_builtin; refine Lib.wpList_append_run _ rfl _ _ _ _ rfl _ _ rfl rfl _ _ (hrz _) ?_)
    all_goals (go_ret; exact ⟨G, hGn, rfl, rfl⟩)
  | some a =>
    obtain ⟨ab, ao, asp⟩ := a
    go_wp2_with (at_builtin; refine Lib.wpList_append_run _ rfl _ _ _ _ rfl _ _ rfl rfl _ _ (hrz _) ?_)
    all_goals (go_ret; exact ⟨G, hGn, rfl, rfl⟩)

theorem grow96 : FCs Try.prog 96 (growF (.pair (.int .i64) (.int .i64))) := by
  intro vs ρ K r h
  unfold growF at h
  split at h
  · rename_i e' k
    obtain ⟨hd, h⟩ := cond_some h rfl
    simp only [Bool.and_eq_true, decide_eq_true_eq] at hd
    refine ⟨_, h, fun w A0 args hA hargs => ?_⟩
    match args, hargs with
    | [v0, v1], ⟨h0, h1, _⟩ =>
      obtain ⟨ad, cap, rfl, _, hcap, _⟩ := h0
      have hc0 : cap = 0 := hcap rfl
      subst hc0
      have h1 : v1 = .int .i64 k := h1
      subst h1
      obtain ⟨n, rfl⟩ := Int.eq_ofNat_of_zero_le hd.1
      by_cases hn : n = 0
      · subst hn
        refine (grow_room96 ad w).mono fun e w' he => ?_
        obtain ⟨rfl, rfl⟩ := he
        exact ⟨Grows.refl _, [.emp], [_], rfl, ⟨rfl, ⟨ad, rfl, fun h => (by cases h), rfl, fun p l h => (by cases h)⟩, fun b c h => (by cases h)⟩, fun b c h => (by cases h), trivial⟩
      · refine (grow_new96 ad n (by omega) (by omega) w).mono fun e w' he => ?_
        obtain ⟨G, hG, rfl, rfl⟩ := he
        refine grow_ret ?_
        simp only [Array.size_append, size_zeroCells, Sh.nc]
        simp
        omega
  · cases h

theorem ginfo97 : (Try.prog.info? 31).map (fun i => (i.zero, i.size, i.bytes)) = some (some (Value.agg #[.int .i64 0, .int .i64 0]), 2, 16) := by kernel_rfl
theorem gunder97 : Try.prog.underlying 42 = some (.slice 31) := by kernel_rfl
theorem gint97 : Try.prog.underlying 3 = some (.int .i64) := by kernel_rfl
theorem gcall97 : CallOK Try.prog 97 := callOK_of Try.func97 (by kernel_rfl) (by kernel_rfl)

theorem grow_room97 (ad : Option Addr) (w : World) : Calls Try.prog 97 #[.slice ad 0 0, .int .i64 0] w fun e w' => e = .returned (.slice ad 0 0) ∧ w' = w := by
  go_enter Try.func97, Try.ntmps97
  go_wp2
  go_ret
  exact ⟨rfl, rfl⟩

set_option maxHeartbeats 4000000 in
theorem grow_new97 (ad : Option Addr) (n : Nat) (h0 : 0 < n) (hn : n ≤ 1073741824) (w : World) : Calls Try.prog 97 #[.slice ad 0 0, .int .i64 n] w fun e w' =>
    ∃ G, n ≤ G ∧ e = .returned (.slice (some ⟨w.heap.size, 0, none⟩) 0 G) ∧
      w' = w.drew.alloc (.cells (#[] ++ Builtin.zeroCells #[.int .i64 0, .int .i64 0] n ++ Builtin.zeroCells #[.int .i64 0, .int .i64 0] (G - n)) 31) := by
  obtain ⟨i0, hi0, hz0, hs0, hb0⟩ := info_parts ginfo97
  have h1 : ¬ ((n : Int) < 0) := by omega
  have h3 : wrap64 ((n : Int) - 0) = (n : Int) := by unfold wrap64; omega
  have h4 : (n : Int) > 0 := by omega
  have hold : (Builtin.firstCells i0.size 0 (.slice ad 0 0)).run Try.prog w.drew = .ok (#[] : Array Value) w.drew := by
    cases ad with
    | none => exact run_firstCells_none w.drew i0.size 0 0 0
    | some a => exact run_firstCells_some w.drew i0.size 0 a 0 0 [] (by simp) (by simp)
  have hrz : ∀ ty, (Builtin.append_ #[42, 3] ty #[.slice ad 0 0, .int .i64 (n : Int)]).run Try.prog w =
      .ok (.slice (some ⟨w.heap.size, 0, none⟩) n (grownCap w n 0 31)) (w.drew.alloc (.cells (#[] ++ Builtin.zeroCells #[.int .i64 0, .int .i64 0] n ++ Builtin.zeroCells #[.int .i64 0, .int .i64 0] (grownCap w n 0 31 - n)) 31)) := fun ty => by
    have h := Lib.run_append_grow_zeros w 42 3 ty 31 i0 (Value.agg #[.int .i64 0, .int .i64 0]) .i64 .i64 gunder97 gint97 hi0 hz0 ad 0 0 [] hold n h0 (by omega) (by omega) (by omega)
      (by rw [hb0]; omega)
      (growslice_fits (by omega) (by rw [hb0]; omega))
    have hc : (Value.agg #[Value.int IntKind.i64 0, Value.int IntKind.i64 0]).cells = #[Value.int IntKind.i64 0, Value.int IntKind.i64 0] := rfl
    rw [hc] at h
    simpa [Nat.zero_add] using h
  have hGn : n ≤ grownCap w n 0 31 := grownCap_ge w _ _ _
  obtain ⟨G, hG⟩ : ∃ G, G = grownCap w n 0 31 := ⟨_, rfl⟩
  rw [← hG] at hrz hGn
  have hG63 : G ≤ 9223372036854775807 := by
    have := grownCap_le_maxLen w n 0 31 (by unfold maxLen; omega)
    rw [← hG] at this
    unfold maxLen at this
    omega
  clear hold hG
  go_enter Try.func97, Try.ntmps97
  cases ad with
  | none =>
    go_wp2_with (at_builtin; refine Lib.wpList_append_run _ rfl _ _ _ _ rfl _ _ rfl rfl _ _ (hrz _) ?_)
    all_goals (go_ret; exact ⟨G, hGn, rfl, rfl⟩)
  | some a =>
    obtain ⟨ab, ao, asp⟩ := a
    go_wp2_with (at_builtin; refine Lib.wpList_append_run _ rfl _ _ _ _ rfl _ _ rfl rfl _ _ (hrz _) ?_)
    all_goals (go_ret; exact ⟨G, hGn, rfl, rfl⟩)

theorem grow97 : FCs Try.prog 97 (growF (.pair (.int .i64) (.int .i64))) := by
  intro vs ρ K r h
  unfold growF at h
  split at h
  · rename_i e' k
    obtain ⟨hd, h⟩ := cond_some h rfl
    simp only [Bool.and_eq_true, decide_eq_true_eq] at hd
    refine ⟨_, h, fun w A0 args hA hargs => ?_⟩
    match args, hargs with
    | [v0, v1], ⟨h0, h1, _⟩ =>
      obtain ⟨ad, cap, rfl, _, hcap, _⟩ := h0
      have hc0 : cap = 0 := hcap rfl
      subst hc0
      have h1 : v1 = .int .i64 k := h1
      subst h1
      obtain ⟨n, rfl⟩ := Int.eq_ofNat_of_zero_le hd.1
      by_cases hn : n = 0
      · subst hn
        refine (grow_room97 ad w).mono fun e w' he => ?_
        obtain ⟨rfl, rfl⟩ := he
        exact ⟨Grows.refl _, [.emp], [_], rfl, ⟨rfl, ⟨ad, rfl, fun h => (by cases h), rfl, fun p l h => (by cases h)⟩, fun b c h => (by cases h)⟩, fun b c h => (by cases h), trivial⟩
      · refine (grow_new97 ad n (by omega) (by omega) w).mono fun e w' he => ?_
        obtain ⟨G, hG, rfl, rfl⟩ := he
        refine grow_ret ?_
        simp only [Array.size_append, size_zeroCells, Sh.nc]
        simp
        omega
  · cases h

end Go.Proofs.Ytombednapelokaa
