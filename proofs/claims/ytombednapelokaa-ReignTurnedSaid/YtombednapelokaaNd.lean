/- Reign: plain laws: as many sources are wrong in the opposite order. -/
import Derived.Test.YtombednapelokaaNc
import Derived.Test.YtombednapelokaaMi
set_option linter.unusedVariables false
set_option linter.unusedSimpArgs false
namespace Go.Proofs.Ytombednapelokaa
open Go.Vi

def kept (set : Nat) : Nat → List Src → List Int
  | _, [] => []
  | k, s :: r => if Nat.testBit set k = true then kept set (k + 1) r else s.1 :: kept set (k + 1) r

theorem rises_iff {set : Nat} : ∀ (k : Nat) (last : Int) (l : List Src), rises set k last l = true ↔ (∀ y ∈ kept set k l, last ≤ y) ∧ (kept set k l).Pairwise (· ≤ ·)
  | _, _, [] => by simp [rises, kept]
  | k, last, s :: r => by
    simp only [rises, kept]
    by_cases hb : Nat.testBit set k = true
    · rw [if_pos hb, if_pos hb]
      exact rises_iff (k + 1) last r
    · rw [if_neg hb, if_neg hb, Bool.and_eq_true, decide_eq_true_eq, rises_iff (k + 1) s.1 r, List.pairwise_cons]
      constructor
      · rintro ⟨h1, h2, h3⟩
        refine ⟨fun y hy => ?_, h2, h3⟩
        rcases List.mem_cons.1 hy with rfl | hy
        · exact h1
        · exact Int.le_trans h1 (h2 y hy)
      · rintro ⟨h1, h2, h3⟩
        exact ⟨h1 _ (by simp), h2, h3⟩

theorem kept_app {set : Nat} : ∀ (k : Nat) (a b : List Src), kept set k (a ++ b) = kept set k a ++ kept set (k + a.length) b ∧ (outs set k (a ++ b)).length = (outs set k a).length + (outs set (k + a.length) b).length
  | k, [], b => by simp [kept, outs]
  | k, s :: r, b => by
    obtain ⟨i1, i2⟩ := kept_app (set := set) (k + 1) r b
    have e : k + (s :: r).length = k + 1 + r.length := by simp; omega
    rw [e]
    simp only [List.cons_append, kept, outs, i1]
    by_cases hb : Nat.testBit set k = true
    · simp only [if_pos hb, List.length_cons, i2]
      exact ⟨by trivial, by omega⟩
    · simp only [if_neg hb, List.cons_append, i2]
      exact ⟨by trivial, by trivial⟩

theorem turn_sets {σ σ' : Nat} : ∀ (l : List Src) (k k' : Nat), (∀ j, j < l.length → Nat.testBit σ' (k' + j) = Nat.testBit σ (k + (l.length - 1 - j))) → kept σ' k' (tl l) = ((kept σ k l).map fun y => 100 - y).reverse ∧ (outs σ' k' (tl l)).length = (outs σ k l).length
  | [], _, _, _ => by simp [tl, kept, outs]
  | s :: r, k, k', h => by
    obtain ⟨i1, i2⟩ := turn_sets (σ := σ) (σ' := σ') r (k + 1) k' fun j hj => by
      have := h j (by simp; omega)
      rw [this]
      congr 1
      simp
      omega
    have h0 := h r.length (by simp)
    rw [show k + ((s :: r).length - 1 - r.length) = k by simp] at h0
    rw [tl_cons]
    obtain ⟨a1, a2⟩ := kept_app (set := σ') k' (tl r) [tf s]
    rw [a1, a2, i1, i2, tl_len]
    simp only [kept, outs, h0]
    by_cases hb : Nat.testBit σ k = true
    · simp [if_pos hb]
    · simp [if_neg hb, tf]

def rvB (σ L : Nat) : Nat → Nat
  | 0 => 0
  | m + 1 => if Nat.testBit σ (L - 1 - m) = true then 2 ^ m + rvB σ L m else rvB σ L m

theorem rvB_lt (σ L : Nat) : ∀ m, rvB σ L m < 2 ^ m
  | 0 => by simp [rvB]
  | m + 1 => by
    have := rvB_lt σ L m
    simp only [rvB, Nat.pow_succ]
    split <;> omega

theorem rvB_bit (σ L : Nat) : ∀ m i, i < m → Nat.testBit (rvB σ L m) i = Nat.testBit σ (L - 1 - i)
  | 0, i, h => by omega
  | m + 1, i, h => by
    simp only [rvB]
    by_cases hi : i = m
    · subst hi
      have h0 : Nat.testBit (rvB σ L i) i = false := Nat.testBit_lt_two_pow (rvB_lt σ L i)
      by_cases hb : Nat.testBit σ (L - 1 - i) = true
      · rw [if_pos hb, Nat.testBit_two_pow_add_eq, h0, hb]
        rfl
      · rw [if_neg hb, h0]
        simpa using hb
    · have ih := rvB_bit σ L m i (by omega)
      by_cases hb : Nat.testBit σ (L - 1 - m) = true
      · rw [if_pos hb, Nat.testBit_two_pow_add_gt (by omega), ih]
      · rw [if_neg hb, ih]

theorem rises_fulls {set : Nat} : ∀ (k : Nat) (last : Int) (l : List Src), (∀ i, k ≤ i → i < k + l.length → Nat.testBit set i = true) → rises set k last l = true
  | _, _, [], _ => rfl
  | k, last, s :: r, h => by
    simp only [rises, h k (Nat.le_refl _) (by simp), if_true]
    exact rises_fulls (k + 1) last r fun i h1 h2 => h i (by omega) (by simp; omega)
theorem Rn_found {l : List Src} : (Rn l (2 ^ l.length)).1 = true := by
  have hp : 0 < 2 ^ l.length := Nat.two_pow_pos _
  exact ((Rn_spec l (2 ^ l.length)).2.2 (2 ^ l.length - 1) (by omega) (rises_fulls 0 0 l fun i _ hi => by
    rw [Nat.testBit_two_pow_sub_one, decide_eq_true (by omega)])).1

theorem kept_mem {set : Nat} : ∀ (k : Nat) (l : List Src) (y : Int), y ∈ kept set k l → ∃ s ∈ l, y = s.1
  | _, [], _, h => by simp [kept] at h
  | k, s :: r, y, h => by
    simp only [kept] at h
    split at h
    · obtain ⟨x, hx, e⟩ := kept_mem (k + 1) r y h
      exact ⟨x, by simp [hx], e⟩
    · rcases List.mem_cons.1 h with rfl | h
      · exact ⟨s, by simp, rfl⟩
      · obtain ⟨x, hx, e⟩ := kept_mem (k + 1) r y h
        exact ⟨x, by simp [hx], e⟩

theorem best_le {l : List Src} (hg : Good l) : (Rn (tl l) (2 ^ (tl l).length)).2.length ≤ (Rn l (2 ^ l.length)).2.length := by
  obtain ⟨σ, s1, s2, s3⟩ := (Rn_spec l (2 ^ l.length)).1 Rn_found
  rw [s3, tl_len]
  have hlt := rvB_lt σ l.length l.length
  obtain ⟨t1, t2⟩ := turn_sets (σ := σ) (σ' := rvB σ l.length l.length) l 0 0 fun j hj => by
    rw [Nat.zero_add, Nat.zero_add, rvB_bit σ l.length l.length j hj]
  rw [← t2]
  refine ((Rn_spec (tl l) (2 ^ l.length)).2.2 _ hlt ?_).2
  obtain ⟨r1, r2⟩ := (rises_iff 0 0 l).1 s2
  rw [rises_iff, t1]
  constructor
  · intro y hy
    obtain ⟨z, hz, rfl⟩ := List.mem_map.1 (List.mem_reverse.1 hy)
    obtain ⟨s, hs, rfl⟩ := kept_mem _ _ _ hz
    have := hg.all s hs
    omega
  · rw [List.pairwise_reverse, List.pairwise_map]
    exact r2.imp fun h => by omega

theorem best_eq {l : List Src} (hg : Good l) : (Rn (tl l) (2 ^ (tl l).length)).2.length = (Rn l (2 ^ l.length)).2.length := by
  have h1 := best_le hg
  have h2 := best_le hg.tl
  rw [tl_tl] at h2
  omega

end Go.Proofs.Ytombednapelokaa
