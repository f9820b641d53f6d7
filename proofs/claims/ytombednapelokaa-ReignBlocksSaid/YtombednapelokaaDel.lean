/-
  slices.Delete at []int, in this program: the elements between two places go; what stood behind them moves to the left, in place. For a slice of at most 2^30 elements, and places in order, within its length.
-/
import Derived.Test.YtombednapelokaaViS
import Derived.Test.YtombednapelokaaProg
import Derived.KernelRfl
import Derived.WalkKit
import Derived.Deep.LoopGhost
import Derived.Deep.RegionWith
import Derived.Deep.RegionLaw
import Derived.Deep.QuietTactic
import Derived.RegionCalls
import Derived.Lib.Walk
import Derived.Sort.WalkB12
import Derived.Sort.EncStr
import Derived.Lib.SliceRun
import Derived.Lib.SlicesDelete
set_option linter.unusedVariables false
set_option linter.unusedSimpArgs false
set_option maxRecDepth 100000
namespace Go.Proofs.Ytombednapelokaa
open Go.Vi Go.RowKit Go.Lib Go.Sort

theorem info3 : (Try.prog.info? 3).map (fun i => (i.zero, i.size, i.bytes)) = some (some (Value.int .i64 0), 1, 8) := by kernel_rfl
theorem under68 : Try.prog.underlying 68 = some (.slice 3) := by kernel_rfl

set_option maxHeartbeats 4000000 in
set_option maxRecDepth 1000000 in
theorem delete_walk (blk off cap i j : Nat) (d : Array Int) (w : World) (hH : Holds (Value.int .i64) w blk off d) (hcap : d.size ≤ cap) (hm : d.size ≤ 9223372036854775807) (hlt : i < j) (hj : j ≤ d.size)
    (v3 : ∀ w, (zeroValue 3).run Try.prog w = .ok (Value.int .i64 0) w) :
    Calls Try.prog 94 #[.slice (some ⟨blk, off, none⟩) d.size cap, .int .i64 i, .int .i64 j] w fun e w' => e = .returned (.slice (some ⟨blk, off, none⟩) (d.size - (j - i)) cap) ∧ ∃ q, w' = putRow (Value.int .i64) (Sort.ahead w q) blk off (d.toList.take i ++ d.toList.drop j ++ List.replicate (j - i) 0).toArray := by
  obtain ⟨i0, hi0, hz0, hz1, hz2⟩ := info_parts info3
  have t22 := under68
  have hij : i ≤ j := by omega
  -- the cells that are moved to the left
  obtain ⟨news, hnews⟩ : ∃ news, news = (d.toList.drop j).map (Value.int .i64) := ⟨_, rfl⟩
  have hlen : news.length = d.size - j := by rw [hnews]; simp
  have hget : ∀ t, t < d.size - j → news[t]? = some (Value.int .i64 d[j + t]!) := by
    intro t ht
    rw [hnews, List.getElem?_map, List.getElem?_drop, Array.getElem?_toList, getElem!_pos d (j + t) (by omega), Array.getElem?_eq_getElem (by omega)]
    rfl
  obtain ⟨A, hA, hsrc⟩ : ∃ A : Addr, (if cap = j then some (⟨blk, off, none⟩ : Addr) else some ⟨blk, off + j, none⟩) = some A ∧ Hid (∀ t u, news[t]? = some u → w.drew.cell? (A.add t) = some u) := by
    by_cases h : cap = j
    · refine ⟨⟨blk, off, none⟩, by simp [h], fun t u hu => ?_⟩
      have h0 : news.length = 0 := by rw [hlen]; omega
      rw [List.length_eq_zero_iff.1 h0] at hu
      simp at hu
    · refine ⟨⟨blk, off + j, none⟩, by simp [h], fun t u hu => ?_⟩
      have ht : t < d.size - j := by
        have := (List.getElem?_eq_some_iff.1 hu).1
        rwa [hlen] at this
      rw [hget t ht] at hu
      rw [Addr.add_lit, show off + j + t = off + (j + t) by omega]
      exact (hH (j + t) (by omega)).1.trans hu
  have s1 : Hid (news.length = (d.size - j) * 1) := by rw [Nat.mul_one]; exact hlen
  have s2 : Hid (∀ u ∈ news, u.oneCell' = true) := by
    intro u hu
    rw [hnews] at hu
    obtain ⟨x, _, rfl⟩ := List.mem_map.1 hu
    rfl
  have s3 : Hid (∀ t, t < news.length → (w.drew.cell? ⟨blk, off + i * 1 + t, none⟩).isSome = true ∧ w.drew.frozen? ⟨blk, off + i * 1 + t, none⟩ = false) := by
    intro t ht
    rw [hlen] at ht
    rw [Nat.mul_one, Nat.add_assoc]
    exact ⟨by show (w.cell? _).isSome = true; rw [(hH (i + t) (by omega)).1]; rfl, (hH (i + t) (by omega)).2⟩
  -- the world behind the append, behind a name
  obtain ⟨W1, hW1⟩ : ∃ W1, W1 = w.drew.setCells blk (off + i * 1) news := ⟨_, rfl⟩
  have hW1' : W1 = putRow (Value.int .i64) (Sort.ahead w 1) blk off (lay d i (d.toList.drop j)) := by
    rw [hW1, hnews, Nat.mul_one, ← putRow_setCells (Value.int .i64) (Sort.ahead w 1) blk off _ d i (by simp; omega), putRow_self (Value.int .i64) (Sort.ahead w 1) blk off d (holds_ahead (Value.int .i64) w 1 blk off d hH)]
    rfl
  have hH1 : Holds (Value.int .i64) W1 blk off (lay d i (d.toList.drop j)) := by rw [hW1']; exact holds_putRow (Value.int .i64) _ blk off d _ (holds_ahead (Value.int .i64) w 1 blk off d hH) (lay_size _ _ _)
  have hcl : ∀ ty, (Builtin.clear_ #[68] ty #[.slice (some ⟨blk, off + (i + (d.size - j)), none⟩) (d.size - (i + (d.size - j))) (cap - (i + (d.size - j)))]).run Try.prog W1 = .ok (.tuple #[]) (W1.setCells blk (off + (i + (d.size - j))) (List.replicate (d.size - (i + (d.size - j))) (Value.int .i64 0))) :=
    fun ty => Lib.run_clear_slice W1 _ _ ty _ t22 v3 rfl rfl blk (off + (i + (d.size - j))) _ _ (by omega) (fun t ht => by rw [show off + (i + (d.size - j)) + t = off + (i + (d.size - j) + t) by omega, (hH1 _ (by rw [lay_size]; omega)).1]; rfl) (fun t ht => by rw [show off + (i + (d.size - j)) + t = off + (i + (d.size - j) + t) by omega]; exact (hH1 _ (by rw [lay_size]; omega)).2)
  have X : Aside (W1 = putRow (Value.int .i64) (Sort.ahead w 1) blk off (lay d i (d.toList.drop j))) := hW1'
  have hW : Hid (W1 = w.drew.setCells blk (off + i * 1) news) := hW1
  have hic : i ≤ cap := by omega
  have hjc : j ≤ cap := by omega
  clear hW1 hW1' hH1 hH hget hnews hlen
  go_enter Try.func94, Try.ntmps94
  go_wp2_with fail
  go_region_law (refine step_append_room rfl (.tmp 22) (.tmp 25) 68 rfl 3 i0 1 t22 hi0 hz1 blk off i cap (by simp [Act.eval, Act.put]) A (d.size - j) (cap - j) news (by simp [Act.eval, Act.put]) s1.out hsrc.out s2.out (by omega) s3.out ?_; rw [← hW.out])
  go_wp2
  go_ret
  refine ⟨by rw [show d.size - (j - i) = i + (d.size - j) by omega]; rfl, 1, ?_⟩
  rw [← delete_arr d i j 0 hij hj, ← putRow_setCells (Value.int .i64) _ blk off _ _ (i + (d.size - j)) (by rw [lay_size]; simp; omega), ← X.out, List.map_replicate, show d.size - (i + (d.size - j)) = j - i by omega]

theorem zero3 (w : World) : (zeroValue 3).run Try.prog w = .ok (Value.int .i64 0) w := by
  obtain ⟨i0, hi0, hz0, hz1, hz2⟩ := info_parts info3
  simp [zeroValue, typeInfo, hi0, hz0]

theorem del94 : DelC Try.prog 94 := by
  refine ⟨callOK_of Try.func94 (by kernel_rfl) (by kernel_rfl), fun b cap i j zs w cur et hb hcs hcells hlc hlim hij hj => ?_⟩
  have hH : Holds (Value.int .i64) w b 0 zs.toArray := by
    intro t ht
    have ht : t < zs.length := by simpa using ht
    refine ⟨?_, by simp [World.frozen?, hb]⟩
    rw [cell_row hb, Nat.zero_add, hcells t _ (List.getElem?_eq_getElem ht)]
    simp [ht]
  have h := delete_walk b 0 cap i j zs.toArray w hH (by simpa using hlc) (by simp only [List.size_toArray]; have : lim = 1073741824 := rfl; omega) hij (by simpa using hj) zero3
  simp only [List.size_toArray] at h
  refine h.mono fun e w' he => ?_
  obtain ⟨he, q, rfl⟩ := he
  refine ⟨he, ⟨by simp [putRow, mapBlock, Sort.ahead], rfl, rfl, rfl, fun k hk => ?_⟩, putCells (Value.int .i64) 0 (zs.take i ++ zs.drop j ++ List.replicate (j - i) 0).toArray cur, ?_, by simp [putCells], fun t z hz => ?_⟩
  · simp only [putRow, mapBlock, Sort.ahead, Array.getElem?_modify]
    rw [if_neg (fun h => hk h.symm)]
  · simp only [putRow, mapBlock, Sort.ahead, Array.getElem?_modify, if_true, hb, Option.map_some, onCells]
  · have hlt := (List.getElem?_eq_some_iff.1 hz).1
    have hl2 : (zs.take i ++ zs.drop j ++ List.replicate (j - i) (0 : Int)).length = zs.length := by
      simp only [List.length_append, List.length_take, List.length_drop, List.length_replicate]
      omega
    have hlt2 : t < zs.length := by
      simp only [List.length_append, List.length_take, List.length_drop] at hlt
      omega
    have hc : t < cur.size := by omega
    rw [Array.getElem?_toList]
    simp only [putCells, Array.getElem?_mapIdx, Array.getElem?_eq_getElem hc, Option.map_some, List.size_toArray, hl2, Nat.zero_add, Nat.zero_le, true_and, hlt2, if_true, Nat.sub_zero]
    have h3 : (zs.take i ++ zs.drop j ++ List.replicate (j - i) (0 : Int))[t]? = some z := by
      rw [List.getElem?_append_left hlt]
      exact hz
    have h4 : (zs.take i ++ zs.drop j ++ List.replicate (j - i) (0 : Int)).toArray[t]! = z := by
      rw [List.getElem!_toArray, List.getElem!_eq_getElem?_getD, h3]
      rfl
    rw [h4]

end Go.Proofs.Ytombednapelokaa
