/- Texts of this claim, joined: H35 to D74. -/
import Derived.BigRegionIn
import Derived.Deep.Cut
import Derived.Great.Frames
import Derived.KernelRfl
import Derived.Stop.RegionWithIn
import Derived.Test.YtjgmfdgpgdaclaaProg
import Derived.WalkKit
import Derived.Test.YtjgmfdgpgdaclaaP5
/-
  How far all sums can be paid: the walk.
-/
set_option linter.unusedVariables false
set_option linter.unusedSimpArgs false
set_option maxRecDepth 100000
namespace Go.Proofs.Ytjgmfdgpgdaclaa
open Go.RowKit Go.Shelf Go.Maps Go.ChangeMaps Go.MapKept
/-- What so many coins, or fewer, can be together. -/
def rs (l : List Int) : Nat → Int → Bool
  | 0, x => x == 0
  | k + 1, x => rs l k x || l.any fun c => rs l k (x - c)
/-- How far all numbers are so. -/
def upTo (f : Int → Bool) : Nat → Int → Int
  | 0, s => s
  | k + 1, s => bif f (s + 1) then upTo f k (s + 1) else s
def HF35 (S : List Int → Option Int) (l : List Int) (many : Int) : Option (Int × Int) :=
  (S l).bind fun e => bif e != 0 then some (0, e) else
    bif decide (many < 0) || decide (many > 5) then some (0, 1) else
    bif (l.all fun c => decide (1 ≤ c) && decide (c ≤ 40)) && (decide (0 < l.length) && decide (l.length ≤ 6)) then some (upTo (rs l many.toNat) 300 0, 0) else none
theorem rs_bound {l : List Int} (hl : ∀ c ∈ l, 1 ≤ c ∧ c ≤ 40) : ∀ (k : Nat) (x : Int), rs l k x = true → 0 ≤ x ∧ x ≤ 40 * k
  | 0, x, h => by simp [rs] at h; omega
  | k + 1, x, h => by
    simp only [rs, Bool.or_eq_true, List.any_eq_true] at h
    rcases h with h | ⟨c, hc, h⟩
    · have := rs_bound hl k x h; omega
    · have h1 := rs_bound hl k _ h; have := hl c hc; omega
/-- Of the coins so far: what one sum more gives. -/
def addS (l : List Int) (s : Int) (f : Int → Bool) (x : Int) : Bool := f x || l.any fun c => x == s + c
theorem addS_snoc (l : List Int) (c s : Int) (f : Int → Bool) : (fun y => y == s + c || addS l s f y) = addS (l ++ [c]) s f := by
  funext y
  simp only [addS, List.any_append, List.any_cons, List.any_nil, Bool.or_false]
  cases f y <;> cases (l.any fun c => y == s + c) <;> cases (y == s + c) <;> rfl
/-- What the new map holds, some sums being still to come. -/
def part (l : List Int) (f left : Int → Bool) (x : Int) : Bool := f x || l.any fun c => f (x - c) && !left (x - c)
theorem part_start (l : List Int) (f : Int → Bool) (x : Int) : part l f f x = f x := by
  unfold part
  cases h : f x
  · simp
  · rfl
theorem part_step {l : List Int} {f left : Int → Bool} {x : Int} (hx : f x = true) (y : Int) : addS l x (part l f left) y = part l f (fun z => left z && !(z == x)) y := by
  unfold addS part
  rw [Bool.or_assoc]
  congr 1
  rw [Bool.eq_iff_iff]
  simp only [Bool.or_eq_true, List.any_eq_true, Bool.and_eq_true, Bool.not_eq_true', beq_iff_eq, Bool.and_eq_false_iff, Bool.not_eq_false']
  constructor
  · rintro (⟨c, hc, h1, h2⟩ | ⟨c, hc, h1⟩)
    · exact ⟨c, hc, h1, .inl h2⟩
    · have : y - c = x := by omega
      exact ⟨c, hc, by rw [this]; exact hx, .inr this⟩
  · rintro ⟨c, hc, h1, h2 | h2⟩
    · exact .inl ⟨c, hc, h1, h2⟩
    · exact .inr ⟨c, hc, by omega⟩
theorem part_end {l : List Int} {k : Nat} {left : Int → Bool} (h : ∀ z, rs l k z = true → left z = false) (y : Int) : part l (rs l k) left y = rs l (k + 1) y := by
  unfold part
  simp only [rs]
  congr 1
  rw [Bool.eq_iff_iff]
  simp only [List.any_eq_true, Bool.and_eq_true, Bool.not_eq_true']
  exact ⟨fun ⟨c, hc, h1, _⟩ => ⟨c, hc, h1⟩, fun ⟨c, hc, h1⟩ => ⟨c, hc, h1, h _ h1⟩⟩
set_option maxHeartbeats 4000000 in
theorem reach_walk (b off cap : Nat) (zs : List Int) (many : Nat) (hm : many ≤ 5) (w : World) (hb : b < w.heap.size)
    (hcs : ∀ j (h : j < zs.length), w.cell? ⟨b, off + j, none⟩ = some (.int .i64 zs[j])) (hl : zs.length ≤ 6) (hcc : ∀ c ∈ zs, 1 ≤ c ∧ c ≤ 40)
    (hck : Calls Try.prog 25 #[.slice (some ⟨b, off, none⟩) zs.length cap] w fun e w' => e = .returned (.int .i64 0) ∧ Below w.heap.size w w') :
    Calls Try.prog 35 #[.slice (some ⟨b, off, none⟩) zs.length cap, .int .i64 many] w fun e w' => e = .returned (.tuple #[.int .i64 (upTo (rs zs many) 300 0), .int .i64 0]) ∧ Below w.heap.size w w' := by
  have h68 : Try.prog.underlying 68 = some (.map 3 4) := by kernel_rfl
  have hmm := @run_makeMap Try.prog
  have hins : ∀ W : World, ∃ W', (Instr.mapUpdate 68 (.map (some W.heap.size)) (.int .i64 0) (.bool true)).run Try.prog (W.alloc (.map #[] 0)) = .ok () W' ∧
      W'.ownsMap (H := Unit) Try.prog 3 (plainElem Try.prog 4) W.heap.size 1 ((DataW.map []).put (kx 0) (.lit (.bool true))) ∧ (W.alloc (.map #[] 0)).grownBy W' (some W.heap.size) :=
    fun W => put_bool (World.ownsMap_made W _ _ _) h68 (by decide) (inR_of (by omega) (by omega))
  obtain ⟨V, hV⟩ := Classical.axiomOfChoice hins
  have hV1 := fun W => (hV W).1
  clear hins
  go_enter Try.func35, Try.ntmps35
  go_wp2_with (go_at_call 25; refine hck.mono ?_; rintro e w1 ⟨rfl, hB1⟩)
  obtain ⟨_, hV2, hV3⟩ := hV w1
  clear hV hV1
  have hD0 : IsB ((DataW.map []).put (kx 0) (.lit (.bool true)) : DU) (rs zs 0) := (IsB.empty.put 0).congr fun x => by simp [rs]
  have hBV : Below w.heap.size w (V w1) := ((hB1.alloc hB1.size _).grown hV3 (by have := hB1.size; simp; omega) (fun k e => by cases e; exact hB1.size))
  go_loopw [7, 29] (fun a c wr => ∃ (k b1 n1 : Nat) (D1 : DU), k ≤ many ∧ c = .int .i64 k ∧ a = .map (some b1) ∧ w.heap.size ≤ b1 ∧ wr.ownsMap Try.prog 3 (plainElem Try.prog 4) b1 n1 D1 ∧ IsB D1 (rs zs k) ∧ n1 ≤ 7 ^ k ∧ Below w.heap.size w wr)
    (fun _ c _ => many - (intOf c).toNat)
  case atStart => exact ⟨0, _, _, _, Nat.zero_le _, rfl, rfl, hB1.size, hV2, hD0, Nat.le_refl _, hBV⟩
  case round =>
    obtain ⟨k, b1, n1, D1, hk, rfl, rfl, hb1, hown, hD, hn, hB⟩ := hrel
    obtain ⟨wo, rfl⟩ : ∃ wo, wo = wr := ⟨wr, rfl⟩
    by_cases hlt : k < many
    · go_wp2_with (go_at_call 71; refine (clone71 b1 n1 _ D1 _ hown).mono ?_; rintro e w2 ⟨rfl, hc1, hc2, hc3, hc4⟩)
      obtain ⟨w3, hr1, ⟨cnt, hcnt, hrg⟩, hg3, hs3⟩ := range_bool hc2 hD h68
      rw [hr1]
      simp only [Result.andThen]
      rw [Oper.upon_value]
      go_wp2
      have hB2 : Below w.heap.size w w2 := hB.trans (hc3.mono hB.size)
      have hB3 : Below w.heap.size w w3 := hB2.grown hg3 hB2.size (fun k e => by cases e)
      have hn7 : n1 ≤ 16807 := Nat.le_trans hn (Nat.le_trans (Nat.pow_le_pow_right (by omega) (show k ≤ 5 by omega)) (by omega))
      have hc1' := hc1.kept hg3 (by simp)
      rw [hc4] at hrg
      go_frame
      go_loopw [9] (fun _ wr2 => ∃ (left : Int → Bool) (cnt n2 : Nat) (D2 : DU), RangeB wr2 b1 (wo.heap.size + 1) n1 D1 left cnt ∧ wr2.ownsMap Try.prog 3 (plainElem Try.prog 4) wo.heap.size n2 D2 ∧ IsB D2 (part zs (rs zs k) left) ∧ n2 + 6 * cnt ≤ 7 * n1 ∧ (∀ x, left x = true → rs zs k x = true) ∧ Below w.heap.size w wr2)
        (fun _ wr2 => wr2.rangeLeft b1 (wo.heap.size + 1))
      case atStart => exact ⟨_, cnt, n1, D1, hrg, hc1', hD.congr fun x => (part_start zs _ x).symm, by omega, fun x h => h, hB3⟩
      case round =>
        obtain ⟨left, cnt2, n2, D2, hrg2, hown2, hD2, hn2, hlf, hBr⟩ := hrel
        obtain ⟨wi, rfl⟩ : ∃ wi, wi = wr := ⟨wr, rfl⟩
        rcases next_bool hrg2 hD 0 with ⟨h0, hl0, hrun⟩ | ⟨x, w4, cnt', hx, hlx, hrun, hrg4, hlt4, hg4, hs4, hen⟩
        · go_wp2
          have hd := hB.size
          refine ⟨⟨k + 1, wo.heap.size, n2, D2, by omega, by simp, rfl, hB.size, hown2, hD2.congr fun y => part_end (fun z hz => ?_) y, by rw [Nat.pow_succ]; omega, hBr⟩, by simp [intOf]; omega⟩
          obtain ⟨hz0, hz1⟩ := rs_bound hcc k z hz
          exact hl0 z (inR_of (by omega) (by omega))
        · have hne := hrg2.ne
          go_wp2
          have hfx := hlf x hlx
          have hb1lt := hown.lt
          obtain ⟨hx0, hx1⟩ := rs_bound hcc k x hfx
          have hown4 := hown2.kept hg4 (by simp)
          have hB4 : Below w.heap.size w w4 := hBr.grown hg4 hBr.size (fun j e => by cases e; have := hB.size; omega)
          have hBc : ∀ j (h : j < zs.length), ∀ W, Below w.heap.size w W → W.cell? ⟨b, off + j, none⟩ = some (.int .i64 zs[j]) := fun j h W hW => (hW.cell (p := ⟨b, off + j, none⟩) hb).trans (hcs j h)
          go_loopw [41] (fun i wr3 => ∃ (j n3 : Nat) (D3 : DU), j ≤ zs.length ∧ i = .int .i64 j ∧ RangeB wr3 b1 (wo.heap.size + 1) n1 D1 (fun y => left y && !(y == x)) cnt' ∧ wr3.ownsMap Try.prog 3 (plainElem Try.prog 4) wo.heap.size n3 D3 ∧
              IsB D3 (addS (zs.take j) x (part zs (rs zs k) left)) ∧ n3 ≤ n2 + j ∧ Below w.heap.size w wr3)
            (fun i _ => zs.length - (intOf i).toNat)
          case atStart => exact ⟨0, n2, D2, Nat.zero_le _, rfl, hrg4, hown4, hD2.congr fun y => by simp [addS], by omega, hB4⟩
          case round =>
            obtain ⟨j, n3, D3, hj, rfl, hrg5, hown5, hD3, hn3, hB5⟩ := hrel
            by_cases hjl : j < zs.length
            · have hcell := hBc j hjl wr hB5
              have hcj := hcc zs[j] (List.getElem_mem _)
              obtain ⟨w6, hput, hown6, hg6⟩ := put_bool hown5 h68 (by unfold maxLen; omega) (x := x + zs[j]) (inR_of (by omega) (by omega))
              go_wp2
              have hB6 : Below w.heap.size w w6 := hB5.grown hg6 hB5.size (fun q e => by cases e; exact hB.size)
              refine ⟨⟨j + 1, n3 + 1, _, by omega, by simp, hrg5.kept hg6 (by simp; omega) (by simp), hown6, (hD3.put (x + zs[j])).congr fun y => ?_, by omega, hB6⟩, by simp [intOf]; omega⟩
              rw [List.take_succ_eq_append_getElem hjl, ← addS_snoc]
            · obtain rfl : j = zs.length := by omega
              rw [List.take_of_length_le (Nat.le_refl _)] at hD3
              go_wp2
              refine ⟨⟨_, cnt', n3, D3, hrg5, hown5, hD3.congr fun y => part_step hfx y, by omega, fun y hy => ?_, hB5⟩, ?_⟩
              · rw [Bool.and_eq_true] at hy
                exact hlf y hy.1
              · rw [hrg5.left_eq, hrg2.left_eq]
                exact hlt4
    · obtain rfl : k = many := by omega
      go_wp2
      go_loopw [12] (fun v wr2 => ∃ t : Nat, v = .int .i64 t ∧ t ≤ 200 ∧ wr2 = wo ∧ upTo (rs zs k) (300 - t) t = upTo (rs zs k) 300 0) (fun v _ => 300 - (intOf v).toNat)
      case atStart => exact ⟨0, rfl, by omega, rfl, rfl⟩
      case round =>
        obtain ⟨t, rfl, ht, rfl, hup⟩ := hrel
        have hlk := look_bool hown hD h68 (x := (t : Int) + 1) (inR_of (by omega) (by omega))
        rw [show 300 - t = (299 - t) + 1 by omega, upTo] at hup
        cases hf : rs zs k ((t : Int) + 1) with
        | true =>
          rw [hf] at hlk hup
          obtain ⟨_, hb2⟩ := rs_bound hcc k _ hf
          go_wp2
          refine ⟨⟨t + 1, by simp, by omega, by simp, ?_⟩, by simp [intOf]; omega⟩
          rw [← hup]
          rw [show 300 - (t + 1) = 299 - t by omega]
          simp
        | false =>
          rw [hf] at hlk hup
          go_wp2
          go_ret2
          exact ⟨by rw [← hup]; rfl, hB⟩
set_option maxHeartbeats 1000000 in
theorem reach_err (e : Int) (he : e ≠ 0) (v0 : Value) (m : Int) (w : World) (hck : Calls Try.prog 25 #[v0] w fun x w' => x = .returned (.int .i64 e) ∧ Below w.heap.size w w') :
    Calls Try.prog 35 #[v0, .int .i64 m] w fun x w' => x = .returned (.tuple #[.int .i64 0, .int .i64 e]) ∧ Below w.heap.size w w' := by
  go_enter Try.func35, Try.ntmps35
  go_wp2_with (go_at_call 25; refine hck.mono ?_; rintro e w1 ⟨rfl, hB1⟩)
  go_ret2
  exact ⟨rfl, hB1⟩
set_option maxHeartbeats 1000000 in
theorem reach_range (v0 : Value) (m : Int) (w : World) (hm : m < 0 ∨ m > 5) (hck : Calls Try.prog 25 #[v0] w fun x w' => x = .returned (.int .i64 0) ∧ Below w.heap.size w w') :
    Calls Try.prog 35 #[v0, .int .i64 m] w fun x w' => x = .returned (.tuple #[.int .i64 0, .int .i64 1]) ∧ Below w.heap.size w w' := by
  have hd : (decide (m < 0) || decide (5 < m)) = true := by simpa using hm
  go_enter Try.func35, Try.ntmps35
  go_wp2_with (go_at_call 25; refine hck.mono ?_; rintro e w1 ⟨rfl, hB1⟩)
  all_goals first | (go_ret2; exact ⟨rfl, hB1⟩) | trace_state
open Go.Vi
theorem HC35 (n : Nat × Nat) (xs : pksDen [.c (.sl (.int .i64)), .c (.int .i64)]) (r : rksDen [.c (.int .i64) 0, .c (.int .i64) 0]) (h : HF35 (S25 n) xs.1 xs.2.1 = some r) (vs : List V) (hv : pksArg [.c (.sl (.int .i64)), .c (.int .i64)] vs = some xs) :
    FC Try.prog 35 vs (rets [.c (.int .i64) 0, .c (.int .i64) 0] r) := by
  obtain ⟨zs, m, ⟨⟩⟩ := xs
  unfold HF35 at h
  obtain ⟨e, he, h⟩ := Option.bind_eq_some_iff.1 h
  intro w A0 args hA hargs hgl
  have hv2 := pksArg_VR _ _ _ _ hv hargs
  match args, hv2 with
  | [v0, v1], ⟨g0, g1, _⟩ =>
    have g1 : v1 = .int .i64 m := g1
    subst g1
    have hck := call_list (rk := []) (FC25 n) (zs := zs) he hA g0 (Below.refl _ w)
    have fin : ∀ {x y : Int} {e' : Ending} {W' : World}, e' = .returned (.tuple #[.int .i64 x, .int .i64 y]) ∧ Below w.heap.size w W' →
        (match e', W' with | .returned u, w' => Grows w w' ∧ RetR w w' A0 (rets [.c (.int .i64) 0, .c (.int .i64) 0] (x, y)) u | _, _ => False) := by
      rintro x y e' W' ⟨rfl, hB⟩
      exact ⟨Grows.of_below hB, [.emp, .emp], [_, _], rfl, rfl, fun b c h => (by cases h), rfl, fun b c h => (by cases h), trivial⟩
    cases hz : e != 0 with
    | true =>
      rw [hz] at h
      cases h
      exact (reach_err e (by simpa using hz) v0 m w hck).mono fun _ _ h => fin h
    | false =>
      rw [hz] at h
      have hz : e = 0 := by simpa using hz
      subst hz
      simp only [cond_false] at h
      cases hm : decide (m < 0) || decide (m > 5) with
      | true =>
        rw [hm] at h
        cases h
        exact (reach_range v0 m w (by simpa using hm) hck).mono fun _ _ h => fin h
      | false =>
        rw [hm] at h
        simp only [cond_false] at h
        obtain ⟨hd, h⟩ := cond_some h rfl
        cases h
        simp only [Bool.and_eq_true, decide_eq_true_eq, List.all_eq_true, Bool.or_eq_false_iff, decide_eq_false_iff_not] at hd hm
        obtain ⟨hc, hl0, hl1⟩ := hd
        obtain ⟨b, off, cap, rfl, hb, hcs⟩ := CR_ints (zs := zs) (t := false) g0 hl0 hA
        obtain ⟨k, rfl⟩ := Int.eq_ofNat_of_zero_le (Int.not_lt.1 hm.1)
        have hk : ¬ ((k : Int) > 5) := hm.2
        exact (reach_walk b off cap zs k (by omega) w hb hcs hl1 hc hck).mono fun _ _ h => fin h
end Go.Proofs.Ytjgmfdgpgdaclaa
set_option linter.unusedVariables false
set_option linter.unusedSimpArgs false
set_option maxRecDepth 100000
namespace Go.Proofs.Ytjgmfdgpgdaclaa
open Go.Vi
abbrev R35 := Int × Int
def pk35 : List PK := [.c (.sl (.int .i64)), .c (.int .i64)]
def rk35 : List RK := [.c (.int .i64) 0, .c (.int .i64) 0]
noncomputable def S35 (n : Nat × Nat) (coins0 : List Int) (many1 : Int) : Option R35 := HF35 (S25 n) coins0 many1
noncomputable def P35 (n : Nat × Nat) := phiOf pk35 rk35 (fun xs => S35 n xs.1 xs.2.1)
theorem call35 : CallOK Try.prog 35 := callOK_of Try.func35 (by kernel_rfl) (by kernel_rfl)
theorem FC35 (n : Nat × Nat) : FCs Try.prog 35 (P35 n) := phiOf_FCs fun xs r h vs hv => HC35 n xs r h vs hv
abbrev R39 := Int × Int × Int
noncomputable def c39 : Code := bodyOf Try.f39
noncomputable def an39 : Ann := (.s .l (.s (.s .l (.s .l (.j [0, 1, 5, 61, 62, 63, 64, 65, 66, 67] .l .l))) (.s .l (.s .l (.s .l (.s (.s .l (.j [4, 5] (.j [1, 4, 5, 9, 38, 39, 40, 61, 62, 63, 64, 65, 66, 67] (.s .l (.s (.j [1, 4, 5, 9, 38, 39, 40, 61, 62, 63, 64, 65, 66, 67] .l .l) (.j [] (.j [1, 4, 5, 9, 38, 39, 40, 61, 62, 63, 64, 65, 66, 67] (.s .l (.s .l (.s .l (.s .l (.j [1, 4, 5, 9, 38, 39, 40, 61, 62, 63, 64, 65, 66, 67] .l .l))))) .l) .l))) .l) .l)) .l))))))
def pk39 : List PK := [.c (.sl (.int .i64)), .c (.int .i64)]
def rk39 : List RK := [.c (.int .i64) 4, .c (.int .i64) 5, .c (.int .i64) 6]
noncomputable def rt39 (st : St) : Option R39 := rtG rk39 st
noncomputable def E39 (n : Nat × Nat) : Env := { T := tab, phi := (consPhi 56 (fun _ => true) (P56 n) (consPhi 57 (fun _ => true) (P57 n) noPhi)), eff := fun _ => false, fuel := n.1, hold := n.2 }
noncomputable def kq39_3 (n : Nat × Nat) : St → Option R39 := run (E39 n) (cB (cB (cB (cB (cB (cB c39)))))) (Ann.snd (Ann.snd (Ann.snd (Ann.snd (Ann.snd (Ann.snd an39)))))) rt39 (fun _ _ => none) rt39
noncomputable def xb39_5 (n : Nat × Nat) : Nat → St → Option R39 := fun j s => bif Nat.beq j 0 then normC [4, 5] s (kq39_3 n) else (fun _ _ => none) j s
noncomputable def F39_6 (n : Nat × Nat) : (St → Option R39) → St → Option R39 := fun K s => run (E39 n) (cA (cA (cB (cA (cB (cB (cB (cB (cB c39))))))))) (Ann.fst (Ann.fst (Ann.snd (Ann.fst (Ann.snd (Ann.snd (Ann.snd (Ann.snd (Ann.snd an39))))))))) (fun s => normC [1, 4, 5, 9, 38, 39, 40, 61, 62, 63, 64, 65, 66, 67] s K) (xb39_5 n) rt39 s
noncomputable def kq39_9 (n : Nat × Nat) (m1 : Nat) : St → Option R39 := run (E39 n) (cB (cB (cB (cA (cA (cB (cA (cB (cB (cB (cB (cB c39)))))))))))) (Ann.snd (Ann.snd (Ann.snd (Ann.fst (Ann.fst (Ann.snd (Ann.fst (Ann.snd (Ann.snd (Ann.snd (Ann.snd (Ann.snd an39)))))))))))) (fun s => normC [1, 4, 5, 9, 38, 39, 40, 61, 62, 63, 64, 65, 66, 67] s (loopN (F39_6 n) m1)) (xb39_5 n) rt39
noncomputable def L39_1 (n : Nat × Nat) (m : Nat) (sum1 : Int) (pay4 : Int) (back5 : Int) (v38o : Nat) (v38w : Nat) (v39 : Int) (v40 : Int) (l9 : List Int) : Option R39 := loopN (F39_6 n) m { tm := [uu, .c (.int .i64 sum1), uu, uu, .c (.int .i64 pay4), .c (.int .i64 back5), uu, uu, uu, .own 9 none false, uu, uu, uu, uu, uu, uu, uu, uu, uu, uu, uu, uu, uu, uu, uu, uu, uu, uu, uu, uu, uu, uu, uu, uu, uu, uu, uu, uu, .own 9 (some (v38o, v38w)) false, .c (.int .i64 v39), .c (.int .i64 v40), uu, uu, uu, uu, uu, uu, uu, uu, uu, uu, uu, uu, uu, uu, uu, uu, uu, uu, uu, uu, uu, uu, uu, uu, uu, uu, uu, uu, uu, uu, uu, uu, uu], hp := (upd emp 9 (.arr (.int .i64) l9 false)) }
noncomputable def L39_2 (n : Nat × Nat) (m1 : Nat) (sum1 : Int) (pay4 : Int) (back5 : Int) (v38o : Nat) (v38w : Nat) (v39 : Int) (v40 : Int) (l9 : List Int) : Option R39 := loopN (fun _ => (kq39_9 n m1)) n.2 { tm := [uu, .c (.int .i64 sum1), uu, uu, .c (.int .i64 pay4), .c (.int .i64 back5), uu, uu, uu, .own 9 none false, uu, uu, uu, uu, uu, uu, uu, uu, uu, uu, uu, uu, uu, uu, uu, uu, uu, uu, uu, uu, uu, uu, uu, uu, uu, uu, uu, uu, .own 9 (some (v38o, v38w)) false, .c (.int .i64 v39), .c (.int .i64 v40), uu, uu, uu, uu, uu, uu, uu, uu, uu, uu, uu, uu, uu, uu, uu, uu, uu, uu, uu, uu, uu, uu, uu, uu, uu, uu, uu, uu, uu, uu, uu, uu, uu], hp := (upd emp 9 (.arr (.int .i64) l9 false)) }
theorem L39_1_eq (n : Nat × Nat) (m1 : Nat) (sum1 : Int) (pay4 : Int) (back5 : Int) (v38o : Nat) (v38w : Nat) (v39 : Int) (v40 : Int) (l9 : List Int) : L39_1 n (m1 + 1) sum1 pay4 back5 v38o v38w v39 v40 l9 =
 (bif decide (v40 < v39) then (bif inB v40 ((l9.drop v38o).take v38w).length then (idx ((l9.drop v38o).take v38w) v40).bind fun x5' =>
 (bif inB (wr .i64 (sum1 + v40)) l9.length then (idx l9 (wr .i64 (sum1 + v40))).bind fun x6' =>
 ((bif (decide (wr .i64 ((wr .i64 ((wr .i64 (x6' + x5')) - pay4)) - back5) < 0) == false) then ((bif (((wr .i64 ((wr .i64 ((wr .i64 (x6' + x5')) - pay4)) - back5)) == 0) == true) then some (decide (x5' < back5))
 else some false)).bind fun b7' =>
 some b7'
 else some true)).bind fun b8' =>
 (bif b8' then L39_2 n m1 sum1 x6' x5' v38o v38w v39 v40 l9
 else L39_2 n m1 sum1 pay4 back5 v38o v38w v39 v40 l9)
 else none)
 else none)
 else some (pay4, back5, 0)) := by kernel_rfl
theorem L39_2_raw (n : Nat × Nat) (m1 : Nat) (sum1 : Int) (pay4 : Int) (back5 : Int) (v38o : Nat) (v38w : Nat) (v39 : Int) (v40 : Int) (l9 : List Int) : (kq39_9 n m1) { tm := [uu, .c (.int .i64 sum1), uu, uu, .c (.int .i64 pay4), .c (.int .i64 back5), uu, uu, uu, .own 9 none false, uu, uu, uu, uu, uu, uu, uu, uu, uu, uu, uu, uu, uu, uu, uu, uu, uu, uu, uu, uu, uu, uu, uu, uu, uu, uu, uu, uu, .own 9 (some (v38o, v38w)) false, .c (.int .i64 v39), .c (.int .i64 v40), uu, uu, uu, uu, uu, uu, uu, uu, uu, uu, uu, uu, uu, uu, uu, uu, uu, uu, uu, uu, uu, uu, uu, uu, uu, uu, uu, uu, uu, uu, uu, uu, uu], hp := (upd emp 9 (.arr (.int .i64) l9 false)) } =
    L39_1 n m1 sum1 pay4 back5 v38o v38w v39 (wr .i64 (v40 + 1)) l9 := by kernel_rfl
noncomputable def S39 (n : Nat × Nat) (coins0 : List Int) (sum1 : Int) : Option R39 := run (E39 n) c39 an39 rt39 (fun _ _ => none) rt39 { tm := [.c (.sl (.int .i64) coins0 false), .c (.int .i64 sum1), uu, uu, uu, uu, uu, uu, uu, uu, uu, uu, uu, uu, uu, uu, uu, uu, uu, uu, uu, uu, uu, uu, uu, uu, uu, uu, uu, uu, uu, uu, uu, uu, uu, uu, uu, uu, uu, uu, uu, uu, uu, uu, uu, uu, uu, uu, uu, uu, uu, uu, uu, uu, uu, uu, uu, uu, uu, uu, uu, uu, uu, uu, uu, uu, uu, uu, uu, uu, uu, uu, uu, uu], hp := emp }
theorem S39_eq (n : Nat × Nat) (coins0 : List Int) (sum1 : Int) : S39 n coins0 sum1 =
 (S56 n coins0 sum1).bind fun r1' =>
 (bif (r1' != 0) then some (0, 0, r1')
 else (idx coins0 (wr .i64 ((coins0.length : Int) - 1))).bind fun x2' =>
 (S57 n coins0 (wr .i64 (sum1 + x2'))).bind fun r3' =>
 (bif inB sum1 r3'.length then (idx r3' sum1).bind fun x4' =>
 (bif bounds none (some (wr .i64 (x2' + 1))) none r3'.length then L39_1 n n.1 sum1 x4' 0 (0 + 0) ((Int.toNat (wr .i64 (x2' + 1))) - 0) (((r3'.drop (0 + 0)).take ((Int.toNat (wr .i64 (x2' + 1))) - 0)).length : Int) 0 r3'
 else none)
 else none)) := by kernel_rfl
theorem S39_run (n : Nat × Nat) (xs : pksDen pk39) : S39 n xs.1 xs.2.1 = runG (E39 n) noScope c39 an39 (rtG rk39) (fun _ _ => none) (rtG rk39) (st0 pk39 xs Try.f39.ntmps) := by kernel_rfl
noncomputable def P39 (n : Nat × Nat) := phiOf pk39 rk39 (fun xs => S39 n xs.1 xs.2.1)
theorem call39 : CallOK Try.prog 39 := callOK_of Try.func39 (by kernel_rfl) (by kernel_rfl)
theorem env39 (n : Nat × Nat) : EnvOK Try.prog (E39 n) := envOK0 (consPhi_ok (FC56 n) call56 (consPhi_ok (FC57 n) call57 noPhi_ok)) rfl rfl
theorem par39 (n : Nat × Nat) : EnvPar (E39 n) := envPar0 (consPhi_par phiOf_Par1 (consPhi_par phiOf_Par1 noPhi_par)) rfl
theorem FC39 (n : Nat × Nat) : FCs Try.prog 39 (P39 n) := phiOf_FCs fun xs r h vs hv => FC.of_runG tabOK eqsOK (env39 n) (par39 n) mixed (fun _ p _ => noScope_ok p.1 p.2) Try.func39 (c := c39) (an := an39) (pks := pk39) (rks := rk39) (by kernel_rfl) (by kernel_rfl) hv ((S39_run n xs).symm.trans h)
/- slices.Min[[]int,int] -/
abbrev R75 := Int
noncomputable def c75 : Code := bodyOf Try.f75
noncomputable def an75 : Ann := (.s .l (.s (.s .l (.j [0] .l .l)) (.s .l (.s (.s .l (.j [3] (.j [0, 3, 4] (.s (.s .l (.j [0, 3, 4] .l .l)) (.s (.j [0, 3, 4] .l .l) .l)) .l) .l)) .l))))
def pk75 : List PK := [.c (.sl (.int .i64))]
def rk75 : List RK := [.c (.int .i64) 2]
noncomputable def rt75 (st : St) : Option R75 := rtG rk75 st
noncomputable def E75 (n : Nat × Nat) : Env := { T := tab, phi := noPhi, eff := fun _ => false, fuel := n.1, hold := n.2 }
noncomputable def kq75_3 (n : Nat × Nat) : St → Option R75 := run (E75 n) (cB (cB (cB (cB c75)))) (Ann.snd (Ann.snd (Ann.snd (Ann.snd an75)))) rt75 (fun _ _ => none) rt75
noncomputable def xb75_5 (n : Nat × Nat) : Nat → St → Option R75 := fun j s => bif Nat.beq j 0 then normC [3] s (kq75_3 n) else (fun _ _ => none) j s
noncomputable def F75_6 (n : Nat × Nat) : (St → Option R75) → St → Option R75 := fun K s => run (E75 n) (cA (cA (cB (cA (cB (cB (cB c75))))))) (Ann.fst (Ann.fst (Ann.snd (Ann.fst (Ann.snd (Ann.snd (Ann.snd an75))))))) (fun s => normC [0, 3, 4] s K) (xb75_5 n) rt75 s
noncomputable def L75_1 (n : Nat × Nat) (m : Nat) (x0 : List Int) (m3 : Int) (i4 : Int) : Option R75 := loopN (F75_6 n) m { tm := [.c (.sl (.int .i64) x0 false), uu, uu, .c (.int .i64 m3), .c (.int .i64 i4), uu, uu, uu, uu, uu, uu, uu, uu, uu, uu, uu, uu, uu, uu, uu, uu, uu, uu, uu, uu], hp := emp }
theorem L75_1_eq (n : Nat × Nat) (m1 : Nat) (x0 : List Int) (m3 : Int) (i4 : Int) : L75_1 n (m1 + 1) x0 m3 i4 =
 (bif decide (i4 < (x0.length : Int)) then (idx x0 i4).bind fun x2' =>
      L75_1 n m1 x0 (if x2' < m3 then x2' else m3) (wr .i64 (i4 + 1))
 else some m3) := by kernel_rfl
noncomputable def S75 (n : Nat × Nat) (x0 : List Int) : Option R75 := run (E75 n) c75 an75 rt75 (fun _ _ => none) rt75 { tm := [.c (.sl (.int .i64) x0 false), uu, uu, uu, uu, uu, uu, uu, uu, uu, uu, uu, uu, uu, uu, uu, uu, uu, uu, uu, uu, uu, uu, uu, uu], hp := emp }
theorem S75_eq (n : Nat × Nat) (x0 : List Int) : S75 n x0 =
 (bif decide ((x0.length : Int) < 1) then none
 else (idx x0 0).bind fun x1' =>
      L75_1 n n.1 x0 x1' 1) := by kernel_rfl
theorem S75_run (n : Nat × Nat) (xs : pksDen pk75) : S75 n xs.1 = runG (E75 n) noScope c75 an75 (rtG rk75) (fun _ _ => none) (rtG rk75) (st0 pk75 xs Try.f75.ntmps) := by kernel_rfl
noncomputable def P75 (n : Nat × Nat) := phiOf pk75 rk75 (fun xs => S75 n xs.1)
theorem call75 : CallOK Try.prog 75 := callOK_of Try.func75 (by kernel_rfl) (by kernel_rfl)
theorem env75 (n : Nat × Nat) : EnvOK Try.prog (E75 n) := envOK0 noPhi_ok rfl rfl
theorem par75 (n : Nat × Nat) : EnvPar (E75 n) := envPar0 noPhi_par rfl
theorem FC75 (n : Nat × Nat) : FCs Try.prog 75 (P75 n) := phiOf_FCs fun xs r h vs hv => FC.of_runG tabOK eqsOK (env75 n) (par75 n) mixed (fun _ p _ => noScope_ok p.1 p.2) Try.func75 (c := c75) (an := an75) (pks := pk75) (rks := rk75) (by kernel_rfl) (by kernel_rfl) hv ((S75_run n xs).symm.trans h)
/- slices.Max[[]int,int] -/
abbrev R76 := Int
noncomputable def c76 : Code := bodyOf Try.f76
noncomputable def an76 : Ann := (.s .l (.s (.s .l (.j [0] .l .l)) (.s .l (.s (.s .l (.j [3] (.j [0, 3, 4] (.s (.s .l (.j [0, 3, 4] .l .l)) (.s (.j [0, 3, 4] .l .l) .l)) .l) .l)) .l))))
def pk76 : List PK := [.c (.sl (.int .i64))]
def rk76 : List RK := [.c (.int .i64) 2]
noncomputable def rt76 (st : St) : Option R76 := rtG rk76 st
noncomputable def E76 (n : Nat × Nat) : Env := { T := tab, phi := noPhi, eff := fun _ => false, fuel := n.1, hold := n.2 }
noncomputable def kq76_3 (n : Nat × Nat) : St → Option R76 := run (E76 n) (cB (cB (cB (cB c76)))) (Ann.snd (Ann.snd (Ann.snd (Ann.snd an76)))) rt76 (fun _ _ => none) rt76
noncomputable def xb76_5 (n : Nat × Nat) : Nat → St → Option R76 := fun j s => bif Nat.beq j 0 then normC [3] s (kq76_3 n) else (fun _ _ => none) j s
noncomputable def F76_6 (n : Nat × Nat) : (St → Option R76) → St → Option R76 := fun K s => run (E76 n) (cA (cA (cB (cA (cB (cB (cB c76))))))) (Ann.fst (Ann.fst (Ann.snd (Ann.fst (Ann.snd (Ann.snd (Ann.snd an76))))))) (fun s => normC [0, 3, 4] s K) (xb76_5 n) rt76 s
noncomputable def L76_1 (n : Nat × Nat) (m : Nat) (x0 : List Int) (m3 : Int) (i4 : Int) : Option R76 := loopN (F76_6 n) m { tm := [.c (.sl (.int .i64) x0 false), uu, uu, .c (.int .i64 m3), .c (.int .i64 i4), uu, uu, uu, uu, uu, uu, uu, uu, uu, uu, uu, uu, uu, uu, uu, uu, uu, uu, uu, uu], hp := emp }
theorem L76_1_eq (n : Nat × Nat) (m1 : Nat) (x0 : List Int) (m3 : Int) (i4 : Int) : L76_1 n (m1 + 1) x0 m3 i4 =
 (bif decide (i4 < (x0.length : Int)) then (idx x0 i4).bind fun x2' =>
      L76_1 n m1 x0 (if x2' > m3 then x2' else m3) (wr .i64 (i4 + 1))
 else some m3) := by kernel_rfl
noncomputable def S76 (n : Nat × Nat) (x0 : List Int) : Option R76 := run (E76 n) c76 an76 rt76 (fun _ _ => none) rt76 { tm := [.c (.sl (.int .i64) x0 false), uu, uu, uu, uu, uu, uu, uu, uu, uu, uu, uu, uu, uu, uu, uu, uu, uu, uu, uu, uu, uu, uu, uu, uu], hp := emp }
theorem S76_eq (n : Nat × Nat) (x0 : List Int) : S76 n x0 =
 (bif decide ((x0.length : Int) < 1) then none
 else (idx x0 0).bind fun x1' =>
      L76_1 n n.1 x0 x1' 1) := by kernel_rfl
theorem S76_run (n : Nat × Nat) (xs : pksDen pk76) : S76 n xs.1 = runG (E76 n) noScope c76 an76 (rtG rk76) (fun _ _ => none) (rtG rk76) (st0 pk76 xs Try.f76.ntmps) := by kernel_rfl
noncomputable def P76 (n : Nat × Nat) := phiOf pk76 rk76 (fun xs => S76 n xs.1)
theorem call76 : CallOK Try.prog 76 := callOK_of Try.func76 (by kernel_rfl) (by kernel_rfl)
theorem env76 (n : Nat × Nat) : EnvOK Try.prog (E76 n) := envOK0 noPhi_ok rfl rfl
theorem par76 (n : Nat × Nat) : EnvPar (E76 n) := envPar0 noPhi_par rfl
theorem FC76 (n : Nat × Nat) : FCs Try.prog 76 (P76 n) := phiOf_FCs fun xs r h vs hv => FC.of_runG tabOK eqsOK (env76 n) (par76 n) mixed (fun _ p _ => noScope_ok p.1 p.2) Try.func76 (c := c76) (an := an76) (pks := pk76) (rks := rk76) (by kernel_rfl) (by kernel_rfl) hv ((S76_run n xs).symm.trans h)
abbrev R68 := Int
noncomputable def c68 : Code := bodyOf Try.f68
noncomputable def an68 : Ann := (.s .l (.s (.j [] (.s .l (.j [] .l (.s .l (.j [] .l .l)))) .l) .l))
def pk68 : List PK := [.c (.sl (.int .i64)), .c (.sl (.int .i64))]
def rk68 : List RK := [.c (.int .i64) 4]
noncomputable def rt68 (st : St) : Option R68 := rtG rk68 st
noncomputable def E68 (n : Nat × Nat) : Env := { T := tab, phi := (consPhi 75 (fun _ => true) (P75 n) (consPhi 76 (fun _ => true) (P76 n) noPhi)), eff := fun _ => false, fuel := n.1, hold := n.2 }
noncomputable def S68 (n : Nat × Nat) (coins0 : List Int) (l1 : List Int) : Option R68 := run (E68 n) c68 an68 rt68 (fun _ _ => none) rt68 { tm := [.c (.sl (.int .i64) coins0 false), .c (.sl (.int .i64) l1 false), uu, uu, uu, uu, uu, uu, uu, uu, uu, uu, uu, uu, uu, uu, uu, uu, uu, uu], hp := emp }
theorem S68_eq (n : Nat × Nat) (coins0 : List Int) (l1 : List Int) : S68 n coins0 l1 =
 (bif ((l1.length : Int) != (coins0.length : Int)) then some 5
 else (S75 n l1).bind fun r1' =>
 ((bif (decide (r1' < 0) == false) then (S76 n l1).bind fun r2' =>
 some (decide (r2' > 200))
 else some true)).bind fun b3' =>
 (bif b3' then some 1
 else some 0)) := by kernel_rfl
theorem S68_run (n : Nat × Nat) (xs : pksDen pk68) : S68 n xs.1 xs.2.1 = runG (E68 n) noScope c68 an68 (rtG rk68) (fun _ _ => none) (rtG rk68) (st0 pk68 xs Try.f68.ntmps) := by kernel_rfl
noncomputable def P68 (n : Nat × Nat) := phiOf pk68 rk68 (fun xs => S68 n xs.1 xs.2.1)
theorem call68 : CallOK Try.prog 68 := callOK_of Try.func68 (by kernel_rfl) (by kernel_rfl)
theorem env68 (n : Nat × Nat) : EnvOK Try.prog (E68 n) := envOK0 (consPhi_ok (FC75 n) call75 (consPhi_ok (FC76 n) call76 noPhi_ok)) rfl rfl
theorem par68 (n : Nat × Nat) : EnvPar (E68 n) := envPar0 (consPhi_par phiOf_Par1 (consPhi_par phiOf_Par1 noPhi_par)) rfl
theorem FC68 (n : Nat × Nat) : FCs Try.prog 68 (P68 n) := phiOf_FCs fun xs r h vs hv => FC.of_runG tabOK eqsOK (env68 n) (par68 n) mixed (fun _ p _ => noScope_ok p.1 p.2) Try.func68 (c := c68) (an := an68) (pks := pk68) (rks := rk68) (by kernel_rfl) (by kernel_rfl) hv ((S68_run n xs).symm.trans h)
/- math/bits.Mul32 -/
abbrev R79 := Int × Int
noncomputable def c79 : Code := bodyOf Try.f79
noncomputable def an79 : Ann := .l
def pk79 : List PK := [.c (.int .u32), .c (.int .u32)]
def rk79 : List RK := [.c (.int .u32) 4, .c (.int .u32) 5]
noncomputable def rt79 (st : St) : Option R79 := rtG rk79 st
noncomputable def E79 (n : Nat × Nat) : Env := { T := tab, phi := noPhi, eff := fun _ => false, fuel := n.1, hold := n.2 }
noncomputable def S79 (n : Nat × Nat) (x0 : Int) (y1 : Int) : Option R79 := run (E79 n) c79 an79 rt79 (fun _ _ => none) rt79 { tm := [.c (.int .u32 x0), .c (.int .u32 y1), uu, uu, uu, uu, uu, uu, uu, uu, uu, uu, uu, uu, uu, uu, uu], hp := emp }
theorem S79_eq (n : Nat × Nat) (x0 : Int) (y1 : Int) : S79 n x0 y1 =
 (bif decide (32 < 0) then none
 else some (wr .u32 (Int.fdiv (wr .u64 ((wr .u64 x0) * (wr .u64 y1))) (2 ^ (min (Int.toNat 32) (IntKind.bits .u64)))), wr .u32 (wr .u64 ((wr .u64 x0) * (wr .u64 y1))))) := by kernel_rfl
theorem S79_run (n : Nat × Nat) (xs : pksDen pk79) : S79 n xs.1 xs.2.1 = runG (E79 n) noScope c79 an79 (rtG rk79) (fun _ _ => none) (rtG rk79) (st0 pk79 xs Try.f79.ntmps) := by kernel_rfl
noncomputable def P79 (n : Nat × Nat) := phiOf pk79 rk79 (fun xs => S79 n xs.1 xs.2.1)
theorem call79 : CallOK Try.prog 79 := callOK_of Try.func79 (by kernel_rfl) (by kernel_rfl)
theorem env79 (n : Nat × Nat) : EnvOK Try.prog (E79 n) := envOK0 noPhi_ok rfl rfl
theorem par79 (n : Nat × Nat) : EnvPar (E79 n) := envPar0 noPhi_par rfl
theorem FC79 (n : Nat × Nat) : FCs Try.prog 79 (P79 n) := phiOf_FCs fun xs r h vs hv => FC.of_runG tabOK eqsOK (env79 n) (par79 n) mixed (fun _ p _ => noScope_ok p.1 p.2) Try.func79 (c := c79) (an := an79) (pks := pk79) (rks := rk79) (by kernel_rfl) (by kernel_rfl) hv ((S79_run n xs).symm.trans h)
/- math/bits.Mul64 -/
abbrev R80 := Int × Int
noncomputable def c80 : Code := bodyOf Try.f80
noncomputable def an80 : Ann := .l
def pk80 : List PK := [.c (.int .u64), .c (.int .u64)]
def rk80 : List RK := [.c (.int .u64) 4, .c (.int .u64) 5]
noncomputable def rt80 (st : St) : Option R80 := rtG rk80 st
noncomputable def E80 (n : Nat × Nat) : Env := { T := tab, phi := noPhi, eff := fun _ => false, fuel := n.1, hold := n.2 }
noncomputable def S80 (n : Nat × Nat) (x0 : Int) (y1 : Int) : Option R80 := run (E80 n) c80 an80 rt80 (fun _ _ => none) rt80 { tm := [.c (.int .u64 x0), .c (.int .u64 y1), uu, uu, uu, uu, uu, uu, uu, uu, uu, uu, uu, uu, uu, uu, uu, uu, uu, uu, uu, uu, uu, uu, uu, uu, uu, uu, uu, uu, uu, uu, uu, uu, uu, uu, uu, uu, uu, uu, uu, uu, uu, uu, uu, uu, uu, uu, uu, uu, uu], hp := emp }
theorem S80_eq (n : Nat × Nat) (x0 : Int) (y1 : Int) : S80 n x0 y1 =
 (bif decide (32 < 0) then none
 else (bif decide (32 < 0) then none
 else (bif decide (32 < 0) then none
 else (bif decide (32 < 0) then none
 else (bif decide (32 < 0) then none
 else some (wr .u64 ((wr .u64 ((wr .u64 ((Int.fdiv x0 (2 ^ (min (Int.toNat 32) (IntKind.bits .u64)))) * (Int.fdiv y1 (2 ^ (min (Int.toNat 32) (IntKind.bits .u64)))))) + (Int.fdiv (wr .u64 ((wr .u64 ((Int.fdiv x0 (2 ^ (min (Int.toNat 32) (IntKind.bits .u64)))) * (wr .u64 (BitVec.ofInt (IntKind.bits .u64) y1 &&& BitVec.ofInt (IntKind.bits .u64) 4294967295).toNat))) + (Int.fdiv (wr .u64 ((wr .u64 (BitVec.ofInt (IntKind.bits .u64) x0 &&& BitVec.ofInt (IntKind.bits .u64) 4294967295).toNat) * (wr .u64 (BitVec.ofInt (IntKind.bits .u64) y1 &&& BitVec.ofInt (IntKind.bits .u64) 4294967295).toNat))) (2 ^ (min (Int.toNat 32) (IntKind.bits .u64)))))) (2 ^ (min (Int.toNat 32) (IntKind.bits .u64)))))) + (Int.fdiv (wr .u64 ((wr .u64 (BitVec.ofInt (IntKind.bits .u64) (wr .u64 ((wr .u64 ((Int.fdiv x0 (2 ^ (min (Int.toNat 32) (IntKind.bits .u64)))) * (wr .u64 (BitVec.ofInt (IntKind.bits .u64) y1 &&& BitVec.ofInt (IntKind.bits .u64) 4294967295).toNat))) + (Int.fdiv (wr .u64 ((wr .u64 (BitVec.ofInt (IntKind.bits .u64) x0 &&& BitVec.ofInt (IntKind.bits .u64) 4294967295).toNat) * (wr .u64 (BitVec.ofInt (IntKind.bits .u64) y1 &&& BitVec.ofInt (IntKind.bits .u64) 4294967295).toNat))) (2 ^ (min (Int.toNat 32) (IntKind.bits .u64)))))) &&& BitVec.ofInt (IntKind.bits .u64) 4294967295).toNat) + (wr .u64 ((wr .u64 (BitVec.ofInt (IntKind.bits .u64) x0 &&& BitVec.ofInt (IntKind.bits .u64) 4294967295).toNat) * (Int.fdiv y1 (2 ^ (min (Int.toNat 32) (IntKind.bits .u64)))))))) (2 ^ (min (Int.toNat 32) (IntKind.bits .u64))))), wr .u64 (x0 * y1))))))) := by kernel_rfl
theorem S80_run (n : Nat × Nat) (xs : pksDen pk80) : S80 n xs.1 xs.2.1 = runG (E80 n) noScope c80 an80 (rtG rk80) (fun _ _ => none) (rtG rk80) (st0 pk80 xs Try.f80.ntmps) := by kernel_rfl
noncomputable def P80 (n : Nat × Nat) := phiOf pk80 rk80 (fun xs => S80 n xs.1 xs.2.1)
theorem call80 : CallOK Try.prog 80 := callOK_of Try.func80 (by kernel_rfl) (by kernel_rfl)
theorem env80 (n : Nat × Nat) : EnvOK Try.prog (E80 n) := envOK0 noPhi_ok rfl rfl
theorem par80 (n : Nat × Nat) : EnvPar (E80 n) := envPar0 noPhi_par rfl
theorem FC80 (n : Nat × Nat) : FCs Try.prog 80 (P80 n) := phiOf_FCs fun xs r h vs hv => FC.of_runG tabOK eqsOK (env80 n) (par80 n) mixed (fun _ p _ => noScope_ok p.1 p.2) Try.func80 (c := c80) (an := an80) (pks := pk80) (rks := rk80) (by kernel_rfl) (by kernel_rfl) hv ((S80_run n xs).symm.trans h)
/- math/bits.Mul -/
abbrev R74 := Int × Int
noncomputable def c74 : Code := bodyOf Try.f74
noncomputable def an74 : Ann := (.s .l (.s (.j [0, 1] .l .l) .l))
def pk74 : List PK := [.c (.int .u64), .c (.int .u64)]
def rk74 : List RK := [.c (.int .u64) 4, .c (.int .u64) 5]
noncomputable def rt74 (st : St) : Option R74 := rtG rk74 st
noncomputable def E74 (n : Nat × Nat) : Env := { T := tab, phi := (consPhi 79 (fun _ => true) (P79 n) (consPhi 80 (fun _ => true) (P80 n) noPhi)), eff := fun _ => false, fuel := n.1, hold := n.2 }
noncomputable def S74 (n : Nat × Nat) (x0 : Int) (y1 : Int) : Option R74 := run (E74 n) c74 an74 rt74 (fun _ _ => none) rt74 { tm := [.c (.int .u64 x0), .c (.int .u64 y1), uu, uu, uu, uu, uu, uu, uu, uu, uu, uu, uu, uu, uu, uu, uu, uu, uu, uu, uu, uu, uu, uu, uu, uu, uu, uu, uu, uu], hp := emp }
theorem S74_eq (n : Nat × Nat) (x0 : Int) (y1 : Int) : S74 n x0 y1 =
 (bif false then (S79 n (wr .u32 x0) (wr .u32 y1)).bind fun r1' =>
 some (wr .u64 r1'.1, wr .u64 r1'.2)
 else (S80 n x0 y1).bind fun r2' =>
 some (r2'.1, r2'.2)) := by kernel_rfl
theorem S74_run (n : Nat × Nat) (xs : pksDen pk74) : S74 n xs.1 xs.2.1 = runG (E74 n) noScope c74 an74 (rtG rk74) (fun _ _ => none) (rtG rk74) (st0 pk74 xs Try.f74.ntmps) := by kernel_rfl
noncomputable def P74 (n : Nat × Nat) := phiOf pk74 rk74 (fun xs => S74 n xs.1 xs.2.1)
theorem call74 : CallOK Try.prog 74 := callOK_of Try.func74 (by kernel_rfl) (by kernel_rfl)
theorem env74 (n : Nat × Nat) : EnvOK Try.prog (E74 n) := envOK0 (consPhi_ok (FC79 n) call79 (consPhi_ok (FC80 n) call80 noPhi_ok)) rfl rfl
theorem par74 (n : Nat × Nat) : EnvPar (E74 n) := envPar0 (consPhi_par phiOf_Par1 (consPhi_par phiOf_Par1 noPhi_par)) rfl
theorem FC74 (n : Nat × Nat) : FCs Try.prog 74 (P74 n) := phiOf_FCs fun xs r h vs hv => FC.of_runG tabOK eqsOK (env74 n) (par74 n) mixed (fun _ p _ => noScope_ok p.1 p.2) Try.func74 (c := c74) (an := an74) (pks := pk74) (rks := rk74) (by kernel_rfl) (by kernel_rfl) hv ((S74_run n xs).symm.trans h)
/- slices.Repeat[[]int,int] -/
abbrev R52 := List Int
noncomputable def c52 : Code := bodyOf Try.f52
noncomputable def an52 : Ann := (.s .l (.s (.s .l (.j [0, 1, 24, 25] .l .l)) (.s .l (.s (.s .l (.j [0, 6] .l .l)) (.s .l (.s .l (.s (.j [7] (.j [7, 8] (.s (.s .l (.j [7, 8] .l .l)) (.j [7, 8] .l .l)) .l) .l) .l)))))))
def pk52 : List PK := [.c (.sl (.int .i64)), .c (.int .i64)]
def rk52 : List RK := [.own (.int .i64) 4]
noncomputable def rt52 (st : St) : Option R52 := rtG rk52 st
noncomputable def E52 (n : Nat × Nat) : Env := { T := tab, phi := (consPhi 74 (fun _ => true) (P74 n) noPhi), eff := fun _ => false, fuel := n.1, hold := n.2 }
noncomputable def kq52_5 (n : Nat × Nat) : St → Option R52 := run (E52 n) (cB (cB (cB (cB (cB (cB (cB c52))))))) (Ann.snd (Ann.snd (Ann.snd (Ann.snd (Ann.snd (Ann.snd (Ann.snd an52))))))) rt52 (fun _ _ => none) rt52
noncomputable def xb52_7 (n : Nat × Nat) : Nat → St → Option R52 := fun j s => bif Nat.beq j 0 then normC [7] s (kq52_5 n) else (fun _ _ => none) j s
noncomputable def F52_8 (n : Nat × Nat) : (St → Option R52) → St → Option R52 := fun K s => run (E52 n) (cA (cA (cA (cB (cB (cB (cB (cB (cB c52))))))))) (Ann.fst (Ann.fst (Ann.fst (Ann.snd (Ann.snd (Ann.snd (Ann.snd (Ann.snd (Ann.snd an52))))))))) (fun s => normC [7, 8] s K) (xb52_7 n) rt52 s
noncomputable def L52_1 (n : Nat × Nat) (m : Nat) (v8 : Int) (newslice7 : List Int) : Option R52 := loopN (F52_8 n) m { tm := [uu, uu, uu, uu, uu, uu, uu, .own 7 none false, .c (.int .i64 v8), uu, uu, uu, uu, uu, uu, uu, uu, uu, uu, uu, uu, uu, uu, uu, uu, uu, uu, uu, uu, uu, uu, uu, uu, uu, uu, uu, uu, uu, uu, uu, uu, uu, uu, uu, uu, uu, uu, uu], hp := (upd emp 7 (.arr (.int .i64) newslice7 false)) }
theorem L52_1_eq (n : Nat × Nat) (m1 : Nat) (v8 : Int) (newslice7 : List Int) : L52_1 n (m1 + 1) v8 newslice7 =
 (bif decide (v8 < (newslice7.length : Int)) then (bif bounds (some v8) none none newslice7.length then (bif bounds none (some v8) none newslice7.length then L52_1 n m1 (wr .i64 (v8 + ((min ((newslice7.drop (0 + 0)).take ((Int.toNat v8) - 0)).length ((newslice7.drop (0 + (Int.toNat v8))).take (newslice7.length - (Int.toNat v8))).length : Nat) : Int))) (newslice7.take (0 + (Int.toNat v8)) ++ ((newslice7.drop (0 + 0)).take ((Int.toNat v8) - 0)).take (min ((newslice7.drop (0 + 0)).take ((Int.toNat v8) - 0)).length ((newslice7.drop (0 + (Int.toNat v8))).take (newslice7.length - (Int.toNat v8))).length) ++ newslice7.drop ((0 + (Int.toNat v8)) + min ((newslice7.drop (0 + 0)).take ((Int.toNat v8) - 0)).length ((newslice7.drop (0 + (Int.toNat v8))).take (newslice7.length - (Int.toNat v8))).length))
 else none)
 else none)
 else some newslice7) := by kernel_rfl
noncomputable def S52 (n : Nat × Nat) (x0 : List Int) (count1 : Int) : Option R52 := run (E52 n) c52 an52 rt52 (fun _ _ => none) rt52 { tm := [.c (.sl (.int .i64) x0 false), .c (.int .i64 count1), uu, uu, uu, uu, uu, uu, uu, uu, uu, uu, uu, uu, uu, uu, uu, uu, uu, uu, uu, uu, uu, uu, uu, uu, uu, uu, uu, uu, uu, uu, uu, uu, uu, uu, uu, uu, uu, uu, uu, uu, uu, uu, uu, uu, uu, uu], hp := emp }
theorem S52_eq (n : Nat × Nat) (x0 : List Int) (count1 : Int) : S52 n x0 count1 =
 (bif decide (count1 < 0) then none
 else (S74 n (wr .u64 (x0.length : Int)) (wr .u64 count1)).bind fun r1' =>
 ((bif (decide (r1'.1 > 0) == false) then some (decide (r1'.2 > 9223372036854775807))
 else some true)).bind fun b2' =>
 (bif b2' then none
 else (bif decide (0 ≤ wr .i64 r1'.2) && decide (wr .i64 r1'.2 ≤ wr .i64 r1'.2) && decide (wr .i64 r1'.2 ≤ lim) then L52_1 n n.1 ((min x0.length (List.replicate (Int.toNat (wr .i64 r1'.2)) (0 : Int)).length : Nat) : Int) ((List.replicate (Int.toNat (wr .i64 r1'.2)) (0 : Int)).take 0 ++ x0.take (min x0.length (List.replicate (Int.toNat (wr .i64 r1'.2)) (0 : Int)).length) ++ (List.replicate (Int.toNat (wr .i64 r1'.2)) (0 : Int)).drop (0 + min x0.length (List.replicate (Int.toNat (wr .i64 r1'.2)) (0 : Int)).length))
 else none))) := by kernel_rfl
theorem S52_run (n : Nat × Nat) (xs : pksDen pk52) : S52 n xs.1 xs.2.1 = runG (E52 n) noScope c52 an52 (rtG rk52) (fun _ _ => none) (rtG rk52) (st0 pk52 xs Try.f52.ntmps) := by kernel_rfl
noncomputable def P52 (n : Nat × Nat) := phiOf pk52 rk52 (fun xs => S52 n xs.1 xs.2.1)
theorem env52 (n : Nat × Nat) : EnvOK Try.prog (E52 n) := envOK0 (consPhi_ok (FC74 n) call74 noPhi_ok) rfl rfl
theorem par52 (n : Nat × Nat) : EnvPar (E52 n) := envPar0 (consPhi_par phiOf_Par1 noPhi_par) rfl
theorem FC52 (n : Nat × Nat) : FCs Try.prog 52 (P52 n) := phiOf_FCs fun xs r h vs hv => FC.of_runG tabOK eqsOK (env52 n) (par52 n) mixed (fun _ p _ => noScope_ok p.1 p.2) Try.func52 (c := c52) (an := an52) (pks := pk52) (rks := rk52) (by kernel_rfl) (by kernel_rfl) hv ((S52_run n xs).symm.trans h)
/- slices.Clone[[]int,int] -/
abbrev R46 := List Int
noncomputable def c46 : Code := bodyOf Try.f46
noncomputable def an46 : Ann := (.s .l (.s (.s .l (.j [0] .l .l)) .l))
def pk46 : List PK := [.c (.sl (.int .i64))]
def rk46 : List RK := [.own (.int .i64) 2]
noncomputable def rt46 (st : St) : Option R46 := rtG rk46 st
noncomputable def E46 (n : Nat × Nat) : Env := { T := tab, phi := noPhi, eff := fun _ => false, fuel := n.1, hold := n.2 }
noncomputable def S46 (n : Nat × Nat) (s0 : List Int) : Option R46 := run (E46 n) c46 an46 rt46 (fun _ _ => none) rt46 { tm := [.c (.sl (.int .i64) s0 false), uu, uu, uu, uu, uu, uu, uu], hp := emp }
theorem S46_eq (n : Nat × Nat) (s0 : List Int) : S46 n s0 =
 (bif !s0.isEmpty then (bif false then some []
 else (bif decide (([] : List Int).length + s0.length ≤ lim) then some ([] ++ s0)
 else none))
 else none) := by kernel_rfl
theorem S46_run (n : Nat × Nat) (xs : pksDen pk46) : S46 n xs.1 = runG (E46 n) noScope c46 an46 (rtG rk46) (fun _ _ => none) (rtG rk46) (st0 pk46 xs Try.f46.ntmps) := by kernel_rfl
noncomputable def P46 (n : Nat × Nat) := phiOf pk46 rk46 (fun xs => S46 n xs.1)
theorem call46 : CallOK Try.prog 46 := callOK_of Try.func46 (by kernel_rfl) (by kernel_rfl)
theorem env46 (n : Nat × Nat) : EnvOK Try.prog (E46 n) := envOK0 noPhi_ok rfl rfl
theorem par46 (n : Nat × Nat) : EnvPar (E46 n) := envPar0 noPhi_par rfl
theorem FC46 (n : Nat × Nat) : FCs Try.prog 46 (P46 n) := phiOf_FCs fun xs r h vs hv => FC.of_runG tabOK eqsOK (env46 n) (par46 n) mixed (fun _ p _ => noScope_ok p.1 p.2) Try.func46 (c := c46) (an := an46) (pks := pk46) (rks := rk46) (by kernel_rfl) (by kernel_rfl) hv ((S46_run n xs).symm.trans h)
end Go.Proofs.Ytjgmfdgpgdaclaa
/-
  What calls give, and rows of numbers that a call has made.
-/
set_option linter.unusedVariables false
set_option linter.unusedSimpArgs false
set_option maxRecDepth 100000
namespace Go.Proofs.Ytjgmfdgpgdaclaa
open Go.RowKit Go.Shelf
open Go.Vi
theorem fcs_FC {pks : List PK} {rks : List RK} {S : pksDen pks → Option (rksDen rks)} {g : FuncId} (h : FCs Try.prog g (phiOf pks rks S)) {xs : pksDen pks} {r : rksDen rks} {vs : List V} (hv : pksArg pks vs = some xs) (hs : S xs = some r) :
    FC Try.prog g vs (rets rks r) := by
  obtain ⟨ret, h1, h2⟩ := h vs _ some (rets rks r) (by unfold phiOf; rw [hv]; simp only [Option.bind_some, hs])
  cases h1
  exact h2
/-- A call that gives one number. -/
theorem fc_int {g : FuncId} {vs : List V} {t : Nat} {e : Int} (h : FC Try.prog g vs (rets [.c (.int .i64) t] e)) {w : World} {A : Nat → Prop} {args : List Value} (hA : ∀ b, A b → b < w.heap.size) (hv : All2 (VR noGam w A emp) vs args) :
    Calls Try.prog g args.toArray w fun x w2 => x = .returned (.int .i64 e) ∧ Below w.heap.size w w2 := by
  refine (h w A args hA hv (fun _ _ h => by cases h)).mono ?_
  intro x w2 hx
  cases x with
  | returned u =>
    obtain ⟨hG, is, us, rfl, hR⟩ := hx
    match is, us, hR with
    | [i], [u], ⟨hu, _, _⟩ =>
      have hu : u = .int .i64 e := hu
      subst hu
      exact ⟨rfl, ⟨hG.os, hG.tape, hG.output, hG.size, hG.blk⟩⟩
    | [], [], hR => exact hR.elim
    | [], _ :: _, hR => exact hR.elim
    | [_], [], hR => exact hR.elim
    | [_], _ :: _ :: _, hR => exact hR.2.2.elim
    | _ :: _ :: _, [], hR => exact hR.elim
    | _ :: _ :: _, [_], hR => exact hR.2.2.elim
    | _ :: _ :: _, _ :: _ :: _, hR => exact hR.2.2.elim
  | _ => exact hx.elim
theorem below_drew {W W' : World} (h : Below W.drew.heap.size W.drew W') : Below W.heap.size W W' := ⟨h.os, h.tape, h.output, h.size, h.block⟩
theorem Blk.below {W W' : World} {B b : Nat} {cur : Array Value} {t : TypeId} (h : Blk W b cur t) (hB : Below B W W') (hlt : b < B) : Blk W' b cur t := (hB.block b hlt).trans h
/-- A slice of numbers in a block of the call's own: its first cells. -/
def Row (W : World) (b cap : Nat) (len : Nat) (f : Nat → Int) : Prop := ∃ cur ty, Blk W b cur ty ∧ len ≤ cap ∧ cap ≤ cur.size ∧ ∀ i, i < len → cur[i]? = some (.int .i64 (f i))
theorem Row.kept {W W' : World} {b cap len : Nat} {f : Nat → Int} {row : Option Nat} (h : Row W b cap len f) (hg : W.grownBy W' row) (hne : some b ≠ row) : Row W' b cap len f := by
  obtain ⟨cur, ty, h1, h2⟩ := h
  exact ⟨cur, ty, h1.kept hg hne, h2⟩
theorem Row.cell {W : World} {b cap len : Nat} {f : Nat → Int} (h : Row W b cap len f) {i : Nat} (hi : i < len) : W.cell? ⟨b, i, none⟩ = some (.int .i64 (f i)) := by
  obtain ⟨cur, ty, h1, h2, h3, h4⟩ := h
  exact h1.cell i (h4 i hi)
theorem Row.frozen {W : World} {b cap len : Nat} {f : Nat → Int} (h : Row W b cap len f) (i : Nat) : W.frozen? ⟨b, i, none⟩ = false := by
  obtain ⟨cur, ty, h1, _⟩ := h
  exact h1.frozen i
theorem Row.set {W : World} {b cap len : Nat} {f : Nat → Int} (h : Row W b cap len f) (i : Nat) (v : Int) : Row (W.setCell ⟨b, i, none⟩ (.int .i64 v)) b cap len (fun j => if j = i then v else f j) := by
  obtain ⟨cur, ty, h1, h2, h3, h4⟩ := h
  refine ⟨_, ty, h1.set i _, h2, by simpa using h3, fun j hj => ?_⟩
  have := h4 j hj
  by_cases e : j = i
  · subst e
    have hlt := (Array.getElem?_eq_some_iff.1 this).1
    simp [Array.getElem?_setIfInBounds_self_of_lt hlt]
  · rw [Array.getElem?_setIfInBounds_ne (fun h => e h.symm)]
    simpa [e] using this
theorem Row.other {W : World} {b cap len : Nat} {f : Nat → Int} (h : Row W b cap len f) {b' : Nat} (j : Nat) (v : Value) (hne : b ≠ b') : Row (W.setCell ⟨b', j, none⟩ v) b cap len f := by
  obtain ⟨cur, ty, h1, h2⟩ := h
  exact ⟨cur, ty, h1.other j v hne, h2⟩
theorem Row.lt {W : World} {b cap len : Nat} {f : Nat → Int} (h : Row W b cap len f) : b < W.heap.size := by
  obtain ⟨cur, ty, h1, _⟩ := h
  exact h1.lt
theorem Row.congr {W : World} {b cap len : Nat} {f g : Nat → Int} (h : Row W b cap len f) (e : ∀ i, i < len → f i = g i) : Row W b cap len g := by
  obtain ⟨cur, ty, h1, h2, h3, h4⟩ := h
  exact ⟨cur, ty, h1, h2, h3, fun i hi => by rw [← e i hi]; exact h4 i hi⟩
theorem Row.below {W W' : World} {B b cap len : Nat} {f : Nat → Int} (h : Row W b cap len f) (hB : Below B W W') (hlt : b < B) : Row W' b cap len f := by
  obtain ⟨cur, ty, h1, h2⟩ := h
  exact ⟨cur, ty, h1.below hB hlt, h2⟩
theorem Row.one (W : World) (x : Int) (ty : TypeId) : Row (W.alloc (.cells #[.int .i64 x] ty)) W.heap.size 1 1 (fun _ => x) := by
  refine ⟨_, ty, Blk.new W _ _, Nat.le_refl _, Nat.le_refl _, fun i hi => ?_⟩
  match i, hi with
  | 0, _ => rfl
theorem Row.drew {W : World} {b cap len : Nat} {f : Nat → Int} (h : Row W b cap len f) : Row W.drew b cap len f := h
theorem CR_row {W : World} {b cap : Nat} {l : List Int} (h : Row W b cap l.length (fun i => l[i]?.getD 0)) : CR W (fun x => x = b) (.sl (.int .i64) l false) (.slice (some ⟨b, 0, none⟩) l.length cap) := by
  obtain ⟨cur, ty, h1, h2, h3, h4⟩ := h
  refine ⟨_, cap, rfl, h2, fun h => (by cases h), .inr ⟨b, 0, cur, ty, (0, 0), rfl, rfl, h1, ?_, fun i x hx => ?_⟩⟩
  · show 0 + l.length * 1 ≤ _
    omega
  · show (cur.toList.drop (0 + i * 1)).take 1 = [.int .i64 x]
    have hi := (List.getElem?_eq_some_iff.1 hx).1
    have h5 : cur[i]? = some (.int .i64 (l[i]?.getD 0)) := h4 i hi
    rw [hx] at h5
    have hlt := (Array.getElem?_eq_some_iff.1 h5).1
    rw [Nat.mul_one, Nat.zero_add, List.drop_eq_getElem_cons (by simpa using hlt)]
    simp [(Array.getElem?_eq_some_iff.1 h5).2]
/-- A call that gives a list of its own. -/
theorem fc_own {g : FuncId} {vs : List V} {t : Nat} {l : List Int} (h : FC Try.prog g vs (rets [.own (.int .i64) t] l)) (hl : 0 < l.length) {w : World} {A : Nat → Prop} {args : List Value} (hA : ∀ b, A b → b < w.heap.size) (hv : All2 (VR noGam w A emp) vs args) :
    Calls Try.prog g args.toArray w fun x w2 => ∃ b cap, x = .returned (.slice (some ⟨b, 0, none⟩) l.length cap) ∧ w.heap.size ≤ b ∧ Row w2 b cap l.length (fun i => l[i]?.getD 0) ∧ Below w.heap.size w w2 := by
  refine (h w A args hA hv (fun _ _ h => by cases h)).mono ?_
  intro x w2 hx
  cases x with
  | returned u =>
    obtain ⟨hG, is, us, rfl, hR⟩ := hx
    match is, us, hR with
    | [.emp], [u], ⟨⟨ho, _, _⟩, _, _⟩ =>
      have ho : l = [] := ho
      rw [ho] at hl
      exact absurd hl (by simp)
    | [.at b c], [u], ⟨⟨ho, hs, hb⟩, _, _⟩ =>
      obtain ⟨_, ho1, cur, et, ho2, ho3, ho4⟩ := ho
      obtain ⟨rfl, _, _⟩ := hs
      refine ⟨b, c, rfl, (hb b c rfl).1, ⟨cur, et, ho2, ho1, by have : c * 1 ≤ cur.size := ho3; omega, fun i hi => ?_⟩, ⟨hG.os, hG.tape, hG.output, hG.size, hG.blk⟩⟩
      have h4 := ho4 i l[i] (by simp)
      have h5 : (cur.toList.drop (i * 1)).take 1 = [.int .i64 l[i]] := h4
      rw [Nat.mul_one] at h5
      have h6 := congrArg (fun l => l[0]?) h5
      have h7 : cur.toList[i]? = some (.int .i64 l[i]) := by simpa [List.getElem?_take, List.getElem?_drop] using h6
      rw [← Array.getElem?_toList, h7]
      simp [List.getElem?_eq_getElem hi]
    | [], [], hR => exact hR.elim
    | [], _ :: _, hR => exact hR.elim
    | [_], [], hR => exact hR.elim
    | [_], _ :: _ :: _, hR => exact hR.2.2.elim
    | _ :: _ :: _, [], hR => exact hR.elim
    | _ :: _ :: _, [_], hR => exact hR.2.2.elim
    | _ :: _ :: _, _ :: _ :: _, hR => exact hR.2.2.elim
  | _ => exact hx.elim
end Go.Proofs.Ytjgmfdgpgdaclaa
set_option linter.unusedVariables false
set_option linter.unusedSimpArgs false
set_option maxRecDepth 100000
namespace Go.Proofs.Ytjgmfdgpgdaclaa
open Go.RowKit Go.Shelf
section
attribute [local go_sem] Oper.semAt_some
set_option maxHeartbeats 2000000 in
/-- The closure of slices.Backward: J k holds when the elements from k on have come. -/
theorem backN_in (F : Fence) (n : Nat) (hC : F.fn 78) (hro : F.round = none) (hn : 1 ≤ n) (l Bs n₀ b off cap : Nat) (zs : List Int) (hreach : zs.length * 8 ≤ 140737488351232) (hb : b < n₀) (J : Nat → World → Prop)
    (hY : ∀ k (hk : k < zs.length) W, J (k + 1) W → YieldAt F (n - 1) Try.prog l #[.int .i64 (k : Int), .int .i64 zs[k]] W fun e W' => e = .returned (.bool true) ∧ J k W' ∧ KpB n₀ Bs W W')
    (W : World) (hBs : W.cell? ⟨Bs, 0, none⟩ = some (.slice (some ⟨b, off, none⟩) zs.length cap)) (hc : ∀ j (h : j < zs.length), W.cell? ⟨b, off + j, none⟩ = some (.int .i64 zs[j])) (h0 : J zs.length W) :
    CallsIn F n Try.prog 78 #[.func (.yield l) #[] #[], .pointer (some ⟨Bs, 0, none⟩)] W fun e W' => (∃ v, e = .returned v) ∧ J 0 W' := by
  refine callsIn_of_wp Try.func78 rfl hC ?_ hro
  simp only [Try.ntmps78, List.size_toArray, List.length_cons, List.length_nil, Nat.reduceAdd, Nat.reduceSub, Array.replicate_succ, Array.replicate_zero, List.push_toArray, List.append_toArray, List.nil_append, List.cons_append]
  gi_wp2
  gi_loopw [3] (fun i wr => (∃ k : Nat, k < zs.length ∧ i = .int .i64 k ∧ J (k + 1) wr ∧ KpB n₀ Bs W wr) ∨ (i = .int .i64 (-1) ∧ J 0 wr ∧ KpB n₀ Bs W wr))
    (fun i _ => (intOf i + 1).toNat)
  case atStart =>
    rcases Nat.eq_zero_or_pos zs.length with h | h
    · exact .inr ⟨by simp [h], by rw [h] at h0; exact h0, KpB.refl _ _ _⟩
    · exact .inl ⟨zs.length - 1, by omega, by congr 1; omega, by rw [show zs.length - 1 + 1 = zs.length by omega]; exact h0, KpB.refl _ _ _⟩
  case round =>
    rcases hrel with ⟨k, hk, rfl, hJs, hnx⟩ | ⟨rfl, hJs, hnx⟩
    · have hcx := (hnx.1.cell (p := ⟨b, off + k, none⟩) hb).trans (hc k hk)
      have hBs' : wr.cell? ⟨Bs, 0, none⟩ = some (.slice (some ⟨b, off, none⟩) zs.length cap) := by rw [← hBs]; simp only [World.cell?, hnx.2]
      obtain ⟨fn, tmps, assign, body, hy, hR⟩ := hY k hk wr hJs
      gi_wp2
      refine hR.mono ?_
      rintro e W3 ⟨rfl, hJ3, hk3⟩
      gi_wp2
      go_roundw
      case rel =>
        cases k with
        | zero => exact .inr ⟨by simp, hJ3, hnx.trans hk3⟩
        | succ k => exact .inl ⟨k, by omega, by congr 1; omega, hJ3, hnx.trans hk3⟩
      case measure => simp [intOf]
    · gi_wp2
      go_end0
      exact ⟨⟨_, rfl⟩, hJs⟩
end
/-- How a body that is never left must end. -/
def nrmW (R : World → Prop) : Exit → Act → World → Prop
  | .normal, _, w => R w
  | _, _, _ => False
/-- A loop over slices.Backward, its rounds in their order. -/
theorem rangeBack {F : Fence} {n : Nat} (hro : F.round = none) (hn : 2 ≤ n) (h78 : F.fn 78) {g : Operand} {ps : Array Tmp} {assign body : Code} {Q : Exit → Act → World → Prop} {a : Act} {w : World}
    {Bs n₀ b off cap : Nat} {zs : List Int} (hreach : zs.length * 8 ≤ 140737488351232) (hg : a.eval g = .func (.func 78) #[] #[.pointer (some ⟨Bs, 0, none⟩)]) (hps : ps.size = 2) (hb : b < n₀) (hn₀ : n₀ ≤ w.heap.size) (hBl : Bs < w.heap.size)
    (hBs : w.cell? ⟨Bs, 0, none⟩ = some (.slice (some ⟨b, off, none⟩) zs.length cap)) (hc : ∀ j (h : j < zs.length), w.cell? ⟨b, off + j, none⟩ = some (.int .i64 zs[j]))
    (I : Nat → World → Prop) (hI : OwnFrom w.heap.size I) (h0 : I zs.length w) (a₁ : Fin zs.length → Act)
    (hassign : ∀ (l : Nat) (x : Fin zs.length) (W : World) (K : Act → World → Prop), K (a₁ x) W →
      assign.wpIn (F.inRound l) (n - 1 - 1) Try.prog (Exit.then K (fun _ _ _ => False)) { tmps := (ps.zip #[.int .i64 (x.val : Int), .int .i64 (zs[x.val]'x.isLt)]).foldl (fun t (p, v) => t.setIfInBounds p v) a.tmps, defers := [] } W)
    (hbody : ∀ (l k : Nat) (hk : k < zs.length) (W : World), I (k + 1) W → body.wpIn (F.inRound l) (n - 1 - 1) Try.prog (nrmW fun W' => KeepsFrom w.heap.size W W' ∧ KpB n₀ Bs W W' ∧ I k W') (a₁ ⟨k, hk⟩) W)
    (hdone : ∀ (D : Nat) (W : World), w.heap.size ≤ D → I 0 W → W.heap[D]? = some (.deferred (some [])) → Q .normal { a with defers := { target := .collected D, args := #[] } :: a.defers } W) :
    (Code.rangeFunc g ps assign body).wpIn F n Try.prog Q a w := by
  refine wpIn_rangeFunc fun fn hfn => ?_
  rw [hro]
  generalize hL : w.heap.size + 1 = L
  let r0 : Loop := { state := .ready, pending := none, fn, tmps := a.tmps, params := ps, assign, body, defers := w.heap.size }
  generalize hW1 : (w.alloc (.deferred (some []))).alloc (.loop r0) = W1
  have s1 : W1.heap.size = w.heap.size + 2 := by rw [← hW1]; simp
  have hl1 : W1.heap[L]? = some (.loop r0) := by
    have := World.alloc_heap_new (w.alloc (.deferred (some []))) (.loop r0)
    rw [World.size_alloc, hL, hW1] at this
    exact this
  have hd1 : W1.heap[w.heap.size]? = some (.deferred (some [])) := by
    rw [← hW1]
    exact (Below.heap_alloc _ _ _ (by simp)).trans (World.alloc_heap_new w _)
  have hB1 : Below w.heap.size w W1 := by rw [← hW1]; exact ((Below.refl _ w).alloc (Nat.le_refl _) _).alloc (by simp) _
  refine ⟨L, [{ target := .collected w.heap.size, args := #[] }], W1, { target := .fn (.func 78) #[.pointer (some ⟨Bs, 0, none⟩)], args := #[.func (.yield L) #[] #[]] }, W1, 78, #[.func (.yield L) #[] #[], .pointer (some ⟨Bs, 0, none⟩)], W1, ?_, ?_, ?_, ?_, fun _ => by omega, ?_⟩
  · rw [run_enterLoop_outer, hW1, hL]
  · simp only [resolve, hg]
    simp [go_sem]
  · intro f' hf'
    simp [Target.leads] at hf'
    subst hf'
    exact h78
  · simp [invoke, go_sem, enters_of Try.func78 (by kernel_rfl) rfl]
  · have hK : ∀ (X : World) (j : Nat) (o o' : Loop), w.heap.size ≤ j → X.heap[j]? = some (.loop o) → KpB n₀ Bs X (X.putObj j (.loop o')) := fun X j o o' hj ho => ⟨belowK_b (w := w) hn₀ X j _ _ hj ho rfl rfl, World.putObj_heap_other (by omega)⟩
    refine (backN_in F (n - 1) h78 hro (by omega) L Bs n₀ b off cap zs hreach hb (fun k W => I k W ∧ W.heap[L]? = some (.loop r0) ∧ W.heap[w.heap.size]? = some (.deferred (some []))) ?_ W1
      ((hB1.cell (p := ⟨Bs, 0, none⟩) hBl).trans hBs) (fun j hj => (hB1.cell (p := ⟨b, off + j, none⟩) (by show b < _; omega)).trans (hc j hj)) ⟨by rw [← hW1]; exact hI.alloc _ (hI.alloc _ h0), hl1, hd1⟩).mono ?_
    · rintro k hk W ⟨hi, hl, hd⟩
      have hlt := (Array.getElem?_eq_some_iff.1 hl).1
      refine ⟨_, _, _, _, run_yield (r := r0) hl (by rw [show r0.params = ps from rfl, hps]; rfl), roundIn_of_wpIn hfn (hassign L ⟨k, hk⟩ W _ ⟨_, run_beginRound hl rfl, ?_⟩)⟩
      have hi2 := hI.putObj (.loop { r0 with state := .busy }) hi (by omega) hl rfl
      have hl2 : (W.putObj L (.loop { r0 with state := .busy })).heap[L]? = some (.loop { r0 with state := .busy }) := World.putObj_heap_same hlt
      have hd2 : (W.putObj L (.loop { r0 with state := .busy })).heap[w.heap.size]? = some (.deferred (some [])) := (World.putObj_heap_other (by omega)).trans hd
      refine wpIn_mono (hbody L k hk _ hi2) ?_
      intro e a3 W3 hp
      cases e with
      | normal =>
        obtain ⟨k1, k2, k3⟩ := hp
        have hl3 := k1.same _ _ (by omega) hl2 rfl
        have hd3 := k1.same _ _ (Nat.le_refl _) hd2 rfl
        exact ⟨_, _, run_endRound none hl3, rfl, ⟨hI.putObj _ k3 (by omega) hl3 rfl, World.putObj_heap_same (Array.getElem?_eq_some_iff.1 hl3).1, (World.putObj_heap_other (by omega)).trans hd3⟩,
          ((hK W L _ _ (by omega) hl).trans k2).trans (hK W3 L _ _ (by omega) hl3)⟩
      | _ => exact hp.elim
    · rintro e W2 ⟨⟨v, rfl⟩, hi, hl, hd⟩
      exact ⟨none, _, run_endLoop hl (by simp [r0]), hdone _ _ (Nat.le_refl _) (hI.putObj _ hi (by omega) hl rfl) ((World.putObj_heap_other (by omega)).trans hd)⟩
end Go.Proofs.Ytjgmfdgpgdaclaa
set_option linter.unusedVariables false
set_option linter.unusedSimpArgs false
set_option maxRecDepth 100000
namespace Go.Proofs.Ytjgmfdgpgdaclaa
open Go.RowKit Go.Shelf Go.Vi
/-- A region with draws: what it leaves, named. -/
def nrm (R : Act → World → Prop) : Exit → Act → World → Prop
  | .normal, a, w => R a w
  | _, _, _ => False
theorem wpIn_nrm {F : Fence} {n : Nat} {P : Program} {c : Code} {K : Act → World → Prop} {Q : Exit → Act → World → Prop} {a : Act} {w : World} {R : Act → World → Prop}
    (h : c.wpIn F n P (nrm R) a w) (k : ∀ a' w', R a' w' → K a' w') : c.wpIn F n P (Exit.then K Q) a w :=
  wpIn_mono h fun e a' w' h => by
    cases e with
    | normal => exact k a' w' h
    | _ => exact h.elim
/-- The frame, these six slots turned. -/
def put6 (A : Act) (i : Nat) (u0 u1 u2 u3 u4 u5 : Value) : Act := { tmps := (((((A.tmps.setIfInBounds i u0).setIfInBounds (i + 1) u1).setIfInBounds (i + 2) u2).setIfInBounds (i + 3) u3).setIfInBounds (i + 4) u4).setIfInBounds (i + 5) u5, defers := A.defers }
def put5 (A : Act) (i : Nat) (u0 u1 u2 u3 u4 : Value) : Act := { tmps := ((((A.tmps.setIfInBounds i u0).setIfInBounds (i + 1) u1).setIfInBounds (i + 2) u2).setIfInBounds (i + 3) u3).setIfInBounds (i + 4) u4, defers := A.defers }
def rfBody : Code → Code | .rangeFunc _ _ _ b => b | c => c
noncomputable def c41 : Code := bodyOf Try.f41
noncomputable def r41_9 : Code := cA (cB (cB (cB (cB (cB c41)))))
noncomputable def r41_14 : Code := cA (cA (rfBody (cA (cB (cA (cB (cB (cB (cB (cB (cB (cB c41))))))))))))
/-- What both leave. -/
def Cloned (Wc : World) (tb i s : Nat) (W : World) : Prop :=
  ∃ b3 cap3 W2, Below Wc.heap.size Wc W2 ∧ Wc.heap.size ≤ b3 ∧ Row W2 b3 cap3 (s + 1) (fun _ => -1) ∧ W = W2.setCell ⟨tb, i, none⟩ (.slice (some ⟨b3, 0, none⟩) (s + 1) cap3)
section
attribute [local go_sem] Oper.semAt_some
set_option maxHeartbeats 8000000 in
theorem reg9 {F : Fence} {n : Nat} (h1 : 1 ≤ n) (h46 : F.fn 46) (hro : F.round = none) {Wc : World} {g b2 cap2 s L b off cap : Nat} {cur : Array Value} {v0 : Value}
    (hcl : ∀ W b1 cap1, Row W b1 cap1 (s + 1) (fun _ => -1) → CallsIn F (n - 1) Try.prog 46 #[.slice (some ⟨b1, 0, none⟩) (s + 1) cap1] W fun e w' => ∃ b2 cap2, e = .returned (.slice (some ⟨b2, 0, none⟩) (s + 1) cap2) ∧ W.heap.size ≤ b2 ∧ Row w' b2 cap2 (s + 1) (fun _ => -1) ∧ Below W.heap.size W w')
    (c10 : Blk Wc g #[.slice (some ⟨b2, 0, none⟩) (s + 1) cap2] 22) (c11 : Blk Wc (g + 2) #[.slice (some ⟨g + 1, 0, none⟩) (L + 1) (L + 1)] 75) (ctb : Blk Wc (g + 1) cur 22) (hcur : cur[L]? = some v0) (crow : Row Wc b2 cap2 (s + 1) (fun _ => -1))
    {R : Act → World → Prop} (A : Act) (hR : ∀ a' w', (∃ u0 u1 u2 u3 u4 u5, a' = put6 A 42 u0 u1 u2 u3 u4 u5) ∧ Cloned Wc (g + 1) L s w' → R a' w') (hs : 47 < A.tmps.size) (A0 : A.tmps[0]? = some (.slice (some ⟨b, off, none⟩) L cap)) (A10 : A.tmps[10]? = some (.pointer (some ⟨g, 0, none⟩))) (A11 : A.tmps[11]? = some (.pointer (some ⟨g + 2, 0, none⟩))) :
    r41_9.wpIn F n Try.prog (nrm R) A Wc := by
  unfold r41_9 c41
  simp only [cA, cB, bodyOf, Try.f41]
  have q10 := c10.cell 0 rfl
  have q11 := c11.cell 0 rfl
  have hl11 := c11.lt
  have l42 : 42 < A.tmps.size := by omega
  have l43 : 43 < A.tmps.size := by omega
  have l44 : 44 < A.tmps.size := by omega
  have l45 : 45 < A.tmps.size := by omega
  have l46 : 46 < A.tmps.size := by omega
  clear c10
  gi_region_with (gi_at_call 46; refine (hcl Wc.drew _ _ crow.drew).mono ?_; rintro e w5 ⟨b3, cap3, rfl, hb3, hr5, hB7⟩; have hB7 := below_drew hB7; have y11 := (c11.below hB7 (by omega)).cell 0 rfl; have ytb := (ctb.below hB7 (by omega)).cell L hcur; have ytf := (ctb.below hB7 (by omega)).frozen L)
  all_goals (refine hR _ _ ⟨⟨.slice (some ⟨g + 1, 0, none⟩) (L + 1) (L + 1), .slice (some ⟨b, off, none⟩) L cap, .int .i64 L, .slice (some ⟨b2, 0, none⟩) (s + 1) cap2, .slice (some ⟨b3, 0, none⟩) (s + 1) cap3, .pointer (some ⟨g + 1, L, none⟩), ?_⟩, b3, cap3, w5, hB7, hb3, hr5, rfl⟩)
  all_goals (simp [put6, Array.setIfInBounds_comm])
set_option maxHeartbeats 8000000 in
theorem reg14 {F : Fence} {n : Nat} (h1 : 1 ≤ n) (h46 : F.fn 46) {l : Nat} (hro : F.round = some l) {Wc : World} {g b2 cap2 s L i : Nat} {cur : Array Value} {v0 : Value}
    (hcl : ∀ W b1 cap1, Row W b1 cap1 (s + 1) (fun _ => -1) → CallsIn F (n - 1) Try.prog 46 #[.slice (some ⟨b1, 0, none⟩) (s + 1) cap1] W fun e w' => ∃ b2 cap2, e = .returned (.slice (some ⟨b2, 0, none⟩) (s + 1) cap2) ∧ W.heap.size ≤ b2 ∧ Row w' b2 cap2 (s + 1) (fun _ => -1) ∧ Below W.heap.size W w')
    (c10 : Blk Wc g #[.slice (some ⟨b2, 0, none⟩) (s + 1) cap2] 22) (c11 : Blk Wc (g + 2) #[.slice (some ⟨g + 1, 0, none⟩) (L + 1) (L + 1)] 75) (ctb : Blk Wc (g + 1) cur 22) (hcur : cur[i]? = some v0) (hi : i < L) (crow : Row Wc b2 cap2 (s + 1) (fun _ => -1))
    {R : Act → World → Prop} (A : Act) (hR : ∀ a' w', (∃ u0 u1 u2 u3 u4, a' = put5 A 58 u0 u1 u2 u3 u4) ∧ Cloned Wc (g + 1) i s w' → R a' w') (hs : 62 < A.tmps.size) (A12 : A.tmps[12]? = some (.int .i64 i)) (A10 : A.tmps[10]? = some (.pointer (some ⟨g, 0, none⟩))) (A11 : A.tmps[11]? = some (.pointer (some ⟨g + 2, 0, none⟩))) :
    r41_14.wpIn F n Try.prog (nrm R) A Wc := by
  unfold r41_14 c41
  simp only [cA, cB, bodyOf, Try.f41, rfBody]
  have q10 := c10.cell 0 rfl
  have q11 := c11.cell 0 rfl
  have hl11 := c11.lt
  have l58 : 58 < A.tmps.size := by omega
  have l59 : 59 < A.tmps.size := by omega
  have l60 : 60 < A.tmps.size := by omega
  have l61 : 61 < A.tmps.size := by omega
  clear c10
  gi_region_with (gi_at_call 46; refine (hcl Wc.drew _ _ crow.drew).mono ?_; rintro e w5 ⟨b3, cap3, rfl, hb3, hr5, hB7⟩; have hB7 := below_drew hB7; have y11 := (c11.below hB7 (by omega)).cell 0 rfl; have ytb := (ctb.below hB7 (by omega)).cell i hcur; have ytf := (ctb.below hB7 (by omega)).frozen i)
  all_goals (refine hR _ _ ⟨⟨.slice (some ⟨g + 1, 0, none⟩) (L + 1) (L + 1), .int .i64 i, .slice (some ⟨b2, 0, none⟩) (s + 1) cap2, .slice (some ⟨b3, 0, none⟩) (s + 1) cap3, .pointer (some ⟨g + 1, i, none⟩), ?_⟩, b3, cap3, w5, hB7, hb3, hr5, rfl⟩)
  all_goals (simp [put5, Array.setIfInBounds_comm])
end
def puts (A : Act) (l : List (Nat × Value)) : Act := { tmps := l.foldl (fun t p => t.setIfInBounds p.1 p.2) A.tmps, defers := A.defers }
noncomputable def r41_34 : Code := (cA (cA (cA (cB (cA (cA (cB (cB (cA (cA (cB (cB (cA (cA (cB (cA (cB (cB (cB (cB (cB (cB (cB (cB (cB (cB c41))))))))))))))))))))))))))
noncomputable def r41_35 : Code := (cA (cB (cA (cA (cB (cA (cA (cB (cB (cA (cA (cB (cB (cA (cA (cB (cA (cB (cB (cB (cB (cB (cB (cB (cB (cB (cB c41)))))))))))))))))))))))))))
section
attribute [local go_sem] Oper.semAt_some
set_option maxHeartbeats 16000000 in
theorem reg34 {n : Nat} {Wc : World} {g r cp s L B k t m c p d : Nat} {v : Int} (hkL : k + 1 < L + 1) (hk9 : k ≤ 1000) (hp : (m : Int) * (c : Int) = p) (hd : (t : Int) - (p : Int) = d) (hp2 : p ≤ 10000) (ht2 : t ≤ 10000) (hds : d < s + 1) (q11 : Wc.cell? ⟨g + 2, 0, none⟩ = some (.slice (some ⟨g + 1, 0, none⟩) (L + 1) (L + 1))) (q5 : Wc.cell? ⟨B, 0, none⟩ = some (.int .i64 (t : Nat))) (qt : Wc.cell? ⟨g + 1, k + 1, none⟩ = some (.slice (some ⟨r, 0, none⟩) (s + 1) cp)) (qr : Wc.cell? ⟨r, d, none⟩ = some (.int .i64 v))
    {K : Act → World → Prop} {Q : Exit → Act → World → Prop} {x0 x1 x2 x3 x4 x6 x7 x8 x9 x10 x12 x13 x14 x15 x16 x17 x21 x22 x23 x24 x25 x26 x27 x28 x29 x30 x31 x32 x33 x34 x35 x36 x37 x38 x39 x40 x41 x42 x43 x44 x45 x46 x47 x48 x49 x50 x51 x52 x53 x54 x55 x56 x57 x58 x59 x60 x61 x62 x63 x64 x65 x66 x67 x68 x69 x70 x71 x72 x73 x74 x75 x76 x77 x78 x79 x80 x81 x82 x83 x84 x85 x86 x87 x88 x89 x90 x91 x92 x93 x94 x95 x96 x97 x98 x99 x100 x101 x102 x103 x104 x105 x106 x107 x108 x109 x110 x111 x112 x113 x114 x115 x116 x117 x118 x119 x120 x121 x122 x123 x124 x125 x126 x127 x128 x129 x130 x131 x132 x133 x134 x135 x136 x137 x138 x139 x140 x141 x142 x143 x144 x145 x146 x147 x148 x149 x150 x151 x152 x153 x154 x155 x156 x157 x158 x159 x160 x161 x162 x163 x164 x165 x166 x167 x168 x169 x170 x171 x172 x173 x174 x175 x176 x177 x178 x179 x180 x181 x182 x183 x184 x185 x186 x187 x188 : Value} {ds : List Deferred} (hR : K { tmps := #[x0, x1, x2, x3, x4, .pointer (some ⟨B, 0, none⟩), x6, x7, x8, x9, x10, .pointer (some ⟨g + 2, 0, none⟩), x12, x13, x14, x15, x16, x17, .int .i64 (k : Nat), .int .i64 (c : Nat), .int .i64 (m : Nat), .int .i64 v, x22, x23, x24, x25, x26, x27, x28, x29, x30, x31, x32, x33, x34, x35, x36, x37, x38, x39, x40, x41, x42, x43, x44, x45, x46, x47, x48, x49, x50, x51, x52, x53, x54, x55, x56, x57, x58, x59, x60, x61, x62, x63, x64, x65, x66, x67, x68, x69, x70, x71, x72, x73, x74, x75, x76, x77, x78, x79, x80, x81, x82, x83, x84, x85, x86, x87, x88, x89, x90, x91, x92, x93, x94, x95, x96, x97, x98, x99, x100, x101, x102, x103, x104, x105, x106, x107, x108, x109, x110, x111, x112, x113, x114, x115, x116, x117, x118, x119, x120, x121, x122, x123, x124, x125, x126, x127, x128, x129, x130, x131, x132, x133, x134, x135, x136, x137, x138, x139, x140, x141, x142, x143, x144, x145, x146, x147, x148, x149, x150, .slice (some ⟨g + 1, 0, none⟩) (L + 1) (L + 1), .int .i64 k, .int .i64 (k + 1), .pointer (some ⟨g + 1, k + 1, none⟩), .slice (some ⟨r, 0, none⟩) (s + 1) cp, .int .i64 t, .int .i64 m, .int .i64 c, .int .i64 p, .int .i64 d, .pointer (some ⟨r, d, none⟩), .int .i64 v, x163, x164, x165, x166, x167, x168, x169, x170, x171, x172, x173, x174, x175, x176, x177, x178, x179, x180, x181, x182, x183, x184, x185, x186, x187, x188], defers := ds } Wc.drew) :
    r41_34.wpIn Fence.wide n Try.prog (Exit.then K Q) { tmps := #[x0, x1, x2, x3, x4, .pointer (some ⟨B, 0, none⟩), x6, x7, x8, x9, x10, .pointer (some ⟨g + 2, 0, none⟩), x12, x13, x14, x15, x16, x17, .int .i64 (k : Nat), .int .i64 (c : Nat), .int .i64 (m : Nat), x21, x22, x23, x24, x25, x26, x27, x28, x29, x30, x31, x32, x33, x34, x35, x36, x37, x38, x39, x40, x41, x42, x43, x44, x45, x46, x47, x48, x49, x50, x51, x52, x53, x54, x55, x56, x57, x58, x59, x60, x61, x62, x63, x64, x65, x66, x67, x68, x69, x70, x71, x72, x73, x74, x75, x76, x77, x78, x79, x80, x81, x82, x83, x84, x85, x86, x87, x88, x89, x90, x91, x92, x93, x94, x95, x96, x97, x98, x99, x100, x101, x102, x103, x104, x105, x106, x107, x108, x109, x110, x111, x112, x113, x114, x115, x116, x117, x118, x119, x120, x121, x122, x123, x124, x125, x126, x127, x128, x129, x130, x131, x132, x133, x134, x135, x136, x137, x138, x139, x140, x141, x142, x143, x144, x145, x146, x147, x148, x149, x150, x151, x152, x153, x154, x155, x156, x157, x158, x159, x160, x161, x162, x163, x164, x165, x166, x167, x168, x169, x170, x171, x172, x173, x174, x175, x176, x177, x178, x179, x180, x181, x182, x183, x184, x185, x186, x187, x188], defers := ds } Wc := by
  refine wpIn_nrm (R := K) ?_ (fun _ _ h => h)
  unfold r41_34 c41
  simp only [cA, cB, bodyOf, Try.f41]
  gi_region
  all_goals exact hR
set_option maxHeartbeats 16000000 in
theorem reg35a {n : Nat} {Wc : World} {v : Int} (hv : v < 0)
    {K : Act → World → Prop} {Q : Exit → Act → World → Prop} {x0 x1 x2 x3 x4 x5 x6 x7 x8 x9 x10 x11 x12 x13 x14 x15 x16 x17 x18 x19 x20 x22 x23 x24 x25 x26 x27 x28 x29 x30 x31 x32 x33 x34 x35 x36 x37 x38 x39 x40 x41 x42 x43 x44 x45 x46 x47 x48 x49 x50 x51 x52 x53 x54 x55 x56 x57 x58 x59 x60 x61 x62 x63 x64 x65 x66 x67 x68 x69 x70 x71 x72 x73 x74 x75 x76 x77 x78 x79 x80 x81 x82 x83 x84 x85 x86 x87 x88 x89 x90 x91 x92 x93 x94 x95 x96 x97 x98 x99 x100 x101 x102 x103 x104 x105 x106 x107 x108 x109 x110 x111 x112 x113 x114 x115 x116 x117 x118 x119 x120 x121 x122 x123 x124 x125 x126 x127 x128 x129 x130 x131 x132 x133 x134 x135 x136 x137 x138 x139 x140 x141 x142 x143 x144 x145 x146 x147 x148 x149 x150 x151 x152 x153 x154 x155 x156 x157 x158 x159 x160 x161 x162 x163 x164 x165 x166 x167 x168 x169 x170 x171 x172 x173 x174 x175 x176 x177 x178 x179 x180 x181 x182 x183 x184 x185 x186 x187 x188 : Value} {ds : List Deferred} (hR : K { tmps := #[x0, x1, x2, x3, x4, x5, x6, x7, x8, x9, x10, x11, x12, x13, x14, x15, x16, x17, x18, x19, x20, .int .i64 v, x22, x23, x24, x25, x26, x27, x28, x29, x30, x31, x32, x33, x34, x35, x36, x37, x38, x39, x40, x41, x42, x43, x44, x45, x46, x47, x48, x49, x50, x51, x52, x53, x54, x55, x56, x57, x58, x59, x60, x61, x62, x63, x64, x65, x66, x67, x68, x69, x70, x71, x72, x73, x74, x75, x76, x77, x78, x79, x80, x81, x82, x83, x84, x85, x86, x87, x88, x89, x90, x91, x92, x93, x94, x95, x96, x97, x98, x99, x100, x101, x102, x103, x104, x105, x106, x107, x108, x109, x110, x111, x112, x113, x114, x115, x116, x117, x118, x119, x120, x121, x122, x123, x124, x125, x126, x127, x128, x129, x130, x131, x132, x133, x134, x135, x136, x137, x138, x139, x140, x141, x142, x143, x144, x145, x146, x147, x148, x149, x150, x151, x152, x153, x154, x155, x156, x157, x158, x159, x160, x161, x162, .int .i64 v, .bool false, .bool false, undef, undef, undef, undef, undef, undef, undef, undef, undef, undef, undef, .bool false, x178, x179, x180, x181, x182, x183, x184, x185, x186, x187, x188], defers := ds } Wc.drew) :
    r41_35.wpIn Fence.wide n Try.prog (Exit.then K Q) { tmps := #[x0, x1, x2, x3, x4, x5, x6, x7, x8, x9, x10, x11, x12, x13, x14, x15, x16, x17, x18, x19, x20, .int .i64 v, x22, x23, x24, x25, x26, x27, x28, x29, x30, x31, x32, x33, x34, x35, x36, x37, x38, x39, x40, x41, x42, x43, x44, x45, x46, x47, x48, x49, x50, x51, x52, x53, x54, x55, x56, x57, x58, x59, x60, x61, x62, x63, x64, x65, x66, x67, x68, x69, x70, x71, x72, x73, x74, x75, x76, x77, x78, x79, x80, x81, x82, x83, x84, x85, x86, x87, x88, x89, x90, x91, x92, x93, x94, x95, x96, x97, x98, x99, x100, x101, x102, x103, x104, x105, x106, x107, x108, x109, x110, x111, x112, x113, x114, x115, x116, x117, x118, x119, x120, x121, x122, x123, x124, x125, x126, x127, x128, x129, x130, x131, x132, x133, x134, x135, x136, x137, x138, x139, x140, x141, x142, x143, x144, x145, x146, x147, x148, x149, x150, x151, x152, x153, x154, x155, x156, x157, x158, x159, x160, x161, x162, x163, x164, x165, x166, x167, x168, x169, x170, x171, x172, x173, x174, x175, x176, x177, x178, x179, x180, x181, x182, x183, x184, x185, x186, x187, x188], defers := ds } Wc := by
  refine wpIn_nrm (R := K) ?_ (fun _ _ h => h)
  unfold r41_35 c41
  simp only [cA, cB, bodyOf, Try.f41]
  have hv2 : decide (v ≥ 0) = false := decide_eq_false (by omega)
  refine wpIn_region_any (by kernel_rfl) ?_
  have step : ∀ {i : Nat} {oi : Oper} {u : Value} {fuel : Nat} {listed : Array Bool} {a : Act} {w : World} {ops : Array Oper}, ops[i]? = some oi → Region.noSelect ops = true → Region.free .any ops listed i = true → (Region.ready .any ops listed).contains i = true → YieldsFenced Try.prog ops oi u a →
      wpAnyIn Fence.wide n Try.prog .any ops (nrm K) fuel (listed.setIfInBounds i true) (a.put oi.dst u) w → wpAnyIn Fence.wide n Try.prog .any ops (nrm K) (fuel + 1) listed a w :=
    fun h1 h2 h3 h4 h5 h6 => wpAnyIn_take rfl h1 h2 h3 h4 (fun c a w h => h) h5 h6
  refine step (i := 0) (u := .int .i64 v) (fuel := 14) rfl (by kernel_rfl) (by kernel_rfl) (by kernel_rfl) ⟨.inl ⟨rfl, fun w => rfl⟩, fun w => rfl⟩ ?_
  refine step (i := 1) (u := .bool (decide (v ≥ 0))) (fuel := 13) rfl (by kernel_rfl) (by kernel_rfl) (by kernel_rfl) ⟨.inl ⟨rfl, fun w => by kernel_rfl⟩, fun w => by kernel_rfl⟩ ?_
  rw [hv2]
  refine step (i := 2) (u := .bool false) (fuel := 12) rfl (by kernel_rfl) (by kernel_rfl) (by kernel_rfl) ⟨.inl ⟨rfl, fun w => rfl⟩, fun w => rfl⟩ ?_
  refine step (i := 3) (u := undef) (fuel := 11) rfl (by kernel_rfl) (by kernel_rfl) (by kernel_rfl) ⟨.inr ⟨by kernel_rfl, rfl⟩, fun w => by kernel_rfl⟩ ?_
  refine step (i := 4) (u := undef) (fuel := 10) rfl (by kernel_rfl) (by kernel_rfl) (by kernel_rfl) ⟨.inr ⟨by kernel_rfl, rfl⟩, fun w => by kernel_rfl⟩ ?_
  refine step (i := 5) (u := undef) (fuel := 9) rfl (by kernel_rfl) (by kernel_rfl) (by kernel_rfl) ⟨.inr ⟨by kernel_rfl, rfl⟩, fun w => by kernel_rfl⟩ ?_
  refine step (i := 6) (u := undef) (fuel := 8) rfl (by kernel_rfl) (by kernel_rfl) (by kernel_rfl) ⟨.inr ⟨by kernel_rfl, rfl⟩, fun w => by kernel_rfl⟩ ?_
  refine step (i := 7) (u := undef) (fuel := 7) rfl (by kernel_rfl) (by kernel_rfl) (by kernel_rfl) ⟨.inr ⟨by kernel_rfl, rfl⟩, fun w => by kernel_rfl⟩ ?_
  refine step (i := 8) (u := undef) (fuel := 6) rfl (by kernel_rfl) (by kernel_rfl) (by kernel_rfl) ⟨.inr ⟨by kernel_rfl, rfl⟩, fun w => by kernel_rfl⟩ ?_
  refine step (i := 9) (u := undef) (fuel := 5) rfl (by kernel_rfl) (by kernel_rfl) (by kernel_rfl) ⟨.inr ⟨by kernel_rfl, rfl⟩, fun w => by kernel_rfl⟩ ?_
  refine step (i := 10) (u := undef) (fuel := 4) rfl (by kernel_rfl) (by kernel_rfl) (by kernel_rfl) ⟨.inr ⟨by kernel_rfl, rfl⟩, fun w => by kernel_rfl⟩ ?_
  refine step (i := 11) (u := undef) (fuel := 3) rfl (by kernel_rfl) (by kernel_rfl) (by kernel_rfl) ⟨.inr ⟨by kernel_rfl, rfl⟩, fun w => by kernel_rfl⟩ ?_
  refine step (i := 12) (u := undef) (fuel := 2) rfl (by kernel_rfl) (by kernel_rfl) (by kernel_rfl) ⟨.inr ⟨by kernel_rfl, rfl⟩, fun w => by kernel_rfl⟩ ?_
  refine step (i := 13) (u := undef) (fuel := 1) rfl (by kernel_rfl) (by kernel_rfl) (by kernel_rfl) ⟨.inr ⟨by kernel_rfl, rfl⟩, fun w => by kernel_rfl⟩ ?_
  refine step (i := 14) (u := .bool false) (fuel := 0) rfl (by kernel_rfl) (by kernel_rfl) (by kernel_rfl) ⟨.inl ⟨by kernel_rfl, fun w => by kernel_rfl⟩, fun w => by kernel_rfl⟩ ?_
  refine ⟨by kernel_rfl, ?_⟩
  refine (congrArg (fun a => K a Wc.drew) ?_).mp hR
  simp [Act.put]
set_option maxHeartbeats 16000000 in
theorem reg35b {n : Nat} {Wc : World} {g r cp s L B k t m x : Nat} {v tt : Int} (hkL : k < L + 1) (hx : v + (m : Int) = x) (hx2 : x ≤ 100000) (hv : 0 ≤ v) (hts : t < s + 1) (q11 : Wc.cell? ⟨g + 2, 0, none⟩ = some (.slice (some ⟨g + 1, 0, none⟩) (L + 1) (L + 1))) (q5 : Wc.cell? ⟨B, 0, none⟩ = some (.int .i64 (t : Nat))) (qt : Wc.cell? ⟨g + 1, k, none⟩ = some (.slice (some ⟨r, 0, none⟩) (s + 1) cp)) (qr : Wc.cell? ⟨r, t, none⟩ = some (.int .i64 tt))
    {K : Act → World → Prop} {Q : Exit → Act → World → Prop} {x0 x1 x2 x3 x4 x6 x7 x8 x9 x10 x12 x13 x14 x15 x16 x17 x19 x22 x23 x24 x25 x26 x27 x28 x29 x30 x31 x32 x33 x34 x35 x36 x37 x38 x39 x40 x41 x42 x43 x44 x45 x46 x47 x48 x49 x50 x51 x52 x53 x54 x55 x56 x57 x58 x59 x60 x61 x62 x63 x64 x65 x66 x67 x68 x69 x70 x71 x72 x73 x74 x75 x76 x77 x78 x79 x80 x81 x82 x83 x84 x85 x86 x87 x88 x89 x90 x91 x92 x93 x94 x95 x96 x97 x98 x99 x100 x101 x102 x103 x104 x105 x106 x107 x108 x109 x110 x111 x112 x113 x114 x115 x116 x117 x118 x119 x120 x121 x122 x123 x124 x125 x126 x127 x128 x129 x130 x131 x132 x133 x134 x135 x136 x137 x138 x139 x140 x141 x142 x143 x144 x145 x146 x147 x148 x149 x150 x151 x152 x153 x154 x155 x156 x157 x158 x159 x160 x161 x162 x163 x164 x165 x166 x167 x168 x169 x170 x171 x172 x173 x174 x175 x176 x177 x178 x179 x180 x181 x182 x183 x184 x185 x186 x187 x188 : Value} {ds : List Deferred} (hR : K { tmps := #[x0, x1, x2, x3, x4, .pointer (some ⟨B, 0, none⟩), x6, x7, x8, x9, x10, .pointer (some ⟨g + 2, 0, none⟩), x12, x13, x14, x15, x16, x17, .int .i64 (k : Nat), x19, .int .i64 (m : Nat), .int .i64 v, x22, x23, x24, x25, x26, x27, x28, x29, x30, x31, x32, x33, x34, x35, x36, x37, x38, x39, x40, x41, x42, x43, x44, x45, x46, x47, x48, x49, x50, x51, x52, x53, x54, x55, x56, x57, x58, x59, x60, x61, x62, x63, x64, x65, x66, x67, x68, x69, x70, x71, x72, x73, x74, x75, x76, x77, x78, x79, x80, x81, x82, x83, x84, x85, x86, x87, x88, x89, x90, x91, x92, x93, x94, x95, x96, x97, x98, x99, x100, x101, x102, x103, x104, x105, x106, x107, x108, x109, x110, x111, x112, x113, x114, x115, x116, x117, x118, x119, x120, x121, x122, x123, x124, x125, x126, x127, x128, x129, x130, x131, x132, x133, x134, x135, x136, x137, x138, x139, x140, x141, x142, x143, x144, x145, x146, x147, x148, x149, x150, x151, x152, x153, x154, x155, x156, x157, x158, x159, x160, x161, x162, .int .i64 v, .bool true, .bool true, .int .i64 v, .int .i64 m, .int .i64 x, .slice (some ⟨g + 1, 0, none⟩) (L + 1) (L + 1), .int .i64 k, .pointer (some ⟨g + 1, k, none⟩), .slice (some ⟨r, 0, none⟩) (s + 1) cp, .int .i64 t, .pointer (some ⟨r, t, none⟩), .int .i64 tt, .bool (decide ((x : Int) = tt)), .bool (decide ((x : Int) = tt)), x178, x179, x180, x181, x182, x183, x184, x185, x186, x187, x188], defers := ds } Wc.drew) :
    r41_35.wpIn Fence.wide n Try.prog (Exit.then K Q) { tmps := #[x0, x1, x2, x3, x4, .pointer (some ⟨B, 0, none⟩), x6, x7, x8, x9, x10, .pointer (some ⟨g + 2, 0, none⟩), x12, x13, x14, x15, x16, x17, .int .i64 (k : Nat), x19, .int .i64 (m : Nat), .int .i64 v, x22, x23, x24, x25, x26, x27, x28, x29, x30, x31, x32, x33, x34, x35, x36, x37, x38, x39, x40, x41, x42, x43, x44, x45, x46, x47, x48, x49, x50, x51, x52, x53, x54, x55, x56, x57, x58, x59, x60, x61, x62, x63, x64, x65, x66, x67, x68, x69, x70, x71, x72, x73, x74, x75, x76, x77, x78, x79, x80, x81, x82, x83, x84, x85, x86, x87, x88, x89, x90, x91, x92, x93, x94, x95, x96, x97, x98, x99, x100, x101, x102, x103, x104, x105, x106, x107, x108, x109, x110, x111, x112, x113, x114, x115, x116, x117, x118, x119, x120, x121, x122, x123, x124, x125, x126, x127, x128, x129, x130, x131, x132, x133, x134, x135, x136, x137, x138, x139, x140, x141, x142, x143, x144, x145, x146, x147, x148, x149, x150, x151, x152, x153, x154, x155, x156, x157, x158, x159, x160, x161, x162, x163, x164, x165, x166, x167, x168, x169, x170, x171, x172, x173, x174, x175, x176, x177, x178, x179, x180, x181, x182, x183, x184, x185, x186, x187, x188], defers := ds } Wc := by
  refine wpIn_nrm (R := K) ?_ (fun _ _ h => h)
  unfold r41_35 c41
  simp only [cA, cB, bodyOf, Try.f41]
  gi_region
  all_goals exact hR
end
end Go.Proofs.Ytjgmfdgpgdaclaa
set_option linter.unusedVariables false
set_option linter.unusedSimpArgs false
set_option maxRecDepth 100000
namespace Go.Proofs.Ytjgmfdgpgdaclaa
open Go.RowKit Go.Shelf
theorem hao_old (w : World) (o : Obj) (i : Nat) (h : i < w.heap.size) : (w.alloc o).heap[i]? = w.heap[i]? := by
  show (w.heap.push o)[i]? = w.heap[i]?
  rw [Array.getElem?_push, if_neg (Nat.ne_of_lt h)]
/-- One number of coins more. -/
def upd1 (cur rest n : Int) : Int := bif decide (0 ≤ rest) && (decide (cur < 0) || decide (rest + n < cur)) then rest + n else cur
/-- The fewest coins, so many of this one from n on. -/
def pcell (f : Int → Int) (q c x : Int) : Nat → Int → Int → Int
  | 0, _, cur => cur
  | k + 1, n, cur => bif decide (n ≤ q) && decide (n * c ≤ x) then pcell f q c x k (n + 1) (upd1 cur (f (x - n * c)) n) else cur
/-- The fewest coins of a purse for each sum; -1: it cannot pay. -/
def bc : List Int → List Int → Int → Int
  | [], _, x => bif x == 0 then 0 else -1
  | c :: l, ps, x => pcell (bc l ps.tail) (ps.headD 0) c x (x.toNat + 1) 0 (-1)
/-- The first number with which just t coins are left. -/
def pfind (f : Int → Int) (c t s : Int) : Nat → Int → Option Int
  | 0, _ => none
  | k + 1, n => bif decide (n * c ≤ s) then (bif decide (0 ≤ f (s - n * c)) && (f (s - n * c) + n == t) then some n else pfind f c t s k (n + 1)) else none
def pout : List Int → List Int → Int → List Int
  | [], _, _ => []
  | c :: l, ps, s => match pfind (bc l ps.tail) c (bc (c :: l) ps s) s (s.toNat + 1) 0 with
    | some n => n :: pout l ps.tail (s - n * c)
    | none => pout l ps.tail s
def HF41 (S : List Int → Int → Option Int) (T : List Int → List Int → Option Int) (U : List Int → Int → Option (List Int)) (X : List Int → Option (List Int)) (l p : List Int) (s : Int) : Option (List Int × Int) :=
  (S l s).bind fun e => bif e != 0 then some ([], e) else
    (T l p).bind fun e2 => bif e2 != 0 then some ([], e2) else
      (U [-1] (s + 1)).bind fun r => (X r).bind fun r2 =>
        bif (l.all fun c => decide (1 ≤ c) && decide (c ≤ 40)) && (decide (0 < l.length) && decide (l.length ≤ 6)) && (decide (0 ≤ s) && decide (s ≤ 200)) && (decide (p.length = l.length) && p.all fun q => decide (0 ≤ q) && decide (q ≤ 200)) &&
            (decide (r = List.replicate (s.toNat + 1) (-1)) && decide (r2 = r)) then
          bif decide (bc l p s < 0) then some ([], 12) else some (pout l p s, 0)
        else none
theorem upd1_bd {cur rest n m : Int} (h1 : -1 ≤ cur ∧ cur ≤ m) (h2 : -1 ≤ rest) (h3 : rest + n ≤ m) (hn : 0 ≤ n) : -1 ≤ upd1 cur rest n ∧ upd1 cur rest n ≤ m := by
  unfold upd1
  cases h : (decide (0 ≤ rest) && (decide (cur < 0) || decide (rest + n < cur))) with
  | true =>
    simp only [Bool.and_eq_true, decide_eq_true_eq] at h
    rw [cond_true]
    omega
  | false => rw [cond_false]; exact h1
theorem pcell_bd {f : Int → Int} {q c x : Int} (hc : 1 ≤ c) (hf : ∀ y, 0 ≤ y → -1 ≤ f y ∧ f y ≤ y) : ∀ (k : Nat) (n cur : Int), 0 ≤ n → -1 ≤ cur ∧ cur ≤ x → -1 ≤ pcell f q c x k n cur ∧ pcell f q c x k n cur ≤ x
  | 0, n, cur, hn, h => h
  | k + 1, n, cur, hn, h => by
    simp only [pcell]
    cases hg : (decide (n ≤ q) && decide (n * c ≤ x)) with
    | true =>
      simp only [Bool.and_eq_true, decide_eq_true_eq] at hg
      rw [cond_true]
      have h1 := hf (x - n * c) (by omega)
      have h2 : n * 1 ≤ n * c := Int.mul_le_mul_of_nonneg_left hc hn
      exact pcell_bd hc hf k (n + 1) _ (by omega) (upd1_bd h h1.1 (by omega) hn)
    | false => rw [cond_false]; exact h
theorem bc_bd : ∀ (l ps : List Int), (∀ c ∈ l, 1 ≤ c) → ∀ x, 0 ≤ x → -1 ≤ bc l ps x ∧ bc l ps x ≤ x
  | [], _, _, x, hx => by
    unfold bc
    cases h : x == 0
    · rw [cond_false]; omega
    · rw [cond_true]; omega
  | c :: l, ps, hl, x, hx => by
    unfold bc
    exact pcell_bd (hl c (by simp)) (fun y hy => bc_bd l ps.tail (fun d hd => hl d (by simp [hd])) y hy) _ 0 (-1) (Int.le_refl _) (by omega)
/-- The rows from m on: tb is the table's block, lo the first block that a row may be. -/
def Tab (zs ps : List Int) (s L tb lo m : Nat) (W : World) : Prop :=
  ∃ cur, Blk W tb cur 22 ∧ cur.size = L + 1 ∧ ∀ j, m ≤ j → j ≤ L → ∃ ρ cp, cur[j]? = some (.slice (some ⟨ρ, 0, none⟩) (s + 1) cp) ∧ lo ≤ ρ ∧ Row W ρ cp (s + 1) (fun x => bc (zs.drop j) (ps.drop j) x)
theorem Tab.kept {zs ps : List Int} {s L tb lo m : Nat} {W W' : World} {row : Option Nat} (h : Tab zs ps s L tb lo m W) (hg : W.grownBy W' row) (hr : ∀ r, row = some r → r ≠ tb ∧ r < lo) : Tab zs ps s L tb lo m W' := by
  obtain ⟨cur, h1, h2, h3⟩ := h
  refine ⟨cur, h1.kept hg (fun e => (hr tb e.symm).1 rfl), h2, fun j hj hj' => ?_⟩
  obtain ⟨ρ, cp, h4, h5, h6⟩ := h3 j hj hj'
  exact ⟨ρ, cp, h4, h5, h6.kept hg (fun e => by have := (hr ρ e.symm).2; omega)⟩
/-- What the loops lean on: the boxes of the purse, of the sum, of the empty row and of the table. -/
structure Boxes (w : World) (b' off' cap' L s g b2 cap2 : Nat) (W : World) : Prop where
  ps : Blk W w.heap.size #[.slice (some ⟨b', off', none⟩) L cap'] 22
  sum : Blk W (w.heap.size + 1) #[.int .i64 s] 3
  none : Blk W g #[.slice (some ⟨b2, 0, none⟩) (s + 1) cap2] 22
  row : Row W b2 cap2 (s + 1) (fun _ => -1)
  tab : Blk W (g + 2) #[.slice (some ⟨g + 1, 0, .none⟩) (L + 1) (L + 1)] 75
  size : g + 3 ≤ W.heap.size
  low : Below w.heap.size w W
theorem Boxes.kept {w : World} {b' off' cap' L s g b2 cap2 : Nat} {W W' : World} {row : Option Nat} (h : Boxes w b' off' cap' L s g b2 cap2 W) (hw : w.heap.size + 1 < g) (hb : b2 < g) (hg : W.grownBy W' row) (hr : ∀ r, row = some r → g + 2 < r ∨ r = g + 1) : Boxes w b' off' cap' L s g b2 cap2 W' := by
  refine ⟨h.ps.kept hg ?_, h.sum.kept hg ?_, h.none.kept hg ?_, h.row.kept hg ?_, h.tab.kept hg ?_, Nat.le_trans h.size hg.size, h.low.grown hg h.low.size ?_⟩
  all_goals first | (intro e; have := hr _ e.symm; omega) | (intro k e; have := hr k e; omega)
theorem Boxes.set {w : World} {b' off' cap' L s g b2 cap2 : Nat} {W : World} (h : Boxes w b' off' cap' L s g b2 cap2 W) (hw : w.heap.size + 1 < g) (hb : b2 < g) (r j : Nat) (v : Value) (hr : g + 2 < r ∨ r = g + 1) : Boxes w b' off' cap' L s g b2 cap2 (W.setCell ⟨r, j, .none⟩ v) := by
  refine ⟨h.ps.other j v (by omega), h.sum.other j v (by omega), h.none.other j v (by omega), h.row.other j v (by omega), h.tab.other j v (by omega), by simpa using h.size, h.low.setCell (p := ⟨r, j, .none⟩) (by show w.heap.size ≤ r; omega) v⟩
theorem Boxes.below {w : World} {b' off' cap' L s g b2 cap2 : Nat} {W W' : World} (h : Boxes w b' off' cap' L s g b2 cap2 W) (hw : w.heap.size + 1 < g) (hb : b2 < g) (hg : Below W.heap.size W W') : Boxes w b' off' cap' L s g b2 cap2 W' := by
  have := h.size
  exact ⟨h.ps.below hg (by omega), h.sum.below hg (by omega), h.none.below hg (by omega), h.row.below hg (by omega), h.tab.below hg (by omega), Nat.le_trans h.size hg.size, h.low.trans (hg.mono h.low.size)⟩
theorem Blk.ownc {W W' : World} {row : Option Nat} {b : Nat} {cur : Array Value} {t : TypeId} (h : Blk W b cur t) (hg : W.grownBy W' row) (hr : ∀ r, row = some r → ∃ o : Obj, W.heap[r]? = some o ∧ o.isCells = false) : Blk W' b cur t :=
  h.kept hg (fun e => by
    obtain ⟨o, ho, hc⟩ := hr b e.symm
    rw [show W.heap[b]? = _ from h] at ho
    cases ho
    cases hc)
theorem Row.ownc {W W' : World} {row : Option Nat} {b cap len : Nat} {f : Nat → Int} (h : Row W b cap len f) (hg : W.grownBy W' row) (hr : ∀ r, row = some r → ∃ o : Obj, W.heap[r]? = some o ∧ o.isCells = false) : Row W' b cap len f := by
  obtain ⟨cur, ty, h1, h2⟩ := h
  exact ⟨cur, ty, h1.ownc hg hr, h2⟩
theorem Tab.ownc {zs ps : List Int} {s L tb lo m : Nat} {W W' : World} {row : Option Nat} (h : Tab zs ps s L tb lo m W) (hg : W.grownBy W' row) (hr : ∀ r, row = some r → ∃ o : Obj, W.heap[r]? = some o ∧ o.isCells = false) : Tab zs ps s L tb lo m W' := by
  obtain ⟨cur, h1, h2, h3⟩ := h
  refine ⟨cur, h1.ownc hg hr, h2, fun j hj hj' => ?_⟩
  obtain ⟨ρ, cp, h4, h5, h6⟩ := h3 j hj hj'
  exact ⟨ρ, cp, h4, h5, h6.ownc hg hr⟩
/-- In the midst of a round: the row of coin k lies in block r, with values G; B, Bs: the loop's first block and the iterator's box. -/
structure Rnd (w : World) (b' off' cap' : Nat) (zs ps : List Int) (s g b2 cap2 B Bs k r cp : Nat) (cur : Array Value) (W : World) (G : Nat → Int) (wr : World) : Prop where
  box : Boxes w b' off' cap' zs.length s g b2 cap2 wr
  tab : Blk wr (g + 1) cur 22
  rows : ∀ j, k + 1 ≤ j → j ≤ zs.length → ∃ ρ cp', cur[j]? = some (.slice (some ⟨ρ, 0, none⟩) (s + 1) cp') ∧ g + 3 ≤ ρ ∧ ρ ≠ r ∧ Row wr ρ cp' (s + 1) (fun x => bc (zs.drop j) (ps.drop j) x)
  row : Row wr r cp (s + 1) G
  chg : Chg B w.heap.size Bs W wr
theorem Rnd.set {w : World} {b' off' cap' : Nat} {zs ps : List Int} {s g b2 cap2 B Bs k r cp : Nat} {cur : Array Value} {W : World} {G : Nat → Int} {wr : World} (h : Rnd w b' off' cap' zs ps s g b2 cap2 B Bs k r cp cur W G wr) (hw : w.heap.size + 1 < g) (hb : b2 < g) (hr : g + 3 ≤ r) (hne : r ≠ Bs) (t : Nat) (v : Int) :
    Rnd w b' off' cap' zs ps s g b2 cap2 B Bs k r cp cur W (fun j => if j = t then v else G j) (wr.setCell ⟨r, t, none⟩ (.int .i64 v)) := by
  refine ⟨h.box.set hw hb r t _ (.inl (by omega)), h.tab.other t _ (by omega), fun j h1 h2 => ?_, h.row.set t v, h.chg.set r t _ (by omega) hne⟩
  obtain ⟨ρ, cp', k1, k2, k3, k4⟩ := h.rows j h1 h2
  exact ⟨ρ, cp', k1, k2, k3, k4.other t _ k3⟩
theorem Rnd.congr {w : World} {b' off' cap' : Nat} {zs ps : List Int} {s g b2 cap2 B Bs k r cp : Nat} {cur : Array Value} {W : World} {G G' : Nat → Int} {wr : World} (h : Rnd w b' off' cap' zs ps s g b2 cap2 B Bs k r cp cur W G wr) (e : ∀ i, i < s + 1 → G i = G' i) :
    Rnd w b' off' cap' zs ps s g b2 cap2 B Bs k r cp cur W G' wr := ⟨h.box, h.tab, h.rows, h.row.congr e, h.chg⟩
theorem pcell_stop {f : Int → Int} {q c x n cur : Int} (h : q < n ∨ x < n * c) (k : Nat) : pcell f q c x k n cur = cur := by
  cases k with
  | zero => rfl
  | succ k =>
    have : (decide (n ≤ q) && decide (n * c ≤ x)) = false := by
      rcases h with h | h
      · rw [decide_eq_false (by omega)]; rfl
      · rw [decide_eq_false (p := n * c ≤ x) (by omega), Bool.and_false]
    simp only [pcell, this, cond_false]
theorem pcell_go {f : Int → Int} {q c x n cur : Int} (h1 : n ≤ q) (h2 : n * c ≤ x) (k : Nat) : pcell f q c x (k + 1) n cur = pcell f q c x k (n + 1) (upd1 cur (f (x - n * c)) n) := by
  simp only [pcell, decide_eq_true h1, decide_eq_true h2, Bool.and_true, cond_true]
theorem row_next {G : Int → Int} {t : Nat} {cv : Int} (h : cv = G t) (x : Nat) : (if x < t then G x else if x = t then cv else -1) = if x < t + 1 then G x else -1 := by
  by_cases h1 : x < t
  · rw [if_pos h1, if_pos (by omega)]
  · rw [if_neg h1]
    by_cases h2 : x = t
    · subst h2
      rw [if_pos rfl, if_pos (by omega), h]
    · rw [if_neg h2, if_neg (by omega)]
theorem row_upd {G : Nat → Int} {t : Nat} {cv v : Int} (x : Nat) : (if x = t then v else if x < t then G x else if x = t then cv else -1) = if x < t then G x else if x = t then v else -1 := by
  by_cases h : x = t
  · subst h
    simp
  · simp [h]
/-- While the payment is read off: the rows, and what is still to be paid. -/
structure Fin41 (w : World) (zs ps : List Int) (s g W0 : Nat) (cur : Array Value) (t : Nat) (wr : World) : Prop where
  sum : Blk wr (w.heap.size + 1) #[.int .i64 t] 3
  tab : Blk wr (g + 2) #[.slice (some ⟨g + 1, 0, none⟩) (zs.length + 1) (zs.length + 1)] 75
  tb : Blk wr (g + 1) cur 22
  rows : ∀ j, j ≤ zs.length → ∃ ρ cp, cur[j]? = some (.slice (some ⟨ρ, 0, none⟩) (s + 1) cp) ∧ g + 3 ≤ ρ ∧ ρ < W0 ∧ Row wr ρ cp (s + 1) (fun x => bc (zs.drop j) (ps.drop j) x)
  low : Below w.heap.size w wr
  size : W0 ≤ wr.heap.size
theorem Fin41.kept {w : World} {zs ps : List Int} {s g W0 : Nat} {cur : Array Value} {t : Nat} {wr w' : World} {row : Option Nat} (h : Fin41 w zs ps s g W0 cur t wr) (hw : w.heap.size + 1 < g) (hg0 : g + 3 ≤ W0) (hg : wr.grownBy w' row) (hr : ∀ r, row = some r → W0 ≤ r) : Fin41 w zs ps s g W0 cur t w' := by
  refine ⟨h.sum.kept hg ?_, h.tab.kept hg ?_, h.tb.kept hg ?_, fun j hj => ?_, h.low.grown hg h.low.size ?_, Nat.le_trans h.size hg.size⟩
  · intro e; have := hr _ e.symm; omega
  · intro e; have := hr _ e.symm; omega
  · intro e; have := hr _ e.symm; omega
  · obtain ⟨ρ, cp, h1, h2, h3, h4⟩ := h.rows j hj
    exact ⟨ρ, cp, h1, h2, h3, h4.kept hg (fun e => by have := hr _ e.symm; omega)⟩
  · intro k e; have := hr k e; omega
theorem Fin41.pay {w : World} {zs ps : List Int} {s g W0 : Nat} {cur : Array Value} {t : Nat} {wr : World} (h : Fin41 w zs ps s g W0 cur t wr) (hw : w.heap.size + 1 < g) (t' : Nat) : Fin41 w zs ps s g W0 cur t' (wr.setCell ⟨w.heap.size + 1, 0, none⟩ (.int .i64 t')) := by
  refine ⟨h.sum.set 0 _, h.tab.other 0 _ (by omega), h.tb.other 0 _ (by omega), fun j hj => ?_, h.low.setCell (p := ⟨w.heap.size + 1, 0, none⟩) (by show w.heap.size ≤ w.heap.size + 1; omega) _, by simpa using h.size⟩
  obtain ⟨ρ, cp, h1, h2, h3, h4⟩ := h.rows j hj
  exact ⟨ρ, cp, h1, h2, h3, h4.other 0 _ (by omega)⟩
theorem Fin41.drew {w : World} {zs ps : List Int} {s g W0 : Nat} {cur : Array Value} {t : Nat} {wr : World} (h : Fin41 w zs ps s g W0 cur t wr) : Fin41 w zs ps s g W0 cur t wr.drew := ⟨h.sum, h.tab, h.tb, h.rows, h.low.drew, h.size⟩
theorem own_base {wr : World} {base base' : Nat} {e : TypeId} {v : Value} {n : Nat} {xs : List Value} (h : wr.ownsRow base e 1 v n xs) (hb : base' ≤ base) : wr.ownsRow base' e 1 v n xs := by
  refine ⟨h.1, ?_⟩
  rcases h.2 with hn | ⟨g, cap, cur, rfl, hg, hgg, rest⟩
  · exact .inl hn
  · exact .inr ⟨g, cap, cur, rfl, Nat.le_trans hb hg, hgg, rest⟩
theorem own_pay {w wr : World} {base : Nat} {e : TypeId} {v : Value} {n : Nat} {xs : List Value} (h : wr.ownsRow base e 1 v n xs) (hb : w.heap.size + 1 < base) (u : Value) : (wr.setCell ⟨w.heap.size + 1, 0, none⟩ u).ownsRow base e 1 v n xs := by
  refine ⟨h.1, ?_⟩
  rcases h.2 with hn | ⟨g, cap, cur, rfl, hg, hgg, rest⟩
  · exact .inl hn
  · exact .inr ⟨g, cap, cur, rfl, hg, (heap_setCell_other wr ⟨w.heap.size + 1, 0, none⟩ g u (by show g ≠ w.heap.size + 1; omega)).trans hgg, rest⟩
def nxt41 (l q : List Int) (t c : Int) : Option Int → List Int
  | some n => n :: pout l q (t - n * c)
  | none => pout l q t
theorem pfind_stop {f : Int → Int} {c t s n : Int} (h : s < n * c) (k : Nat) : pfind f c t s k n = none := by
  cases k with
  | zero => rfl
  | succ k => simp only [pfind, decide_eq_false (show ¬ n * c ≤ s by omega), cond_false]
theorem pfind_go {f : Int → Int} {c t s n : Int} (h : n * c ≤ s) (h2 : ¬ (0 ≤ f (s - n * c) ∧ f (s - n * c) + n = t)) (k : Nat) : pfind f c t s (k + 1) n = pfind f c t s k (n + 1) := by
  have : (decide (0 ≤ f (s - n * c)) && (f (s - n * c) + n == t)) = false := by
    rw [Bool.and_eq_false_iff]
    by_cases h3 : 0 ≤ f (s - n * c)
    · right
      simpa using fun e => h2 ⟨h3, e⟩
    · left
      simpa using h3
  simp only [pfind, decide_eq_true h, cond_true, this, cond_false]
theorem pfind_hit {f : Int → Int} {c t s n : Int} (h : n * c ≤ s) (h1 : 0 ≤ f (s - n * c)) (h2 : f (s - n * c) + n = t) (k : Nat) : pfind f c t s (k + 1) n = some n := by
  simp only [pfind, decide_eq_true h, cond_true, decide_eq_true h1, h2, beq_self_eq_true, Bool.and_true]
theorem pout_cons {zs ps : List Int} {k : Nat} (hk : k < zs.length) (hkp : k < ps.length) (t : Int) : pout (zs.drop k) (ps.drop k) t =
    match pfind (bc (zs.drop (k + 1)) (ps.drop (k + 1))) zs[k] (bc (zs.drop k) (ps.drop k) t) t (t.toNat + 1) 0 with
    | some n => n :: pout (zs.drop (k + 1)) (ps.drop (k + 1)) (t - n * zs[k])
    | none => pout (zs.drop (k + 1)) (ps.drop (k + 1)) t := by
  rw [List.drop_eq_getElem_cons hk, List.drop_eq_getElem_cons hkp]
  rfl
def IsWide (F : Fence) : Prop := F = Fence.wide
theorem wpIn_puts {F : Fence} {n : Nat} {P : Program} {c : Code} {K : Act → World → Prop} {Q : Exit → Act → World → Prop} {A : Act} {W : World} (R : Act → World → Act → World → Prop)
    (h : c.wpIn F n P (nrm (R A W)) A W) (k : ∀ a' w', R A W a' w' → K a' w') : c.wpIn F n P (Exit.then K Q) A W := wpIn_nrm h k
section
attribute [local go_sem] Oper.semAt_some
set_option maxHeartbeats 8000000 in
theorem purse_in (F : Fence) (hF : IsWide F) (n : Nat) (h41 : F.fn 41) (h56 : F.fn 56) (h68 : F.fn 68) (h52 : F.fn 52) (h46 : F.fn 46) (h72 : F.fn 72) (h78 : F.fn 78) (hro : F.round = none) (hn : 3 ≤ n)
    (b off cap b' off' cap' : Nat) (zs ps : List Int) (s : Nat) (w : World) (hb : b < w.heap.size) (hb' : b' < w.heap.size)
    (hcs : ∀ j (h : j < zs.length), w.cell? ⟨b, off + j, none⟩ = some (.int .i64 zs[j])) (hps : ∀ j (h : j < ps.length), w.cell? ⟨b', off' + j, none⟩ = some (.int .i64 ps[j]))
    (h0 : 0 < zs.length) (hl : zs.length ≤ 6) (hpl : ps.length = zs.length) (hcc : ∀ c ∈ zs, 1 ≤ c ∧ c ≤ 40) (hpp : ∀ q ∈ ps, 0 ≤ q ∧ q ≤ 200) (hs1 : s ≤ 200)
    (hck : ∀ W, Below w.heap.size w W → CallsIn F (n - 1) Try.prog 56 #[.slice (some ⟨b, off, none⟩) zs.length cap, .int .i64 s] W fun e w' => e = .returned (.int .i64 0) ∧ Below W.heap.size W w')
    (hct : ∀ W, Below w.heap.size w W → CallsIn F (n - 1) Try.prog 68 #[.slice (some ⟨b, off, none⟩) zs.length cap, .slice (some ⟨b', off', none⟩) zs.length cap'] W fun e w' => e = .returned (.int .i64 0) ∧ Below W.heap.size W w')
    (hrep : ∀ W b1, Row W b1 1 1 (fun _ => -1) → CallsIn F (n - 1) Try.prog 52 #[.slice (some ⟨b1, 0, none⟩) 1 1, .int .i64 (s + 1)] W fun e w' => ∃ b2 cap2, e = .returned (.slice (some ⟨b2, 0, none⟩) (s + 1) cap2) ∧ W.heap.size ≤ b2 ∧ Row w' b2 cap2 (s + 1) (fun _ => -1) ∧ Below W.heap.size W w')
    (hcl : ∀ m W b1 cap1, Row W b1 cap1 (s + 1) (fun _ => -1) → CallsIn F m Try.prog 46 #[.slice (some ⟨b1, 0, none⟩) (s + 1) cap1] W fun e w' => ∃ b2 cap2, e = .returned (.slice (some ⟨b2, 0, none⟩) (s + 1) cap2) ∧ W.heap.size ≤ b2 ∧ Row w' b2 cap2 (s + 1) (fun _ => -1) ∧ Below W.heap.size W w') :
    CallsIn F n Try.prog 41 #[.slice (some ⟨b, off, none⟩) zs.length cap, .slice (some ⟨b', off', none⟩) zs.length cap', .int .i64 s] w fun e w' => Below w.heap.size w w' ∧
      ((bc zs ps s < 0 ∧ e = .returned (.tuple #[.slice none 0 0, .int .i64 12])) ∨ (¬ bc zs ps s < 0 ∧ ∃ v, e = .returned (.tuple #[v, .int .i64 0]) ∧ w'.ownsRow (w.heap.size + 2) 3 1 v (pout zs ps s).length ((pout zs ps s).map (Value.int .i64)))) := by
  have h1 : 1 ≤ n := by omega
  have hmk : ∀ W : World, (Instr.makeSlice 75 (.int .i64 ((zs.length : Int) + 1)) (.int .i64 ((zs.length : Int) + 1))).run Try.prog W = .ok (.slice (some ⟨W.heap.size, 0, none⟩) (zs.length + 1) (zs.length + 1)) (W.alloc (.cells (List.replicate (zs.length + 1) (Value.slice none 0 0)).toArray 22)) := fun W => by
    obtain ⟨i0, hi, hz0, hz1, hz2⟩ := info_parts (show (Try.prog.info? 22).map (fun i => (i.zero, i.size, i.bytes)) = some (some (.slice none 0 0), 1, 24) by kernel_rfl)
    have h := run_make (P := Try.prog) W 75 22 i0 (.slice none 0 0) (by kernel_rfl) hi hz0 .i64 .i64 ((zs.length : Int) + 1) ((zs.length : Int) + 1) (by omega) (Int.le_refl _) (by rw [hz2]; omega) (by omega)
    have e1 : ((zs.length : Int) + 1).toNat = zs.length + 1 := by omega
    simp only [e1, hz1, Nat.mul_one] at h
    rw [h]
    have : madeCells (Value.slice none 0 0).cells (zs.length + 1) = (List.replicate (zs.length + 1) (Value.slice none 0 0)).toArray := by
      apply Array.toList_inj.1
      rw [show (Value.slice none 0 0).cells = #[.slice none 0 0] from rfl, toList_madeCells_one]
    rw [this]
  refine callsIn_of_wp_marks Try.func41 rfl h41 ?_ hro
  simp only [Try.ntmps41, List.size_toArray, List.length_cons, List.length_nil, Nat.reduceAdd, Nat.reduceSub, Array.replicate_succ, Array.replicate_zero, List.push_toArray, List.append_toArray, List.nil_append, List.cons_append]
  have a1 : Below w.heap.size w ((w.alloc (.cells #[.slice (some ⟨b', off', none⟩) zs.length cap'] 22)).alloc (.cells #[.int .i64 s] 3)) := ((Below.refl _ w).alloc (Nat.le_refl _) _).alloc (by simp) _
  have a4 : Blk ((w.alloc (.cells #[.slice (some ⟨b', off', none⟩) zs.length cap'] 22)).alloc (.cells #[.int .i64 s] 3)) w.heap.size #[.slice (some ⟨b', off', none⟩) zs.length cap'] 22 := (Blk.new w _ _).alloc _
  have a5 : Blk ((w.alloc (.cells #[.slice (some ⟨b', off', none⟩) zs.length cap'] 22)).alloc (.cells #[.int .i64 s] 3)) (w.heap.size + 1) #[.int .i64 s] 3 := by
    have := Blk.new (w.alloc (.cells #[.slice (some ⟨b', off', none⟩) zs.length cap'] 22)) #[.int .i64 s] 3
    rwa [World.size_alloc] at this
  generalize hWb : (w.alloc (.cells #[.slice (some ⟨b', off', none⟩) zs.length cap'] 22)).alloc (.cells #[.int .i64 s] 3) = Wb at a1 a4 a5
  have aB : Wb.heap.size = w.heap.size + 2 := by rw [← hWb]; simp
  have e4 := a4.cell 0 rfl
  have e5 := a5.cell 0 rfl
  gi_wp2_with (first
    | (gi_at_call 56; refine (hck _ a1).mono ?_; rintro e w2 ⟨rfl, hB1⟩;
        have b4 := a4.below hB1 (by omega); have b5 := a5.below hB1 (by omega); have f4 := b4.cell 0 rfl; have f5 := b5.cell 0 rfl;
        have hB2 : Below w.heap.size w w2 := a1.trans (hB1.mono (by omega)))
    | (gi_at_call 68; refine (hct _ hB2).mono ?_; rintro e w3 ⟨rfl, hB3⟩;
        have c4 := b4.below hB3 b4.lt; have c5 := b5.below hB3 b5.lt; have g4 := c4.cell 0 rfl; have g5 := c5.cell 0 rfl; have g6 := (c5.alloc (.cells #[.int .i64 (-1)] 3)).cell 0 rfl;
        have hB4 : Below w.heap.size w w3 := hB2.trans (hB3.mono (by have := b4.lt; omega)))
    | (gi_at_call 52; refine (hrep _ _ (Row.one w3 (-1) 3)).mono ?_; rintro e w4 ⟨b2, cap2, rfl, hb2, hr4, hB5⟩;
        have d4 := (c4.alloc _).below hB5 (by have := c4.lt; simp; omega); have d5 := (c5.alloc _).below hB5 (by have := c5.lt; simp; omega); have k4 := d4.cell 0 rfl; have k5 := d5.cell 0 rfl;
        have hB6 : Below w.heap.size w w4 := (hB4.alloc (by have := c4.lt; omega) _).trans (hB5.mono (by have := c4.lt; simp; omega))))
  generalize hg : w4.heap.size = g at *
  generalize hWc : World.alloc (World.alloc (World.alloc w4 _) _) _ = Wc
  have c10 : Blk Wc g #[.slice (some ⟨b2, 0, none⟩) (s + 1) cap2] 22 := by
    rw [← hWc, ← hg]
    exact ((Blk.new w4 _ _).alloc _).alloc _
  have ctb : Blk Wc (g + 1) (Array.replicate (zs.length + 1) (.slice none 0 0)) 22 := by
    rw [← hWc, ← hg]
    have := Blk.new (w4.alloc (.cells #[.slice (some ⟨b2, 0, none⟩) (s + 1) cap2] 22)) (Array.replicate (zs.length + 1) (.slice none 0 0)) 22
    rw [World.size_alloc] at this
    exact this.alloc _
  have c11 : Blk Wc (g + 2) #[.slice (some ⟨g + 1, 0, none⟩) (zs.length + 1) (zs.length + 1)] 75 := by
    rw [← hWc, ← hg]
    have := Blk.new ((w4.alloc (.cells #[.slice (some ⟨b2, 0, none⟩) (s + 1) cap2] 22)).alloc (.cells (Array.replicate (zs.length + 1) (.slice none 0 0)) 22)) #[.slice (some ⟨w4.heap.size + 1, 0, none⟩) (zs.length + 1) (zs.length + 1)] 75
    simp only [World.size_alloc, Nat.add_assoc, Nat.reduceAdd] at this
    exact this
  have crow : Row Wc b2 cap2 (s + 1) (fun _ => -1) := by
    rw [← hWc]
    exact ((hr4.kept (World.grownBy_alloc _ _ none) (by simp)).kept (World.grownBy_alloc _ _ none) (by simp)).kept (World.grownBy_alloc _ _ none) (by simp)
  have ce4 : Blk Wc w.heap.size #[.slice (some ⟨b', off', none⟩) zs.length cap'] 22 := by rw [← hWc]; exact ((d4.alloc _).alloc _).alloc _
  have ce5 : Blk Wc (w.heap.size + 1) #[.int .i64 s] 3 := by rw [← hWc]; exact ((d5.alloc _).alloc _).alloc _
  have hlt4 := d5.lt
  have hBc : Below w.heap.size w Wc := by rw [← hWc]; exact ((hB6.alloc (by omega) _).alloc (by simp; omega) _).alloc (by simp; omega) _
  have hszc : Wc.heap.size = g + 3 := by rw [← hWc, ← hg]; simp
  have hb2lt := hr4.lt
  clear hWc hr4 d4 d5 k4 k5 hB6 hB5 hB4 hB3 hB2 hB1 a1 a4 a5 b4 b5 c4 c5 e4 e5 f4 f5 g4 g5 g6
  simp only [Nat.add_assoc, Nat.reduceAdd]
  have hrp : (Array.replicate (zs.length + 1) (Value.slice none 0 0))[zs.length]? = some (Value.slice none 0 0) := by simp
  refine wpIn_nrm (reg9 h1 h46 hro (hcl (n - 1)) c10 c11 ctb hrp crow _ (fun a' w' h => h) (by show 47 < 189; omega) rfl rfl rfl) ?_
  rintro _ W3 ⟨⟨u0, u1, u2, u3, u4, u5, rfl⟩, b3, cap3, W2, hB7, hb3, hr5, rfl⟩
  simp only [put6, List.setIfInBounds_toArray, List.set_cons_succ, List.set_cons_zero, Nat.reduceAdd]
  have hw0 : w.heap.size + 1 < g := by omega
  have hb2lt : b2 < g := by omega
  have hB0 : Boxes w b' off' cap' zs.length s g b2 cap2 Wc := ⟨ce4, ce5, c10, crow, c11, by omega, hBc⟩
  have hB3 : Boxes w b' off' cap' zs.length s g b2 cap2 (W2.setCell ⟨g + 1, zs.length, none⟩ (.slice (some ⟨b3, 0, none⟩) (s + 1) cap3)) := (hB0.below hw0 hb2lt hB7).set hw0 hb2lt (g + 1) zs.length _ (.inr rfl)
  have ctb3 := (ctb.below hB7 (by omega)).set zs.length (.slice (some ⟨b3, 0, none⟩) (s + 1) cap3)
  have hr6 : Row (W2.setCell ⟨g + 1, zs.length, none⟩ (.slice (some ⟨b3, 0, none⟩) (s + 1) cap3)) b3 cap3 (s + 1) (fun _ => -1) := hr5.other zs.length _ (by omega)
  have hs7 := hB7.size
  have hs2 : (W2.setCell ⟨g + 1, zs.length, none⟩ (.slice (some ⟨b3, 0, none⟩) (s + 1) cap3)).heap.size = W2.heap.size := by simp
  have hrs : (((Array.replicate (zs.length + 1) (Value.slice none 0 0)).setIfInBounds zs.length (.slice (some ⟨b3, 0, none⟩) (s + 1) cap3)))[zs.length]? = some (.slice (some ⟨b3, 0, none⟩) (s + 1) cap3) := by simp [Array.getElem?_setIfInBounds_self_of_lt]
  clear c10 crow c11 ce4 ce5 hck hct hrep hB0 hB7 hr5 hBc ctb
  generalize W2.setCell ⟨g + 1, zs.length, none⟩ (.slice (some ⟨b3, 0, none⟩) (s + 1) cap3) = W3 at *
  have x11 := hB3.tab.cell 0 rfl
  have xtb := ctb3.cell zs.length hrs
  have xr := hr6.cell (i := 0) (by omega)
  have xf := hr6.frozen 0
  go_at_K
  gi_wp2_with (gi_at_call 72; refine (back_in F (n - 1) h72 hro _ _ _ _).mono ?_; rintro e w' ⟨rfl, rfl⟩)
  generalize hW4 : World.alloc (W3.setCell ⟨b3, 0, none⟩ (.int .i64 0)) _ = W4
  have hs4 : W4.heap.size = W3.heap.size + 1 := by rw [← hW4]; simp
  have hB4 : Boxes w b' off' cap' zs.length s g b2 cap2 W4 := by
    rw [← hW4]
    exact (hB3.set hw0 hb2lt b3 0 (.int .i64 0) (.inl (by omega))).kept hw0 hb2lt (World.grownBy_alloc _ _ none) (fun r e => by cases e)
  have hbk : Blk W4 W2.heap.size #[.slice (some ⟨b, off, none⟩) zs.length cap] 22 := by
    rw [← hW4, ← hs2]
    have := Blk.new (W3.setCell ⟨b3, 0, none⟩ (.int .i64 0)) #[.slice (some ⟨b, off, none⟩) zs.length cap] 22
    simpa using this
  have hT4 : Tab zs ps s zs.length (g + 1) (g + 3) zs.length W4 := by
    refine ⟨_, by rw [← hW4]; exact (ctb3.other 0 (.int .i64 0) (by omega)).alloc _, by simp, fun j hj hj' => ?_⟩
    obtain rfl : j = zs.length := by omega
    refine ⟨b3, cap3, hrs, by omega, ?_⟩
    rw [← hW4]
    refine ((hr6.set 0 0).kept (World.grownBy_alloc _ _ none) (by simp)).congr fun x hx => ?_
    rw [List.drop_of_length_le (Nat.le_refl _)]
    simp only [bc]
    by_cases e : x = 0
    · subst e
      rfl
    · rw [if_neg e, show ((x : Int) == 0) = false by simpa using e]
      rfl
  clear ctb3 hr6 hrs xtb xr xf x11 hB3 hW4
  have hcs4 : ∀ j (h : j < zs.length), W4.cell? ⟨b, off + j, none⟩ = some (.int .i64 zs[j]) := fun j hj => (hB4.low.cell (p := ⟨b, off + j, none⟩) hb).trans (hcs j hj)
  have hs44 := hB4.size
  refine rangeBack hro (by omega) h78 (zs := zs) (b := b) (off := off) (cap := cap) (Bs := W2.heap.size) (n₀ := w.heap.size) (by omega) rfl rfl hb (by omega) (by omega) (hbk.cell 0 rfl) hcs4
    (fun k W => Boxes w b' off' cap' zs.length s g b2 cap2 W ∧ Tab zs ps s zs.length (g + 1) (g + 3) k W ∧ W2.heap.size < W.heap.size) ?own ⟨hB4, hT4, by omega⟩ ?a1 ?assign ?body ?done
  case own =>
    rintro k W W' row ⟨k1, k2, k3⟩ hg hr
    exact ⟨k1.kept hw0 hb2lt hg (fun r e => .inl (by have := (hr r e).1; omega)), k2.ownc hg (fun r e => (hr r e).2), Nat.lt_of_lt_of_le k3 hg.size⟩
  case assign =>
    intro l x W K hK
    gi_wp2
    exact hK
  case body =>
    rintro l k hk W ⟨k1, ⟨cur0, t1, t2, t3⟩, k3⟩
    gi_wp2
    refine wpIn_nrm (reg14 (F := F.inRound l) (n := n - 1 - 1) (l := l) (i := k) (by omega) h46 rfl (fun W b1 cap1 h => CallsIn.inRound l (hcl (n - 1 - 1 - 1) W b1 cap1 h)) k1.none k1.tab t1 (by rw [Array.getElem?_eq_getElem (by omega)]) hk k1.row _ (fun a' w' h => h) (by show 62 < 189; omega) rfl rfl rfl) ?_
    rintro _ W5 ⟨⟨y0, y1, y2, y3, y4, rfl⟩, r, cp, W6, hB6, hr6, hrow6, rfl⟩
    simp only [put5, List.setIfInBounds_toArray, List.set_cons_succ, List.set_cons_zero, Nat.reduceAdd]
    have hk1s := k1.size
    have hR : Rnd w b' off' cap' zs ps s g b2 cap2 W4.heap.size W2.heap.size k r cp (cur0.setIfInBounds k (.slice (some ⟨r, 0, none⟩) (s + 1) cp)) W (fun _ => -1) (W6.setCell ⟨g + 1, k, none⟩ (.slice (some ⟨r, 0, none⟩) (s + 1) cp)) := by
      refine ⟨(k1.below hw0 hb2lt hB6).set hw0 hb2lt (g + 1) k _ (.inr rfl), (t1.below hB6 (by omega)).set k _, fun j h1 h2 => ?_, hrow6.other k _ (by omega), ?_⟩
      · obtain ⟨ρ, cp', e1, e2, e3⟩ := t3 j h1 h2
        exact ⟨ρ, cp', by rw [Array.getElem?_setIfInBounds_ne (by omega)]; exact e1, e2, by have := e3.lt; omega, (e3.below hB6 e3.lt).other k _ (by omega)⟩
      · exact Chg.set ⟨⟨hB6.size, fun j o _ ho _ => (hB6.block j (Array.getElem?_eq_some_iff.1 ho).1).trans ho⟩, hB6.mono (by omega), hB6.block _ k3⟩ (g + 1) k _ (by omega) (by omega)
    generalize W6.setCell ⟨g + 1, k, none⟩ (.slice (some ⟨r, 0, none⟩) (s + 1) cp) = W7 at *
    have hcurk : (cur0.setIfInBounds k (.slice (some ⟨r, 0, none⟩) (s + 1) cp))[k]? = some (.slice (some ⟨r, 0, none⟩) (s + 1) cp) := Array.getElem?_setIfInBounds_self_of_lt (by omega)
    have hcsz : (cur0.setIfInBounds k (.slice (some ⟨r, 0, none⟩) (s + 1) cp)).size = zs.length + 1 := by simpa using t2
    generalize cur0.setIfInBounds k (.slice (some ⟨r, 0, none⟩) (s + 1) cp) = cur at *
    clear t1 t2 t3 hrow6 hB6
    go_at_K
    have f5 := hR.box.sum.cell 0 rfl
    have hkp : k < ps.length := by omega
    obtain ⟨hc1, hc2⟩ := hcc zs[k] (List.getElem_mem _)
    obtain ⟨hq1, hq2⟩ := hpp ps[k] (List.getElem_mem _)
    obtain ⟨c, hcz⟩ := Int.eq_ofNat_of_zero_le (show 0 ≤ zs[k] by omega)
    obtain ⟨q, hqz⟩ := Int.eq_ofNat_of_zero_le hq1
    have hG : ∀ x : Int, bc (zs.drop k) (ps.drop k) x = pcell (bc (zs.drop (k + 1)) (ps.drop (k + 1))) q c x (x.toNat + 1) 0 (-1) := fun x => by
      rw [List.drop_eq_getElem_cons hk, List.drop_eq_getElem_cons hkp, bc, hcz]
      simp [hqz]
    have hfb := bc_bd (zs.drop (k + 1)) (ps.drop (k + 1)) (fun d hd => (hcc d (List.mem_of_mem_drop hd)).1)
    have hpc : ∀ wr, Below w.heap.size w wr → wr.cell? ⟨b', off' + k, none⟩ = some (.int .i64 q) := fun wr hwr => by
      have := (hwr.cell (p := ⟨b', off' + k, none⟩) hb').trans (hps k hkp)
      rw [hqz] at this
      exact this
    obtain ⟨ρ, cpr, hcur1, hρ1, hρ2, _⟩ := hR.rows (k + 1) (Nat.le_refl _) hk
    have hcf : ∀ wr G, Rnd w b' off' cap' zs ps s g b2 cap2 W4.heap.size W2.heap.size k r cp cur W G wr → ∀ d, d < s + 1 → wr.cell? ⟨ρ, d, none⟩ = some (.int .i64 (bc (zs.drop (k + 1)) (ps.drop (k + 1)) d)) := fun wr G hr d hd => by
      obtain ⟨ρ', cp', e1, _, _, e4⟩ := hr.rows (k + 1) (Nat.le_refl _) hk
      rw [hcur1] at e1
      cases e1
      exact e4.cell hd
    rw [hcz] at hc1 hc2
    rw [hqz] at hq2
    generalize hf : bc (zs.drop (k + 1)) (ps.drop (k + 1)) = f at hG hfb hcf
    simp only [hcz]
    have hrb : g + 3 ≤ r := by omega
    have hrn : r ≠ W2.heap.size := by omega
    clear hq1 hcs hps hcs4 hmk hT4 hB4 hbk k1
    gi_wp2
    gi_loopw [65] (fun v wr => ∃ t : Nat, v = .int .i64 t ∧ t ≤ s + 1 ∧ Rnd w b' off' cap' zs ps s g b2 cap2 W4.heap.size W2.heap.size k r cp cur W (fun x => if x < t then bc (zs.drop k) (ps.drop k) x else -1) wr)
      (fun v _ => s + 1 - (intOf v).toNat)
    case atStart => exact ⟨0, rfl, by omega, hR.congr fun i _ => by simp⟩
    case round =>
      obtain ⟨t, rfl, ht, hr⟩ := hrel
      obtain ⟨wi, rfl⟩ : ∃ wi, wi = wr := ⟨wr, rfl⟩
      by_cases hts : t < s + 1
      · gi_wp2
        gi_loopw [15] (fun v wr => ∃ (m : Nat) (cv : Int), v = .int .i64 m ∧ m ≤ t + 1 ∧ pcell f q c t (t + 1 - m) m cv = bc (zs.drop k) (ps.drop k) t ∧ -1 ≤ cv ∧ cv ≤ t ∧
            Rnd w b' off' cap' zs ps s g b2 cap2 W4.heap.size W2.heap.size k r cp cur W (fun x => if x < t then bc (zs.drop k) (ps.drop k) x else if x = t then cv else -1) wr)
          (fun v _ => t + 2 - (intOf v).toNat)
        case atStart =>
          refine ⟨0, -1, rfl, by omega, ?_, by omega, by omega, hr.congr fun i _ => ?_⟩
          · rw [hG]
            rfl
          · simp
        case round =>
          obtain ⟨m, cv, rfl, hm, hpv, hv1, hv2, hr2⟩ := hrel
          obtain ⟨wj, rfl⟩ : ∃ wj, wj = wr := ⟨wr, rfl⟩
          have j4 := hr2.box.ps.cell 0 rfl
          have jp := hpc wj hr2.box.low
          have j11 := hr2.box.tab.cell 0 rfl
          have jt := hr2.tab.cell k hcurk
          have jt1 := hr2.tab.cell (k + 1) hcur1
          have jr : wj.cell? ⟨r, t, none⟩ = some (.int .i64 cv) := by
            have := hr2.row.cell hts
            rw [if_neg (by omega), if_pos rfl] at this
            exact this
          have jf := hr2.row.frozen t
          obtain ⟨p, hp⟩ : ∃ p : Nat, (m : Int) * (c : Int) = p := ⟨m * c, by simp⟩
          have hp1 : m ≤ p := by
            have : (m : Int) * 1 ≤ (m : Int) * (c : Int) := Int.mul_le_mul_of_nonneg_left hc1 (by omega)
            omega
          have hp2 : p ≤ 8040 := by
            have : (m : Int) * (c : Int) ≤ 201 * 40 := Int.mul_le_mul (by omega) hc2 (by omega) (by omega)
            omega
          by_cases hmq : m ≤ q
          · by_cases hmp : p ≤ t
            · obtain ⟨d, hd⟩ : ∃ d : Nat, (t : Int) - (p : Int) = d := ⟨t - p, by omega⟩
              have jd := hcf wj _ hr2 d (by omega)
              obtain ⟨hfd1, hfd2⟩ := hfb d (by omega)
              have hgo := pcell_go (f := f) (cur := cv) (show (m : Int) ≤ (q : Int) by omega) (show (m : Int) * (c : Int) ≤ (t : Int) by omega) (t - m)
              rw [show (t : Int) - (m : Int) * (c : Int) = (d : Int) by omega, show t - m + 1 = t + 1 - m by omega, hpv] at hgo
              have hfm : f d + (m : Int) ≤ t := by omega
              generalize hfd : f d = fd at *
              clear hpv
              by_cases a1 : 0 ≤ fd
              · by_cases a2 : cv < 0
                · have hu : upd1 cv fd m = fd + m := by simp [upd1, a1, a2]
                  have hset := (hr2.set hw0 hb2lt hrb hrn t (fd + m)).congr (G' := fun x => if x < t then bc (zs.drop k) (ps.drop k) x else if x = t then fd + m else -1) (fun i _ => row_upd (G := fun x => bc (zs.drop k) (ps.drop k) x) i)
                  rw [hu] at hgo
                  gi_wp2
                  exact ⟨⟨m + 1, fd + m, by simp, by omega, by rw [hgo]; congr 1; omega, by omega, by omega, hset⟩, by simp [intOf]; omega⟩
                · by_cases a3 : fd + m < cv
                  · have hu : upd1 cv fd m = fd + m := by simp [upd1, a1, a2, a3]
                    have hset := (hr2.set hw0 hb2lt hrb hrn t (fd + m)).congr (G' := fun x => if x < t then bc (zs.drop k) (ps.drop k) x else if x = t then fd + m else -1) (fun i _ => row_upd (G := fun x => bc (zs.drop k) (ps.drop k) x) i)
                    rw [hu] at hgo
                    gi_wp2
                    exact ⟨⟨m + 1, fd + m, by simp, by omega, by rw [hgo]; congr 1; omega, by omega, by omega, hset⟩, by simp [intOf]; omega⟩
                  · have hu : upd1 cv fd m = cv := by simp [upd1, a1, a2, a3]
                    rw [hu] at hgo
                    gi_wp2
                    exact ⟨⟨m + 1, cv, by simp, by omega, by rw [hgo]; congr 1; omega, by omega, by omega, hr2⟩, by simp [intOf]; omega⟩
              · have hu : upd1 cv fd m = cv := by simp [upd1, a1]
                rw [hu] at hgo
                gi_wp2
                exact ⟨⟨m + 1, cv, by simp, by omega, by rw [hgo]; congr 1; omega, by omega, by omega, hr2⟩, by simp [intOf]; omega⟩
            · rw [pcell_stop (.inr (by omega))] at hpv
              gi_wp2
              exact ⟨⟨t + 1, by simp, by omega, hr2.congr fun x _ => row_next hpv x⟩, by simp [intOf]; omega⟩
          · rw [pcell_stop (.inl (by omega))] at hpv
            gi_wp2
            exact ⟨⟨t + 1, by simp, by omega, hr2.congr fun x _ => row_next hpv x⟩, by simp [intOf]; omega⟩
      · obtain rfl : t = s + 1 := by omega
        gi_wp2
        have hzz := hr.chg.size
        refine ⟨hr.chg.kf, hr.chg.kp, hr.box, ⟨cur, hr.tab, hcsz, fun j h1 h2 => ?_⟩, by omega⟩
        by_cases e : j = k
        · subst e
          exact ⟨r, cp, hcurk, hrb, hr.row.congr fun x hx => by rw [if_pos hx]⟩
        · obtain ⟨ρ', cp', e1, e2, e3, e4⟩ := hr.rows j (by omega) h2
          exact ⟨ρ', cp', e1, e2, e4⟩
  case done =>
    rintro D W hD ⟨k1, ⟨cur, t1, t2, t3⟩, k3⟩ hK
    obtain ⟨r0, cp0, hcur0, hr0, hrow0⟩ := t3 0 (Nat.zero_le _) (Nat.zero_le _)
    rw [List.drop_zero, List.drop_zero] at hrow0
    have j5 := k1.sum.cell 0 rfl
    have j11 := k1.tab.cell 0 rfl
    have jt := t1.cell 0 hcur0
    have jr := hrow0.cell (i := s) (by omega)
    have hF0 : Fin41 w zs ps s g W.heap.size cur s W := ⟨k1.sum, k1.tab, t1, fun j hj => by
      obtain ⟨ρ, cp, a1, a2, a3⟩ := t3 j (Nat.zero_le _) hj
      exact ⟨ρ, cp, a1, a2, a3.lt, a3⟩, k1.low, Nat.le_refl _⟩
    have hgW := k1.size
    have hbd := bc_bd zs ps (fun d hd => (hcc d hd).1) s (by omega)
    obtain ⟨i0, hi0, hz0, hz1, hz2⟩ := info_parts (show (Try.prog.info? 3).map (fun i => (i.zero, i.size, i.bytes)) = some (some (.int .i64 0), 1, 8) by kernel_rfl)
    have hu22 : Try.prog.underlying 22 = some (.slice 3) := by kernel_rfl
    clear t3 k3 hcs4 hT4 hB4 hbk hmk
    generalize hvb : bc zs ps s = vb at *
    gi_wp2
    refine wpIn_puts (fun A W a' w' => (∃ u0 u1 u2 u3 u4 u5, a' = puts A [(130, u0), (131, u1), (132, u2), (133, u3), (134, u4), (135, u5), (136, .bool (decide (vb < 0)))]) ∧ w' = W.drew) ?_ ?_
    · gi_region
      all_goals (refine ⟨⟨.slice (some ⟨g + 1, 0, none⟩) (zs.length + 1) (zs.length + 1), .pointer (some ⟨g + 1, 0, none⟩), .slice (some ⟨r0, 0, none⟩) (s + 1) cp0, .int .i64 s, .pointer (some ⟨r0, s, none⟩), .int .i64 vb, ?_⟩, rfl⟩)
      all_goals (simp [puts, Act.put])
    rintro _ _ ⟨⟨u0, u1, u2, u3, u4, u5, rfl⟩, rfl⟩
    simp only [puts, List.foldl_cons, List.foldl_nil, List.setIfInBounds_toArray, List.set_cons_succ, List.set_cons_zero]
    go_at_K
    clear j5 j11 jt jr hrow0 hcur0
    have hKd : W.drew.heap[D]? = some (.deferred (some [])) := hK
    have hF1 : Fin41 w zs ps s g W.heap.size cur s W.drew := hF0.drew
    have hDlt : D < W.heap.size := (Array.getElem?_eq_some_iff.1 hK).1
    by_cases hneg : vb < 0
    · gi_wp2
      refine ⟨by simp, .inl ⟨_, _, rfl, run_takeDeferred hKd, ?_⟩⟩
      exact ⟨_, results_tmp2 rfl _ _ _, hF1.low.trans (belowK_b (w := w) (Nat.le_refl _) W.drew D _ (.deferred none) (by omega) hKd rfl rfl), .inl rfl⟩
    · gi_wp2
      have hF2 : F = Fence.wide := hF
      clear hF
      subst hF2
      gi_loopw [139, 17] (fun iv ov wr => ∃ (k t : Nat) (xs : List Int) (ov' : Value), ov' = ov ∧ iv = .int .i64 k ∧ k ≤ zs.length ∧ t ≤ s ∧ wr.ownsRow W.heap.size 3 1 ov xs.length (xs.map (Value.int .i64)) ∧ xs.length ≤ k ∧
          pout zs ps s = xs ++ pout (zs.drop k) (ps.drop k) t ∧ Fin41 w zs ps s g W.heap.size cur t wr ∧ wr.heap[D]? = some (.deferred (some [])))
        (fun iv _ _ => zs.length - (intOf iv).toNat)
      case atStart => exact ⟨0, s, [], _, rfl, rfl, Nat.zero_le _, Nat.le_refl _, World.ownsRow_nil _ _ _ _, Nat.le_refl _, by simp, hF1, hKd⟩
      case round =>
        obtain ⟨k, t, xs, ov, rfl, rfl, hk, hts, hown, hxk, hpo, hfin, hdd⟩ := hrel
        obtain ⟨wi, rfl⟩ : ∃ wi, wi = wr := ⟨wr, rfl⟩
        by_cases hkl : k < zs.length
        · have hkp : k < ps.length := by omega
          have hcoin : wi.cell? ⟨b, off + k, none⟩ = some (.int .i64 zs[k]) := (hfin.low.cell (p := ⟨b, off + k, none⟩) hb).trans (hcs k hkl)
          obtain ⟨hc1, hc2⟩ := hcc zs[k] (List.getElem_mem _)
          rw [pout_cons hkl hkp] at hpo
          obtain ⟨c, hcz⟩ := Int.eq_ofNat_of_zero_le (show 0 ≤ zs[k] by omega)
          rw [hcz] at hcoin hc1 hc2 hpo
          have hfb := bc_bd (zs.drop (k + 1)) (ps.drop (k + 1)) (fun d hd => (hcc d (List.mem_of_mem_drop hd)).1)
          have hbt := bc_bd (zs.drop k) (ps.drop k) (fun d hd => (hcc d (List.mem_of_mem_drop hd)).1) t (by omega)
          have hpo' : ∀ r, pfind (bc (zs.drop (k + 1)) (ps.drop (k + 1))) c (bc (zs.drop k) (ps.drop k) t) t (t + 1) 0 = r → pout zs ps s = xs ++ nxt41 (zs.drop (k + 1)) (ps.drop (k + 1)) t c r := fun r hr => by
            rw [hpo, Int.toNat_natCast, hr]
            rfl
          clear hpo
          have hfr : ∀ wr, Fin41 w zs ps s g W.heap.size cur t wr → ∀ d, d < s + 1 → ∃ ρ cp, wr.cell? ⟨g + 1, k + 1, none⟩ = some (.slice (some ⟨ρ, 0, none⟩) (s + 1) cp) ∧ wr.cell? ⟨ρ, d, none⟩ = some (.int .i64 (bc (zs.drop (k + 1)) (ps.drop (k + 1)) d)) := fun wr hr d hd => by
            obtain ⟨ρ, cp, e1, _, _, e4⟩ := hr.rows (k + 1) hkl
            exact ⟨ρ, cp, hr.tb.cell (k + 1) e1, e4.cell hd⟩
          have hft : ∀ wr, Fin41 w zs ps s g W.heap.size cur t wr → ∃ ρ cp, wr.cell? ⟨g + 1, k, none⟩ = some (.slice (some ⟨ρ, 0, none⟩) (s + 1) cp) ∧ wr.cell? ⟨ρ, t, none⟩ = some (.int .i64 (bc (zs.drop k) (ps.drop k) t)) := fun wr hr => by
            obtain ⟨ρ, cp, e1, _, _, e4⟩ := hr.rows k hk
            exact ⟨ρ, cp, hr.tb.cell k e1, e4.cell (by omega)⟩
          generalize hf : bc (zs.drop (k + 1)) (ps.drop (k + 1)) = f at hpo' hfb hfr
          generalize htt : bc (zs.drop k) (ps.drop k) t = tt at hpo' hft hbt
          gi_wp2
          gi_loopw [20, 17] (fun v ov2 wr => ∃ m : Nat, v = .int .i64 m ∧ ov = ov2 ∧ m ≤ t + 1 ∧ pfind f c tt t (t + 1 - m) m = pfind f c tt t (t + 1) 0 ∧ wr.ownsRow W.heap.size 3 1 ov xs.length (xs.map (Value.int .i64)) ∧ Fin41 w zs ps s g W.heap.size cur t wr ∧ wr.heap[D]? = some (.deferred (some [])))
            (fun v _ _ => t + 2 - (intOf v).toNat)
          case atStart => exact ⟨0, rfl, rfl, Nat.zero_le _, rfl, hown, hfin, hdd⟩
          case round =>
            clear hown hfin hdd hcoin
            obtain ⟨m, rfl, rfl, hm, hpf, hown, hfin, hdd⟩ := hrel
            obtain ⟨wj, rfl⟩ : ∃ wj, wj = wr := ⟨wr, rfl⟩
            have f5 := hfin.sum.cell 0 rfl
            have f11 := hfin.tab.cell 0 rfl
            obtain ⟨p, hp⟩ : ∃ p : Nat, (m : Int) * (c : Int) = p := ⟨m * c, by simp⟩
            have hp1 : m ≤ p := by
              have : (m : Int) * 1 ≤ (m : Int) * (c : Int) := Int.mul_le_mul_of_nonneg_left hc1 (by omega)
              omega
            have hp2 : p ≤ 8040 := by
              have : (m : Int) * (c : Int) ≤ 201 * 40 := Int.mul_le_mul (by omega) hc2 (by omega) (by omega)
              omega
            by_cases hmp : p ≤ t
            · obtain ⟨d, hd⟩ : ∃ d : Nat, (t : Int) - (p : Int) = d := ⟨t - p, by omega⟩
              obtain ⟨ρ1, cp1, y1, y2⟩ := hfr wj hfin d (by omega)
              obtain ⟨ρ0, cp0, z1, z2⟩ := hft wj hfin
              obtain ⟨hfd1, hfd2⟩ := hfb d (by omega)
              have hgo := pfind_go (f := f) (t := tt) (show (m : Int) * (c : Int) ≤ (t : Int) by omega)
              have hhit := pfind_hit (f := f) (t := tt) (show (m : Int) * (c : Int) ≤ (t : Int) by omega)
              rw [show (t : Int) - (m : Int) * (c : Int) = (d : Int) by omega] at hgo hhit
              generalize hfd : f d = fd at *
              gi_wp2
              refine reg34 (k := k) (L := zs.length) (s := s) (by omega) (by omega) hp hd (by omega) (by omega) (by omega) f11 f5 y1 y2 ?_
              go_at_K
              clear f5 f11 y1 y2 z1 z2
              have hfin1 := hfin.drew
              have hown1 := hown.drew
              have hdd1 : wj.drew.heap[D]? = some (.deferred (some [])) := hdd
              clear hfin hown hdd
              generalize wj.drew = wk at *
              have f5 := hfin1.sum.cell 0 rfl
              have f11 := hfin1.tab.cell 0 rfl
              obtain ⟨ρ0, cp0, z1, z2⟩ := hft wk hfin1
              have hfin2 := hfin1.drew
              have hown2 := hown1.drew
              have hdd2 : wk.drew.heap[D]? = some (.deferred (some [])) := hdd1
              clear hfin1 hown1 hdd1
              by_cases a1 : 0 ≤ fd
              · obtain ⟨x, hx⟩ : ∃ x : Nat, fd + (m : Int) = x := ⟨(fd + m).toNat, by omega⟩
                have hx3 : x ≤ 402 := by omega
                gi_wp2
                refine reg35b (k := k) (L := zs.length) (s := s) (by omega) hx (by omega) a1 (by omega) f11 f5 z1 z2 ?_
                go_at_K
                clear f5 f11 z1 z2
                generalize wk.drew = wl at *
                have f5 := hfin2.sum.cell 0 rfl
                have ff := hfin2.sum.frozen 0
                by_cases heq : (x : Int) = tt
                · rw [show t + 1 - m = (t - m) + 1 by omega, hhit a1 (by omega)] at hpf
                  have hpo2 := hpo' (some m) hpf.symm
                  clear hpo' hfr hft hgo hhit
                  gi_wp2_with (gi_at_builtin; refine wpListIn_append_own _ rfl _ _ 22 rfl W.heap.size 3 i0 (.int .i64 0) 1 8 hu22 hi0 hz0 hz1 hz2 rfl (by decide) _ _ _ rfl (hown2.alloc _) ⟨wl.heap.size, 0, none⟩ 1 1 [.int .i64 m] rfl rfl ?c1 ?c2 ?c3 ?c4 ?c5 ?_)
                  case c1 =>
                    intro j u hj
                    match j, hj with
                    | 0, hj => simp at hj; subst hj; simp [Addr.add]
                  case c2 => intro u hu; simp at hu; subst hu; rfl
                  case c3 => unfold maxLen; omega
                  case c4 => omega
                  case c5 => have := hfin2.size; simp; omega
                  · intro v' w1 hown' hgrow _
                    have hrow : ∀ r, ov.ownBlock = some r → W.heap.size ≤ r := fun r e => (hown2.lt r e).1
                    have hfin3 := (hfin2.kept hw0 hgW (World.grownBy_alloc wl (.cells #[.int .i64 (m : Int)] 3) none) (fun r e => by cases e)).kept hw0 hgW hgrow hrow
                    have hdd3 : w1.heap[D]? = some (.deferred (some [])) := (hgrow.block D (by have := (Array.getElem?_eq_some_iff.1 hdd2).1; simp; omega) (fun e => by have := hrow D e.symm; omega)).trans ((hao_old wl _ D (Array.getElem?_eq_some_iff.1 hdd2).1).trans hdd2)
                    clear hgrow hown2 hfin2 hdd2 f5 ff
                    have f5 := hfin3.sum.cell 0 rfl
                    have ff := hfin3.sum.frozen 0
                    have hfin4 := hfin3.pay hw0 d
                    have hown4 := own_pay (w := w) hown' (by omega) (.int .i64 d)
                    have hdd4 : (w1.setCell ⟨w.heap.size + 1, 0, none⟩ (.int .i64 d)).heap[D]? = some (.deferred (some [])) := (heap_setCell_other w1 ⟨w.heap.size + 1, 0, none⟩ D _ (by show D ≠ w.heap.size + 1; omega)).trans hdd3
                    gi_wp2
                    refine ⟨⟨k + 1, d, xs ++ [(m : Int)], v', rfl, by simp, by omega, by omega, by simpa using hown4, by simp; omega, ?_, hfin4, hdd4⟩, by simp [intOf]; omega⟩
                    rw [hpo2]
                    simp only [nxt41, List.append_assoc, List.cons_append, List.nil_append]
                    rw [show (t : Int) - (m : Int) * (c : Int) = (d : Int) by omega]
                · have hpf2 := hgo (by omega) (t - m)
                  rw [show (t - m) + 1 = t + 1 - m by omega, hpf] at hpf2
                  gi_wp2
                  exact ⟨⟨m + 1, by simp, rfl, by omega, by rw [show t + 1 - (m + 1) = t - m by omega]; simpa using hpf2.symm, hown2, hfin2, hdd2⟩, by simp [intOf]; omega⟩
              · have hpf2 := hgo (by omega) (t - m)
                rw [show (t - m) + 1 = t + 1 - m by omega, hpf] at hpf2
                gi_wp2
                refine reg35a (v := fd) (by omega) ?_
                go_at_K
                gi_wp2
                exact ⟨⟨m + 1, by simp, rfl, by omega, by rw [show t + 1 - (m + 1) = t - m by omega]; simpa using hpf2.symm, hown2, hfin2, hdd2⟩, by simp [intOf]; omega⟩
            · rw [pfind_stop (by omega)] at hpf
              have hpo2 := hpo' none hpf.symm
              clear hpo' hfr hft
              gi_wp2
              exact ⟨⟨k + 1, t, xs, ov, rfl, by simp, by omega, hts, hown, by omega, hpo2, hfin, hdd⟩, by simp [intOf]; omega⟩
        · obtain rfl : k = zs.length := by omega
          rw [show pout (zs.drop zs.length) (ps.drop zs.length) t = [] by rw [List.drop_of_length_le (Nat.le_refl _)]; rfl, List.append_nil] at hpo
          gi_wp2
          refine ⟨by simp, .inl ⟨_, _, rfl, run_takeDeferred hdd, ?_⟩⟩
          refine ⟨_, results_tmp2 rfl _ _ _, hfin.low.trans (belowK_b (w := w) (Nat.le_refl _) wi D _ (.deferred none) (by omega) hdd rfl rfl), ?_⟩
          have hown5 := hown.kept (grownBy_putObj' wi D (.deferred none)) (.inr (fun e => by have := (hown.lt D e).1; omega))
          exact .inr ⟨ov, rfl, own_base hown5 (by omega)⟩
end
end Go.Proofs.Ytjgmfdgpgdaclaa
/-
  What a purse pays: the contract.
-/
set_option linter.unusedVariables false
set_option linter.unusedSimpArgs false
set_option maxRecDepth 100000
namespace Go.Proofs.Ytjgmfdgpgdaclaa
open Go.RowKit Go.Shelf
section
attribute [local go_sem] Oper.semAt_some
set_option maxHeartbeats 2000000 in
theorem purse_err (e : Int) (he : e ≠ 0) (v0 : Value) (pa : Option Addr) (pl pc : Nat) (s : Int) (w : World) (hck : ∀ W, Below w.heap.size w W → Calls Try.prog 56 #[v0, .int .i64 s] W fun x w' => x = .returned (.int .i64 e) ∧ Below W.heap.size W w') :
    Calls Try.prog 41 #[v0, .slice pa pl pc, .int .i64 s] w fun x w' => x = .returned (.tuple #[.slice none 0 0, .int .i64 e]) ∧ Below w.heap.size w w' := by
  have a1 : Below w.heap.size w ((w.alloc (.cells #[.slice pa pl pc] 22)).alloc (.cells #[.int .i64 s] 3)) := ((Below.refl _ w).alloc (Nat.le_refl _) _).alloc (by simp) _
  have a4 : Blk ((w.alloc (.cells #[.slice pa pl pc] 22)).alloc (.cells #[.int .i64 s] 3)) w.heap.size #[.slice pa pl pc] 22 := (Blk.new w _ _).alloc _
  have a5 : Blk ((w.alloc (.cells #[.slice pa pl pc] 22)).alloc (.cells #[.int .i64 s] 3)) (w.heap.size + 1) #[.int .i64 s] 3 := by
    have := Blk.new (w.alloc (.cells #[.slice pa pl pc] 22)) #[.int .i64 s] 3
    rwa [World.size_alloc] at this
  generalize hWb : (w.alloc (.cells #[.slice pa pl pc] 22)).alloc (.cells #[.int .i64 s] 3) = Wb at a1 a4 a5
  have aB : Wb.heap.size = w.heap.size + 2 := by rw [← hWb]; simp
  have e4 := a4.cell 0 rfl
  have e5 := a5.cell 0 rfl
  go_enter Try.func41, Try.ntmps41
  go_wp2_with (go_at_call 56; refine (hck _ a1).mono ?_; rintro e w1 ⟨rfl, hB1⟩)
  have hB2 : Below w.heap.size w w1 := a1.trans (hB1.mono (by omega))
  go_ret2
  exact ⟨rfl, hB2⟩
set_option maxHeartbeats 2000000 in
theorem purse_err2 (e : Int) (he : e ≠ 0) (v0 : Value) (pa : Option Addr) (pl pc : Nat) (s : Int) (w : World) (hck : ∀ W, Below w.heap.size w W → Calls Try.prog 56 #[v0, .int .i64 s] W fun x w' => x = .returned (.int .i64 0) ∧ Below W.heap.size W w')
    (hct : ∀ W, Below w.heap.size w W → Calls Try.prog 68 #[v0, .slice pa pl pc] W fun x w' => x = .returned (.int .i64 e) ∧ Below W.heap.size W w') :
    Calls Try.prog 41 #[v0, .slice pa pl pc, .int .i64 s] w fun x w' => x = .returned (.tuple #[.slice none 0 0, .int .i64 e]) ∧ Below w.heap.size w w' := by
  have a1 : Below w.heap.size w ((w.alloc (.cells #[.slice pa pl pc] 22)).alloc (.cells #[.int .i64 s] 3)) := ((Below.refl _ w).alloc (Nat.le_refl _) _).alloc (by simp) _
  have a4 : Blk ((w.alloc (.cells #[.slice pa pl pc] 22)).alloc (.cells #[.int .i64 s] 3)) w.heap.size #[.slice pa pl pc] 22 := (Blk.new w _ _).alloc _
  have a5 : Blk ((w.alloc (.cells #[.slice pa pl pc] 22)).alloc (.cells #[.int .i64 s] 3)) (w.heap.size + 1) #[.int .i64 s] 3 := by
    have := Blk.new (w.alloc (.cells #[.slice pa pl pc] 22)) #[.int .i64 s] 3
    rwa [World.size_alloc] at this
  generalize hWb : (w.alloc (.cells #[.slice pa pl pc] 22)).alloc (.cells #[.int .i64 s] 3) = Wb at a1 a4 a5
  have aB : Wb.heap.size = w.heap.size + 2 := by rw [← hWb]; simp
  have e4 := a4.cell 0 rfl
  have e5 := a5.cell 0 rfl
  go_enter Try.func41, Try.ntmps41
  go_wp2_with (first
    | (go_at_call 56; refine (hck _ a1).mono ?_; rintro e w2 ⟨rfl, hB1⟩;
        have b4 := a4.below hB1 (by omega); have f4 := b4.cell 0 rfl;
        have hB2 : Below w.heap.size w w2 := a1.trans (hB1.mono (by omega)))
    | (go_at_call 68; refine (hct _ hB2).mono ?_; rintro e w3 ⟨rfl, hB3⟩))
  have hB4 : Below w.heap.size w w3 := hB2.trans (hB3.mono (by have := b4.lt; omega))
  go_ret2
  exact ⟨rfl, hB4⟩
end
open Go.Vi
set_option maxHeartbeats 2000000 in
theorem HC41 (n : Nat × Nat) (xs : pksDen [.c (.sl (.int .i64)), .c (.sl (.int .i64)), .c (.int .i64)]) (r : rksDen [.own (.int .i64) 0, .c (.int .i64) 0]) (h : HF41 (S56 n) (S68 n) (S52 n) (S46 n) xs.1 xs.2.1 xs.2.2.1 = some r) (vs : List V) (hv : pksArg [.c (.sl (.int .i64)), .c (.sl (.int .i64)), .c (.int .i64)] vs = some xs) :
    FC Try.prog 41 vs (rets [.own (.int .i64) 0, .c (.int .i64) 0] r) := by
  obtain ⟨zs, ps, s, ⟨⟩⟩ := xs
  unfold HF41 at h
  obtain ⟨e, he, h⟩ := Option.bind_eq_some_iff.1 h
  intro w A0 args hA hargs hgl
  have hv2 := pksArg_VR _ _ _ _ hv hargs
  match args, hv2 with
  | [v0, v1, v2], ⟨g0, g1, g2, _⟩ =>
    have g2 : v2 = .int .i64 s := g2
    subst g2
    have g0 : CR w A0 (.sl (.int .i64) zs false) v0 := g0
    have g1 : CR w A0 (.sl (.int .i64) ps false) v1 := g1
    have hmon : ∀ {W : World}, Below w.heap.size w W → ∀ b, A0 b → A0 b ∧ W.heap[b]? = w.heap[b]? := fun hB b hb => ⟨hb, hB.block b (hA b hb)⟩
    have hlt : ∀ {W : World}, Below w.heap.size w W → ∀ b, A0 b → b < W.heap.size := fun hB b hb => Nat.lt_of_lt_of_le (hA b hb) hB.size
    have hck := fun W (hW : Below w.heap.size w W) => fc_int (w := W) (args := [v0, .int .i64 s]) (fcs_FC (rks := [.c (.int .i64) 4]) (FC56 n) (vs := [.c (.sl (.int .i64) zs false), .c (.int .i64 s)]) (xs := (zs, s, ())) rfl he) (hlt hW) ⟨CR.mono (hmon hW) _ _ g0, rfl, trivial⟩
    have nil1 : ∀ {e : Int} {e' : Ending} {W' : World}, e' = .returned (.tuple #[.slice none 0 0, .int .i64 e]) ∧ Below w.heap.size w W' →
        (match e', W' with | .returned u, w' => Grows w w' ∧ RetR w w' A0 (rets [.own (.int .i64) 0, .c (.int .i64) 0] (([] : List Int), e)) u | _, _ => False) := by
      rintro e e' W' ⟨rfl, hB⟩
      exact ⟨Grows.of_below hB, [.emp, .emp], [_, _], rfl, ⟨rfl, ⟨none, rfl, fun _ => rfl, rfl, fun _ _ h => (by cases h)⟩, fun b c h => (by cases h)⟩, fun b c h => (by cases h), rfl, fun b c h => (by cases h), trivial⟩
    obtain ⟨pa, pc, rfl, _⟩ := id g1
    cases hz : e != 0 with
    | true =>
      rw [hz] at h
      cases h
      exact (purse_err e (by simpa using hz) v0 pa ps.length pc s w hck).mono fun _ _ h => nil1 h
    | false =>
      rw [hz] at h
      have hz : e = 0 := by simpa using hz
      subst hz
      simp only [cond_false] at h
      obtain ⟨e2, he2, h⟩ := Option.bind_eq_some_iff.1 h
      have hct := fun W (hW : Below w.heap.size w W) => fc_int (w := W) (args := [v0, .slice pa ps.length pc]) (fcs_FC (rks := [.c (.int .i64) 4]) (FC68 n) (vs := [.c (.sl (.int .i64) zs false), .c (.sl (.int .i64) ps false)]) (xs := (zs, ps, ())) rfl he2) (hlt hW) ⟨CR.mono (hmon hW) _ _ g0, CR.mono (hmon hW) _ _ g1, trivial⟩
      cases hz2 : e2 != 0 with
      | true =>
        rw [hz2] at h
        cases h
        exact (purse_err2 e2 (by simpa using hz2) v0 pa ps.length pc s w hck hct).mono fun _ _ h => nil1 h
      | false =>
        rw [hz2] at h
        have hz2 : e2 = 0 := by simpa using hz2
        subst hz2
        simp only [cond_false] at h
        obtain ⟨r1, hr1, h⟩ := Option.bind_eq_some_iff.1 h
        obtain ⟨r2, hr2, h⟩ := Option.bind_eq_some_iff.1 h
        obtain ⟨hd, h9⟩ := cond_some h rfl
        clear h
        simp only [Bool.and_eq_true, decide_eq_true_eq, List.all_eq_true] at hd
        obtain ⟨⟨⟨⟨hc, hl0, hl1⟩, hs0, hs1⟩, hpl, hpp⟩, hra, hrb⟩ := hd
        subst hrb
        subst hra
        obtain ⟨b, off, cap, rfl, hb, hcs⟩ := CR_ints (zs := zs) (t := false) g0 hl0 hA
        obtain ⟨b', off', cap', hpe, hb', hps⟩ := CR_ints (zs := ps) (t := false) g1 (by omega) hA
        rw [hpe, hpl] at hct ⊢
        obtain ⟨s', rfl⟩ := Int.eq_ofNat_of_zero_le hs0
        have hrl : (List.replicate (Int.toNat (s' : Int) + 1) (-1 : Int)).length = s' + 1 := by simp
        have hget : ∀ i, i < s' + 1 → (List.replicate (Int.toNat (s' : Int) + 1) (-1 : Int))[i]?.getD 0 = -1 := fun i hi => by
          rw [List.getElem?_replicate, if_pos (by simp; omega)]
          rfl
        have hrep : ∀ W b1, Row W b1 1 1 (fun _ => -1) → Calls Try.prog 52 #[.slice (some ⟨b1, 0, none⟩) 1 1, .int .i64 ((s' : Int) + 1)] W fun e w' => ∃ b2 cap2, e = .returned (.slice (some ⟨b2, 0, none⟩) (s' + 1) cap2) ∧ W.heap.size ≤ b2 ∧ Row w' b2 cap2 (s' + 1) (fun _ => -1) ∧ Below W.heap.size W w' := fun W b1 hrow => by
          have h0 := fc_own (w := W) (A := fun x => x = b1) (args := [.slice (some ⟨b1, 0, none⟩) 1 1, .int .i64 ((s' : Int) + 1)]) (fcs_FC (rks := [.own (.int .i64) 4]) (FC52 n) (vs := [.c (.sl (.int .i64) [-1] false), .c (.int .i64 ((s' : Int) + 1))]) (xs := ([-1], (s' : Int) + 1, ())) rfl hr1) (by rw [hrl]; omega) (fun b hb => by subst hb; exact hrow.lt)
            ⟨CR_row (l := [-1]) (hrow.congr fun i hi => by match i, hi with | 0, _ => rfl), rfl, trivial⟩
          refine h0.mono ?_
          rintro x w2 ⟨b2, cap2, rfl, k1, k2, k3⟩
          rw [hrl] at k2 ⊢
          exact ⟨b2, cap2, rfl, k1, k2.congr hget, k3⟩
        have hcl : ∀ W b1 cap1, Row W b1 cap1 (s' + 1) (fun _ => -1) → Calls Try.prog 46 #[.slice (some ⟨b1, 0, none⟩) (s' + 1) cap1] W fun e w' => ∃ b2 cap2, e = .returned (.slice (some ⟨b2, 0, none⟩) (s' + 1) cap2) ∧ W.heap.size ≤ b2 ∧ Row w' b2 cap2 (s' + 1) (fun _ => -1) ∧ Below W.heap.size W w' := fun W b1 cap1 hrow => by
          have h0 := fc_own (w := W) (A := fun x => x = b1) (args := [.slice (some ⟨b1, 0, none⟩) (s' + 1) cap1]) (fcs_FC (rks := [.own (.int .i64) 2]) (FC46 n) (vs := [.c (.sl (.int .i64) (List.replicate (Int.toNat (s' : Int) + 1) (-1)) false)]) (xs := (List.replicate (Int.toNat (s' : Int) + 1) (-1), ())) rfl hr2) (by rw [hrl]; omega) (fun b hb => by subst hb; exact hrow.lt)
            ⟨by
              have := CR_row (W := W) (b := b1) (cap := cap1) (l := List.replicate (Int.toNat (s' : Int) + 1) (-1)) (by rw [hrl]; exact hrow.congr fun i hi => (hget i hi).symm)
              rw [hrl] at this
              exact this, trivial⟩
          refine h0.mono ?_
          rintro x w2 ⟨b2, cap2, rfl, k1, k2, k3⟩
          rw [hrl] at k2 ⊢
          exact ⟨b2, cap2, rfl, k1, k2.congr hget, k3⟩
        have key := (callsIn_wide (n := 3)).1 (purse_in Fence.wide rfl 3 trivial trivial trivial trivial trivial trivial trivial rfl (by omega) b off cap b' off' cap' zs ps s' w hb hb' hcs hps hl0 hl1 hpl hc hpp (by omega)
          (fun W hW => callsIn_wide.2 (hck W hW)) (fun W hW => callsIn_wide.2 (hct W hW)) (fun W b1 h => callsIn_wide.2 (hrep W b1 h)) (fun m W b1 cap1 h => callsIn_wide.2 (hcl W b1 cap1 h)))
        refine key.mono ?_
        rintro x w2 ⟨hB, h3 | ⟨hn, v, rfl, hown⟩⟩
        · rw [decide_eq_true h3.1, cond_true] at h9
          have h9 := Option.some.inj h9
          subst h9
          exact nil1 ⟨h3.2, hB⟩
        · rw [decide_eq_false hn, cond_false] at h9
          have h9 := Option.some.inj h9
          subst h9
          rcases hown.2 with ⟨rfl, hn0⟩ | ⟨g, cp, cur, rfl, hg, hgg, hl, hm, hsz, htk⟩
          · have hp0 : pout zs ps s' = [] := List.eq_nil_of_length_eq_zero hn0
            rw [hp0]
            exact nil1 ⟨rfl, hB⟩
          · have hout := out_ints (w := w) (W' := w2) (A1 := newA w w2 A0 [.at g cp, .emp]) (b := g) (cap := cp) (l := pout zs ps s') (cur := cur) (t := 3) hgg (by omega) hl (by omega) (fun i x hx => by
              have h1 : ((pout zs ps s').map (Value.int .i64))[i]? = some (.int .i64 x) := by rw [List.getElem?_map, hx]; rfl
              rw [← htk, List.getElem?_take] at h1
              split at h1
              · simpa using h1
              · cases h1)
            exact ⟨Grows.of_below hB, [.at g cp, .emp], [_, _], rfl, hout, fun b c hb j hj c' => by simp at hj; subst hj; simp, rfl, fun b c h => (by cases h), trivial⟩
end Go.Proofs.Ytjgmfdgpgdaclaa
set_option linter.unusedVariables false
set_option linter.unusedSimpArgs false
set_option maxRecDepth 100000
namespace Go.Proofs.Ytjgmfdgpgdaclaa
open Go.Vi
abbrev R41 := List Int × Int
def pk41 : List PK := [.c (.sl (.int .i64)), .c (.sl (.int .i64)), .c (.int .i64)]
def rk41 : List RK := [.own (.int .i64) 0, .c (.int .i64) 0]
noncomputable def S41 (n : Nat × Nat) (coins0 : List Int) (purse1 : List Int) (sum2 : Int) : Option R41 := HF41 (S56 n) (S68 n) (S52 n) (S46 n) coins0 purse1 sum2
noncomputable def P41 (n : Nat × Nat) := phiOf pk41 rk41 (fun xs => S41 n xs.1 xs.2.1 xs.2.2.1)
theorem call41 : CallOK Try.prog 41 := callOK_of Try.func41 (by kernel_rfl) (by kernel_rfl)
theorem FC41 (n : Nat × Nat) : FCs Try.prog 41 (P41 n) := phiOf_FCs fun xs r h vs hv => HC41 n xs r h vs hv
abbrev R55 := List Int
noncomputable def c55 : Code := bodyOf Try.f55
noncomputable def an55 : Ann := .l
def pk55 : List PK := []
def rk55 : List RK := [.own (.int .i64) 0]
noncomputable def rt55 (st : St) : Option R55 := rtG rk55 st
noncomputable def E55 (n : Nat × Nat) : Env := { T := tab, phi := noPhi, eff := fun _ => false, fuel := n.1, hold := n.2 }
noncomputable def S55 (n : Nat × Nat) : Option R55 := run (E55 n) c55 an55 rt55 (fun _ _ => none) rt55 { tm := [uu, uu, uu], hp := emp }
theorem S55_eq (n : Nat × Nat) : S55 n =
 some [1, 2] := by kernel_rfl
theorem S55_run (n : Nat × Nat) (xs : pksDen pk55) : S55 n = runG (E55 n) noScope c55 an55 (rtG rk55) (fun _ _ => none) (rtG rk55) (st0 pk55 xs Try.f55.ntmps) := by kernel_rfl
noncomputable def P55 (n : Nat × Nat) := phiOf pk55 rk55 (fun xs => S55 n)
theorem call55 : CallOK Try.prog 55 := callOK_of Try.func55 (by kernel_rfl) (by kernel_rfl)
theorem env55 (n : Nat × Nat) : EnvOK Try.prog (E55 n) := envOK0 noPhi_ok rfl rfl
theorem par55 (n : Nat × Nat) : EnvPar (E55 n) := envPar0 noPhi_par rfl
theorem FC55 (n : Nat × Nat) : FCs Try.prog 55 (P55 n) := phiOf_FCs fun xs r h vs hv => FC.of_runG tabOK eqsOK (env55 n) (par55 n) mixed (fun _ p _ => noScope_ok p.1 p.2) Try.func55 (c := c55) (an := an55) (pks := pk55) (rks := rk55) (by kernel_rfl) (by kernel_rfl) hv ((S55_run n xs).symm.trans h)
abbrev R33 := Bool × Int
noncomputable def c33 : Code := bodyOf Try.f33
noncomputable def an33 : Ann := (.s .l (.s .l (.s (.j [0, 1] (.s .l (.j [0, 1] .l (.s .l (.j [0, 1] .l (.s .l (.j [0, 1] .l (.s .l (.j [0, 1] .l (.s .l (.j [0, 1] .l .l)))))))))) .l) .l)))
def pk33 : List PK := [.c (.sl (.int .i64)), .c (.int .i64)]
def rk33 : List RK := [.c .bool 4, .c (.int .i64) 5]
noncomputable def rt33 (st : St) : Option R33 := rtG rk33 st
noncomputable def E33 (n : Nat × Nat) : Env := { T := tab, phi := (consPhi 25 (fun _ => true) (P25 n) (consPhi 46 (fun _ => true) (P46 n) (consPhi 63 (fun _ => true) (P63 n) (consPhi 66 (fun _ => true) (P66 n) noPhi)))), eff := fun _ => false, fuel := n.1, hold := n.2 }
noncomputable def S33 (n : Nat × Nat) (coins0 : List Int) (coin1 : Int) : Option R33 := run (E33 n) c33 an33 rt33 (fun _ _ => none) rt33 { tm := [.c (.sl (.int .i64) coins0 false), .c (.int .i64 coin1), uu, uu, uu, uu, uu, uu, uu, uu, uu, uu, uu, uu, uu, uu, uu, uu, uu, uu, uu, uu, uu, uu, uu, uu, uu, uu, uu, uu, uu, uu, uu, uu, uu, uu, uu, uu, uu, uu, uu, uu, uu, uu, uu, uu, uu, uu, uu, uu, uu, uu, uu, uu, uu, uu, uu, uu, uu, uu, uu, uu, uu, uu], hp := emp }
theorem S33_eq (n : Nat × Nat) (coins0 : List Int) (coin1 : Int) : S33 n coins0 coin1 =
 (S25 n coins0).bind fun r1' =>
 (bif (r1' != 0) then some (false, r1')
 else (bif ((coins0.length : Int) == 6) then some (false, 3)
 else (bif decide (coin1 > 40) then some (false, 1)
 else (idx coins0 (wr .i64 ((coins0.length : Int) - 1))).bind fun x2' =>
 (bif decide (coin1 ≤ x2') then some (false, 7)
 else (S66 n coins0).bind fun r3' =>
 (bif decide (r3' > 0) then some (false, 13)
 else (idx coins0 (wr .i64 ((coins0.length : Int) - 1))).bind fun x4' =>
 (bif x4' == 0 then none
 else (S46 n coins0).bind fun r5' =>
 (bif decide (r5'.length + [coin1].length ≤ lim) then (S63 n (r5' ++ [coin1]) (wr .i64 ((wr .i64 (Int.tdiv (wr .i64 ((wr .i64 (coin1 + x4')) - 1)) x4')) * x4'))).bind fun r6' =>
 some (decide (r6'.2 ≤ wr .i64 (Int.tdiv (wr .i64 ((wr .i64 (coin1 + x4')) - 1)) x4')), 0)
 else none))))))) := by kernel_rfl
theorem S33_run (n : Nat × Nat) (xs : pksDen pk33) : S33 n xs.1 xs.2.1 = runG (E33 n) noScope c33 an33 (rtG rk33) (fun _ _ => none) (rtG rk33) (st0 pk33 xs Try.f33.ntmps) := by kernel_rfl
noncomputable def P33 (n : Nat × Nat) := phiOf pk33 rk33 (fun xs => S33 n xs.1 xs.2.1)
theorem call33 : CallOK Try.prog 33 := callOK_of Try.func33 (by kernel_rfl) (by kernel_rfl)
theorem env33 (n : Nat × Nat) : EnvOK Try.prog (E33 n) := envOK0 (consPhi_ok (FC25 n) call25 (consPhi_ok (FC46 n) call46 (consPhi_ok (FC63 n) call63 (consPhi_ok (FC66 n) call66 noPhi_ok)))) rfl rfl
theorem par33 (n : Nat × Nat) : EnvPar (E33 n) := envPar0 (consPhi_par phiOf_Par1 (consPhi_par phiOf_Par1 (consPhi_par phiOf_Par1 (consPhi_par phiOf_Par1 noPhi_par)))) rfl
theorem FC33 (n : Nat × Nat) : FCs Try.prog 33 (P33 n) := phiOf_FCs fun xs r h vs hv => FC.of_runG tabOK eqsOK (env33 n) (par33 n) mixed (fun _ p _ => noScope_ok p.1 p.2) Try.func33 (c := c33) (an := an33) (pks := pk33) (rks := rk33) (by kernel_rfl) (by kernel_rfl) hv ((S33_run n xs).symm.trans h)
abbrev R24 := Bool
noncomputable def c24 : Code := bodyOf Try.f24
noncomputable def an24 : Ann := (.s .l (.s (.s .l (.j [0, 1] .l .l)) (.s (.s .l (.j [] (.j [0, 1, 5] (.s (.s .l (.j [0, 1, 5] .l .l)) (.s (.j [0, 1, 5] (.s .l (.j [0, 1, 5] .l .l)) .l) .l)) .l) .l)) .l)))
def pk24 : List PK := [.c (.sl (.int .i64)), .c (.sl (.int .i64))]
def rk24 : List RK := [.c .bool 4]
noncomputable def rt24 (st : St) : Option R24 := rtG rk24 st
noncomputable def E24 (n : Nat × Nat) : Env := { T := tab, phi := noPhi, eff := fun _ => false, fuel := n.1, hold := n.2 }
noncomputable def kq24_3 (n : Nat × Nat) : St → Option R24 := run (E24 n) (cB (cB (cB c24))) (Ann.snd (Ann.snd (Ann.snd an24))) rt24 (fun _ _ => none) rt24
noncomputable def xb24_5 (n : Nat × Nat) : Nat → St → Option R24 := fun j s => bif Nat.beq j 0 then normC [] s (kq24_3 n) else (fun _ _ => none) j s
noncomputable def F24_6 (n : Nat × Nat) : (St → Option R24) → St → Option R24 := fun K s => run (E24 n) (cA (cA (cB (cA (cB (cB c24)))))) (Ann.fst (Ann.fst (Ann.snd (Ann.fst (Ann.snd (Ann.snd an24)))))) (fun s => normC [0, 1, 5] s K) (xb24_5 n) rt24 s
noncomputable def L24_1 (n : Nat × Nat) (m : Nat) (a0 : List Int) (b1 : List Int) (i5 : Int) : Option R24 := loopN (F24_6 n) m { tm := [.c (.sl (.int .i64) a0 false), .c (.sl (.int .i64) b1 false), uu, uu, uu, .c (.int .i64 i5), uu, uu, uu, uu, uu, uu, uu, uu, uu, uu, uu, uu, uu, uu, uu, uu, uu, uu, uu, uu], hp := emp }
theorem L24_1_eq (n : Nat × Nat) (m1 : Nat) (a0 : List Int) (b1 : List Int) (i5 : Int) : L24_1 n (m1 + 1) a0 b1 i5 =
 (bif decide (i5 < (a0.length : Int)) then (idx a0 i5).bind fun x1' =>
 (idx b1 i5).bind fun x2' =>
 (bif (x1' != x2') then some false
 else L24_1 n m1 a0 b1 (wr .i64 (i5 + 1)))
 else some true) := by kernel_rfl
noncomputable def S24 (n : Nat × Nat) (a0 : List Int) (b1 : List Int) : Option R24 := run (E24 n) c24 an24 rt24 (fun _ _ => none) rt24 { tm := [.c (.sl (.int .i64) a0 false), .c (.sl (.int .i64) b1 false), uu, uu, uu, uu, uu, uu, uu, uu, uu, uu, uu, uu, uu, uu, uu, uu, uu, uu, uu, uu, uu, uu, uu, uu], hp := emp }
theorem S24_eq (n : Nat × Nat) (a0 : List Int) (b1 : List Int) : S24 n a0 b1 =
 (bif ((a0.length : Int) != (b1.length : Int)) then some false
 else L24_1 n n.1 a0 b1 0) := by kernel_rfl
theorem S24_run (n : Nat × Nat) (xs : pksDen pk24) : S24 n xs.1 xs.2.1 = runG (E24 n) noScope c24 an24 (rtG rk24) (fun _ _ => none) (rtG rk24) (st0 pk24 xs Try.f24.ntmps) := by kernel_rfl
noncomputable def P24 (n : Nat × Nat) := phiOf pk24 rk24 (fun xs => S24 n xs.1 xs.2.1)
theorem call24 : CallOK Try.prog 24 := callOK_of Try.func24 (by kernel_rfl) (by kernel_rfl)
theorem env24 (n : Nat × Nat) : EnvOK Try.prog (E24 n) := envOK0 noPhi_ok rfl rfl
theorem par24 (n : Nat × Nat) : EnvPar (E24 n) := envPar0 noPhi_par rfl
theorem FC24 (n : Nat × Nat) : FCs Try.prog 24 (P24 n) := phiOf_FCs fun xs r h vs hv => FC.of_runG tabOK eqsOK (env24 n) (par24 n) mixed (fun _ p _ => noScope_ok p.1 p.2) Try.func24 (c := c24) (an := an24) (pks := pk24) (rks := rk24) (by kernel_rfl) (by kernel_rfl) hv ((S24_run n xs).symm.trans h)
abbrev R31 := Int
noncomputable def c31 : Code := bodyOf Try.f31
noncomputable def an31 : Ann := (.s .l (.s (.s .l (.s .l (.j [0, 1, 2] .l .l))) (.s (.s .l (.s .l (.j [0, 1, 2] .l .l))) (.s .l (.s (.s .l (.j [0, 1, 9, 10] (.j [0, 1, 9, 10, 27, 28, 29] (.s .l (.s (.j [0, 1, 9, 10, 27, 28, 29] .l .l) (.s (.j [0, 1, 9, 10, 27, 28, 29] .l .l) .l))) .l) .l)) (.s .l (.s (.j [] (.s .l (.j [] .l (.s .l (.j [] .l .l)))) .l) .l)))))))
def pk31 : List PK := [.c (.sl (.int .i64)), .c (.int .i64), .c (.sl (.int .i64))]
def rk31 : List RK := [.c (.int .i64) 6]
noncomputable def rt31 (st : St) : Option R31 := rtG rk31 st
noncomputable def E31 (n : Nat × Nat) : Env := { T := tab, phi := (consPhi 56 (fun _ => true) (P56 n) (consPhi 63 (fun _ => true) (P63 n) (consPhi 68 (fun _ => true) (P68 n) noPhi))), eff := fun _ => false, fuel := n.1, hold := n.2 }
noncomputable def kq31_5 (n : Nat × Nat) : St → Option R31 := run (E31 n) (cB (cB (cB (cB (cB c31))))) (Ann.snd (Ann.snd (Ann.snd (Ann.snd (Ann.snd an31))))) rt31 (fun _ _ => none) rt31
noncomputable def xb31_7 (n : Nat × Nat) : Nat → St → Option R31 := fun j s => bif Nat.beq j 0 then normC [0, 1, 9, 10] s (kq31_5 n) else (fun _ _ => none) j s
noncomputable def F31_8 (n : Nat × Nat) : (St → Option R31) → St → Option R31 := fun K s => run (E31 n) (cA (cA (cB (cA (cB (cB (cB (cB c31)))))))) (Ann.fst (Ann.fst (Ann.snd (Ann.fst (Ann.snd (Ann.snd (Ann.snd (Ann.snd an31)))))))) (fun s => normC [0, 1, 9, 10, 27, 28, 29] s K) (xb31_7 n) rt31 s
noncomputable def L31_1 (n : Nat × Nat) (m : Nat) (coins0 : List Int) (sum1 : Int) (worth9 : Int) (has10 : Int) (v27 : List Int) (v28 : Int) (v29 : Int) : Option R31 := loopN (F31_8 n) m { tm := [.c (.sl (.int .i64) coins0 false), .c (.int .i64 sum1), uu, uu, uu, uu, uu, uu, uu, .c (.int .i64 worth9), .c (.int .i64 has10), uu, uu, uu, uu, uu, uu, uu, uu, uu, uu, uu, uu, uu, uu, uu, uu, .c (.sl (.int .i64) v27 false), .c (.int .i64 v28), .c (.int .i64 v29), uu, uu, uu, uu, uu, uu, uu, uu, uu, uu, uu, uu, uu, uu, uu, uu, uu, uu, uu, uu, uu, uu, uu, uu, uu, uu, uu, uu, uu, uu], hp := emp }
theorem L31_1_eq (n : Nat × Nat) (m1 : Nat) (coins0 : List Int) (sum1 : Int) (worth9 : Int) (has10 : Int) (v27 : List Int) (v28 : Int) (v29 : Int) : L31_1 n (m1 + 1) coins0 sum1 worth9 has10 v27 v28 v29 =
 (bif decide (v29 < v28) then (idx v27 v29).bind fun x3' =>
 (idx coins0 v29).bind fun x4' =>
      L31_1 n m1 coins0 sum1 (wr .i64 (worth9 + (wr .i64 (x3' * x4')))) (wr .i64 (has10 + x3')) v27 v28 (wr .i64 (v29 + 1))
 else (S63 n coins0 sum1).bind fun r5' =>
 (bif (worth9 != sum1) then some 17
 else (bif decide (has10 ≥ r5'.2) then some 14
 else some 0))) := by kernel_rfl
noncomputable def S31 (n : Nat × Nat) (coins0 : List Int) (sum1 : Int) (payment2 : List Int) : Option R31 := run (E31 n) c31 an31 rt31 (fun _ _ => none) rt31 { tm := [.c (.sl (.int .i64) coins0 false), .c (.int .i64 sum1), .c (.sl (.int .i64) payment2 false), uu, uu, uu, uu, uu, uu, uu, uu, uu, uu, uu, uu, uu, uu, uu, uu, uu, uu, uu, uu, uu, uu, uu, uu, uu, uu, uu, uu, uu, uu, uu, uu, uu, uu, uu, uu, uu, uu, uu, uu, uu, uu, uu, uu, uu, uu, uu, uu, uu, uu, uu, uu, uu, uu, uu, uu, uu], hp := emp }
theorem S31_eq (n : Nat × Nat) (coins0 : List Int) (sum1 : Int) (payment2 : List Int) : S31 n coins0 sum1 payment2 =
 (S56 n coins0 sum1).bind fun r1' =>
 (bif (r1' != 0) then some r1'
 else (S68 n coins0 payment2).bind fun r2' =>
 (bif (r2' != 0) then some r2'
 else L31_1 n n.1 coins0 sum1 0 0 payment2 (payment2.length : Int) 0)) := by kernel_rfl
theorem S31_run (n : Nat × Nat) (xs : pksDen pk31) : S31 n xs.1 xs.2.1 xs.2.2.1 = runG (E31 n) noScope c31 an31 (rtG rk31) (fun _ _ => none) (rtG rk31) (st0 pk31 xs Try.f31.ntmps) := by kernel_rfl
noncomputable def P31 (n : Nat × Nat) := phiOf pk31 rk31 (fun xs => S31 n xs.1 xs.2.1 xs.2.2.1)
theorem call31 : CallOK Try.prog 31 := callOK_of Try.func31 (by kernel_rfl) (by kernel_rfl)
theorem env31 (n : Nat × Nat) : EnvOK Try.prog (E31 n) := envOK0 (consPhi_ok (FC56 n) call56 (consPhi_ok (FC63 n) call63 (consPhi_ok (FC68 n) call68 noPhi_ok))) rfl rfl
theorem par31 (n : Nat × Nat) : EnvPar (E31 n) := envPar0 (consPhi_par phiOf_Par1 (consPhi_par phiOf_Par1 (consPhi_par phiOf_Par1 noPhi_par))) rfl
theorem FC31 (n : Nat × Nat) : FCs Try.prog 31 (P31 n) := phiOf_FCs fun xs r h vs hv => FC.of_runG tabOK eqsOK (env31 n) (par31 n) mixed (fun _ p _ => noScope_ok p.1 p.2) Try.func31 (c := c31) (an := an31) (pks := pk31) (rks := rk31) (by kernel_rfl) (by kernel_rfl) hv ((S31_run n xs).symm.trans h)
abbrev R17 := Bool
noncomputable def c17 : Code := bodyOf Try.f17
noncomputable def an17 : Ann := (.s .l (.s .l (.s .l (.s .l (.s .l (.s .l (.s .l (.s .l (.s (.s .l (.j [1, 3, 5, 7, 9, 11, 13, 124, 125, 128, 129, 132, 133, 136, 137, 140, 141, 144, 145, 148, 149, 152, 153, 154, 155, 158, 159, 160, 161, 164, 165, 168, 171, 172, 175, 176, 179, 180, 183, 184, 187, 188, 191, 192, 193, 194, 197, 200, 201, 202, 203, 204, 207, 208, 209, 210, 211] .l .l)) .l)))))))))
def pk17 : List PK := []
def rk17 : List RK := [.c .bool 0]
noncomputable def rt17 (st : St) : Option R17 := rtG rk17 st
noncomputable def E17 (n : Nat × Nat) : Env := { T := tab, phi := (consPhi 18 (fun _ => true) (P18 n) (consPhi 20 (fun _ => true) (P20 n) (consPhi 22 (fun _ => true) (P22 n) (consPhi 24 (fun _ => true) (P24 n) (consPhi 27 (fun _ => true) (P27 n) (consPhi 29 (fun _ => true) (P29 n) (consPhi 31 (fun _ => true) (P31 n) (consPhi 33 (fun _ => true) (P33 n) (consPhi 35 (fun _ => true) (P35 n) (consPhi 37 (fun _ => true) (P37 n) (consPhi 39 (fun _ => true) (P39 n) (consPhi 41 (fun _ => true) (P41 n) (consPhi 53 (fun _ => true) (P53 n) (consPhi 54 (fun _ => true) (P54 n) (consPhi 55 (fun _ => true) (P55 n) noPhi))))))))))))))), eff := fun _ => false, fuel := n.1, hold := n.2 }
noncomputable def S17 (n : Nat × Nat) : Option R17 := run (E17 n) c17 an17 rt17 (fun _ _ => none) rt17 { tm := [uu, uu, uu, uu, uu, uu, uu, uu, uu, uu, uu, uu, uu, uu, uu, uu, uu, uu, uu, uu, uu, uu, uu, uu, uu, uu, uu, uu, uu, uu, uu, uu, uu, uu, uu, uu, uu, uu, uu, uu, uu, uu, uu, uu, uu, uu, uu, uu, uu, uu, uu, uu, uu, uu, uu, uu, uu, uu, uu, uu, uu, uu, uu, uu, uu, uu, uu, uu, uu, uu, uu, uu, uu, uu, uu, uu, uu, uu, uu, uu, uu, uu, uu, uu, uu, uu, uu, uu, uu, uu, uu, uu, uu, uu, uu, uu, uu, uu, uu, uu, uu, uu, uu, uu, uu, uu, uu, uu, uu, uu, uu, uu, uu, uu, uu, uu, uu, uu, uu, uu, uu, uu, uu, uu, uu, uu, uu, uu, uu, uu, uu, uu, uu, uu, uu, uu, uu, uu, uu, uu, uu, uu, uu, uu, uu, uu, uu, uu, uu, uu, uu, uu, uu, uu, uu, uu, uu, uu, uu, uu, uu, uu, uu, uu, uu, uu, uu, uu, uu, uu, uu, uu, uu, uu, uu, uu, uu, uu, uu, uu, uu, uu, uu, uu, uu, uu, uu, uu, uu, uu, uu, uu, uu, uu, uu, uu, uu, uu, uu, uu, uu, uu, uu, uu, uu, uu, uu, uu, uu, uu, uu, uu, uu], hp := emp }
theorem S17_eq (n : Nat × Nat) : S17 n =
 (S54 n).bind fun r1' =>
 (S18 n r1' 6).bind fun r2' =>
 (S54 n).bind fun r3' =>
 (S20 n r3' 6).bind fun r4' =>
 (S54 n).bind fun r5' =>
 (S22 n r5' 6).bind fun r6' =>
 (S54 n).bind fun r7' =>
 (S27 n r7').bind fun r8' =>
 (S53 n).bind fun r9' =>
 (S27 n r9').bind fun r10' =>
 (S54 n).bind fun r11' =>
 (S29 n r11').bind fun r12' =>
 (S54 n).bind fun r13' =>
 (S37 n r13' 6).bind fun r14' =>
 ((bif ((r2'.2 != 0) == false) then some (r4'.2 != 0)
 else some true)).bind fun b15' =>
 ((bif (b15' == false) then some (r6'.2 != 0)
 else some true)).bind fun b16' =>
 ((bif (b16' == false) then some (r8'.2 != 0)
 else some true)).bind fun b17' =>
 ((bif (b17' == false) then some (r10'.2 != 0)
 else some true)).bind fun b18' =>
 ((bif (b18' == false) then some (r12'.2 != 0)
 else some true)).bind fun b19' =>
 ((bif (b19' == false) then some (r14'.2 != 0)
 else some true)).bind fun b20' =>
 (bif b20' then some false
 else (S54 n).bind fun r21' =>
 (S35 n r21' 2).bind fun r22' =>
 (S53 n).bind fun r23' =>
 (S39 n r23' 9).bind fun r24' =>
 (S54 n).bind fun r25' =>
 (S41 n r25' [2, 1, 1] 6).bind fun r26' =>
 (S55 n).bind fun r27' =>
 (S33 n r27' 5).bind fun r28' =>
 (S54 n).bind fun r29' =>
 (S33 n r29' 5).bind fun r30' =>
 (S53 n).bind fun r31' =>
 (S29 n r31').bind fun r32' =>
 (S54 n).bind fun r33' =>
 (S41 n r33' [0, 0, 1] 6).bind fun r34' =>
 ((bif ((r22'.2 == 0) == true) then some (r24'.2.2 == 0)
 else some false)).bind fun b35' =>
 ((bif (b35' == true) then some (r26'.2 == 0)
 else some false)).bind fun b36' =>
 ((bif (b36' == true) then some (r28'.2 == 0)
 else some false)).bind fun b37' =>
 ((bif (b37' == true) then some (r30'.2 == 13)
 else some false)).bind fun b38' =>
 ((bif (b38' == true) then some (r32'.2 == 13)
 else some false)).bind fun b39' =>
 ((bif (b39' == true) then some (r34'.2 == 12)
 else some false)).bind fun b40' =>
 ((bif (b40' == true) then some (r2'.1 == 2)
 else some false)).bind fun b41' =>
 ((bif (b41' == true) then (S24 n r4'.1 [0, 2, 0]).bind fun r42' =>
 some r42'
 else some false)).bind fun b43' =>
 ((bif (b43' == true) then (S24 n r6'.1 [2, 0, 1]).bind fun r44' =>
 some r44'
 else some false)).bind fun b45' =>
 ((bif (b45' == true) then some (!r8'.1)
 else some false)).bind fun b46' =>
 ((bif (b46' == true) then some r10'.1
 else some false)).bind fun b47' =>
 ((bif (b47' == true) then some (r12'.1 == 6)
 else some false)).bind fun b48' =>
 ((bif (b48' == true) then some (r14'.1 == 4)
 else some false)).bind fun b49' =>
 ((bif (b49' == true) then some (r22'.1 == 8)
 else some false)).bind fun b50' =>
 ((bif (b50' == true) then some (r24'.1 == 1)
 else some false)).bind fun b51' =>
 ((bif (b51' == true) then some (r24'.2.1 == 1)
 else some false)).bind fun b52' =>
 ((bif (b52' == true) then (S24 n r26'.1 [2, 0, 1]).bind fun r53' =>
 some r53'
 else some false)).bind fun b54' =>
 ((bif (b54' == true) then some r28'.1
 else some false)).bind fun b55' =>
 ((bif (b55' == true) then (S54 n).bind fun r56' =>
 (S31 n r56' 6 [0, 2, 0]).bind fun r57' =>
 some (r57' == 0)
 else some false)).bind fun b58' =>
 ((bif (b58' == true) then (S54 n).bind fun r59' =>
 (S31 n r59' 6 [2, 0, 1]).bind fun r60' =>
 some (r60' == 14)
 else some false)).bind fun b61' =>
 some b61') := by kernel_rfl
theorem S17_run (n : Nat × Nat) (xs : pksDen pk17) : S17 n = runG (E17 n) noScope c17 an17 (rtG rk17) (fun _ _ => none) (rtG rk17) (st0 pk17 xs Try.f17.ntmps) := by kernel_rfl
noncomputable def P17 (n : Nat × Nat) := phiOf pk17 rk17 (fun xs => S17 n)
theorem call17 : CallOK Try.prog 17 := callOK_of Try.func17 (by kernel_rfl) (by kernel_rfl)
theorem env17 (n : Nat × Nat) : EnvOK Try.prog (E17 n) := envOK0 (consPhi_ok (FC18 n) call18 (consPhi_ok (FC20 n) call20 (consPhi_ok (FC22 n) call22 (consPhi_ok (FC24 n) call24 (consPhi_ok (FC27 n) call27 (consPhi_ok (FC29 n) call29 (consPhi_ok (FC31 n) call31 (consPhi_ok (FC33 n) call33 (consPhi_ok (FC35 n) call35 (consPhi_ok (FC37 n) call37 (consPhi_ok (FC39 n) call39 (consPhi_ok (FC41 n) call41 (consPhi_ok (FC53 n) call53 (consPhi_ok (FC54 n) call54 (consPhi_ok (FC55 n) call55 noPhi_ok))))))))))))))) rfl rfl
theorem par17 (n : Nat × Nat) : EnvPar (E17 n) := envPar0 (consPhi_par phiOf_Par1 (consPhi_par phiOf_Par1 (consPhi_par phiOf_Par1 (consPhi_par phiOf_Par1 (consPhi_par phiOf_Par1 (consPhi_par phiOf_Par1 (consPhi_par phiOf_Par1 (consPhi_par phiOf_Par1 (consPhi_par phiOf_Par1 (consPhi_par phiOf_Par1 (consPhi_par phiOf_Par1 (consPhi_par phiOf_Par1 (consPhi_par phiOf_Par1 (consPhi_par phiOf_Par1 (consPhi_par phiOf_Par1 noPhi_par))))))))))))))) rfl
theorem FC17 (n : Nat × Nat) : FCs Try.prog 17 (P17 n) := phiOf_FCs fun xs r h vs hv => FC.of_runG tabOK eqsOK (env17 n) (par17 n) mixed (fun _ p _ => noScope_ok p.1 p.2) Try.func17 (c := c17) (an := an17) (pks := pk17) (rks := rk17) (by kernel_rfl) (by kernel_rfl) hv ((S17_run n xs).symm.trans h)
/-D 54 -/
noncomputable def D54 (n : Nat × Nat) : Option R54 :=
 some [1, 3, 4]
theorem S54_D (n : Nat × Nat) (hn : n.2 = 1) : S54 n = D54 n := by
  refine (S54_eq n).trans ?_
  unfold D54
  first | with_reducible rfl | rfl
/-D 25 -/
noncomputable def DF25_1 (n : Nat × Nat) (f1 : List Int → List Int → Int → Int → Option R25) (coins0 : List Int) (v13 : List Int) (v14 : Int) (v15 : Int) : Option R25 :=
 (bif decide (v15 < v14) then (idx v13 v15).bind fun x1' =>
 ((bif (decide (x1' < 1) == false) then some (decide (x1' > 40))
 else some true)).bind fun b2' =>
 (bif b2' then some 1
 else ((bif (decide (v15 > 0) == true) then (idx coins0 (wr .i64 (v15 - 1))).bind fun x3' =>
 some (decide (x1' ≤ x3'))
 else some false)).bind fun b4' =>
 (bif b4' then some 7
 else f1 coins0 v13 v14 (wr .i64 (v15 + 1))))
 else (idx coins0 0).bind fun x5' =>
 (bif decide (x5' > 1) then some 5
 else some 0))
noncomputable def DL25_1 (n : Nat × Nat) (m : Nat) : List Int → List Int → Int → Int → Option R25 := Nat.rec (motive := fun _ => List Int → List Int → Int → Int → Option R25) (fun _ _ _ _ => none) (fun _ ih => DF25_1 n ih) m
theorem DL25_1_succ (n : Nat × Nat) (m : Nat) : DL25_1 n (m + 1) = DF25_1 n (DL25_1 n m) := rfl
theorem DL25_1_eq (n : Nat × Nat) (hn : n.2 = 1) : ∀ m, L25_1 n m = DL25_1 n m
  | 0 => by funext coins0 v13 v14 v15; kernel_rfl
  | m + 1 => by
    have ih := DL25_1_eq n hn m
    funext coins0 v13 v14 v15; refine (L25_1_eq n m coins0 v13 v14 v15).trans ?_
    rw [DL25_1_succ]
    unfold DF25_1
    (try simp only [ih]) <;> first | with_reducible rfl | rfl
noncomputable def D25 (n : Nat × Nat) (coins0 : List Int) : Option R25 :=
 (bif ((coins0.length : Int) == 0) then some 4
 else (bif decide ((coins0.length : Int) > 6) then some 3
 else DL25_1 n n.1 coins0 coins0 (coins0.length : Int) 0))
theorem S25_D (n : Nat × Nat) (hn : n.2 = 1) : S25 n = D25 n := by
  funext coins0; refine (S25_eq n coins0).trans ?_
  unfold D25
  (try simp only [DL25_1_eq n hn]) <;> first | with_reducible rfl | rfl
/-D 56 -/
noncomputable def D56 (n : Nat × Nat) (coins0 : List Int) (sum1 : Int) : Option R56 :=
 (D25 n coins0).bind fun r1' =>
 ((bif ((r1' == 0) == true) then ((bif (decide (sum1 < 0) == false) then some (decide (sum1 > 200))
 else some true)).bind fun b2' =>
 some b2'
 else some false)).bind fun b3' =>
 (bif b3' then some 1
 else some r1')
theorem S56_D (n : Nat × Nat) (hn : n.2 = 1) : S56 n = D56 n := by
  funext coins0 sum1; refine (S56_eq n coins0 sum1).trans ?_
  unfold D56
  (try simp only [S25_D n hn]) <;> first | with_reducible rfl | rfl
/-D 57 -/
noncomputable def DL57_3 (n : Nat × Nat) (f1 : List Int → Int → Int → List Int → Option R57) (f2 : List Int → Int → Int → Int → List Int → Int → Int → List Int → Option R57) (coins0 : List Int) (most1 : Int) (sum6 : Int) (v7 : Int) (v17 : List Int) (v18 : Int) (v19 : Int) (out5 : List Int) : Option R57 :=
    f2 coins0 most1 sum6 v7 v17 v18 (wr .i64 (v19 + 1)) out5
theorem DL57_3_eq (n : Nat × Nat) (hn : n.2 = 1) (m1 m2 : Nat) : L57_3 n m1 m2 = DL57_3 n (L57_1 n m1) (L57_2 n m1 m2) := by
  funext coins0 most1 sum6 v7 v17 v18 v19 out5; refine ((held_eq hn _).trans (L57_3_raw n m1 m2 coins0 most1 sum6 v7 v17 v18 v19 out5)).trans ?_
  unfold DL57_3
  first | with_reducible rfl | rfl
noncomputable def DF57_2 (n : Nat × Nat) (f1 : List Int → Int → Int → List Int → Option R57) (f2 : List Int → Int → Int → Int → List Int → Int → Int → List Int → Option R57) (coins0 : List Int) (most1 : Int) (sum6 : Int) (v7 : Int) (v17 : List Int) (v18 : Int) (v19 : Int) (out5 : List Int) : Option R57 :=
 (bif decide (v19 < v18) then (idx v17 v19).bind fun x1' =>
 (bif decide (x1' ≤ sum6) then (bif inB (wr .i64 (sum6 - x1')) out5.length then (idx out5 (wr .i64 (sum6 - x1'))).bind fun x2' =>
          DL57_3 n f1 f2 coins0 most1 sum6 (if (wr .i64 (1 + x2')) < v7 then (wr .i64 (1 + x2')) else v7) v17 v18 v19 out5
 else none)
 else DL57_3 n f1 f2 coins0 most1 sum6 v7 v17 v18 v19 out5)
 else (bif decide (out5.length + [v7].length ≤ lim) then f1 coins0 most1 (wr .i64 (sum6 + 1)) (out5 ++ [v7])
 else none))
noncomputable def DL57_2 (n : Nat × Nat) (f1 : List Int → Int → Int → List Int → Option R57) (m : Nat) : List Int → Int → Int → Int → List Int → Int → Int → List Int → Option R57 := Nat.rec (motive := fun _ => List Int → Int → Int → Int → List Int → Int → Int → List Int → Option R57) (fun _ _ _ _ _ _ _ _ => none) (fun _ ih => DF57_2 n f1 ih) m
theorem DL57_2_succ (n : Nat × Nat) (f1 : List Int → Int → Int → List Int → Option R57) (m : Nat) : DL57_2 n f1 (m + 1) = DF57_2 n f1 (DL57_2 n f1 m) := rfl
theorem DL57_2_eq (n : Nat × Nat) (hn : n.2 = 1) (m1 : Nat) : ∀ m, L57_2 n m1 m = DL57_2 n (L57_1 n m1) m
  | 0 => by funext coins0 most1 sum6 v7 v17 v18 v19 out5; kernel_rfl
  | m + 1 => by
    have ih := DL57_2_eq n hn m1 m
    funext coins0 most1 sum6 v7 v17 v18 v19 out5; refine (L57_2_eq n m1 m coins0 most1 sum6 v7 v17 v18 v19 out5).trans ?_
    rw [DL57_2_succ]
    unfold DF57_2
    (try simp only [ih, DL57_3_eq n hn]) <;> first | with_reducible rfl | rfl
noncomputable def DF57_1 (n : Nat × Nat) (f1 : List Int → Int → Int → List Int → Option R57) (coins0 : List Int) (most1 : Int) (sum6 : Int) (out5 : List Int) : Option R57 :=
 (bif decide (sum6 ≤ most1) then DL57_2 n f1 n.1 coins0 most1 sum6 sum6 coins0 (coins0.length : Int) 0 out5
 else some out5)
noncomputable def DL57_1 (n : Nat × Nat) (m : Nat) : List Int → Int → Int → List Int → Option R57 := Nat.rec (motive := fun _ => List Int → Int → Int → List Int → Option R57) (fun _ _ _ _ => none) (fun _ ih => DF57_1 n ih) m
theorem DL57_1_succ (n : Nat × Nat) (m : Nat) : DL57_1 n (m + 1) = DF57_1 n (DL57_1 n m) := rfl
theorem DL57_1_eq (n : Nat × Nat) (hn : n.2 = 1) : ∀ m, L57_1 n m = DL57_1 n m
  | 0 => by funext coins0 most1 sum6 out5; kernel_rfl
  | m + 1 => by
    have ih := DL57_1_eq n hn m
    funext coins0 most1 sum6 out5; refine (L57_1_eq n m coins0 most1 sum6 out5).trans ?_
    rw [DL57_1_succ]
    unfold DF57_1
    (try simp only [ih, DL57_3_eq n hn, DL57_2_eq n hn]) <;> first | with_reducible rfl | rfl
noncomputable def D57 (n : Nat × Nat) (coins0 : List Int) (most1 : Int) : Option R57 :=
    DL57_1 n n.1 coins0 most1 1 [0]
theorem S57_D (n : Nat × Nat) (hn : n.2 = 1) : S57 n = D57 n := by
  funext coins0 most1; refine (S57_eq n coins0 most1).trans ?_
  unfold D57
  (try simp only [DL57_3_eq n hn, DL57_2_eq n hn, DL57_1_eq n hn]) <;> first | with_reducible rfl | rfl
/-D 18 -/
noncomputable def D18 (n : Nat × Nat) (coins0 : List Int) (sum1 : Int) : Option R18 :=
 (D56 n coins0 sum1).bind fun r1' =>
 (bif (r1' != 0) then some (0, r1')
 else (D57 n coins0 sum1).bind fun r2' =>
 (bif inB sum1 r2'.length then (idx r2' sum1).bind fun x3' =>
 some (x3', 0)
 else none))
theorem S18_D (n : Nat × Nat) (hn : n.2 = 1) : S18 n = D18 n := by
  funext coins0 sum1; refine (S18_eq n coins0 sum1).trans ?_
  unfold D18
  (try simp only [S56_D n hn, S57_D n hn]) <;> first | with_reducible rfl | rfl
/-D 60 -/
noncomputable def DF60_1 (n : Nat × Nat) (SS : List Int → Int → Int → Option R60) (f1 : List Int → Int → Int → Int → Int → Option R60) (coins0 : List Int) (sum1 : Int) (many2 : Int) (v7 : Int) (v8 : Int) : Option R60 :=
 ((bif (decide (v8 ≤ many2) == true) then (idx coins0 v7).bind fun x2' =>
 some (decide (wr .i64 (v8 * x2') ≤ sum1))
 else some false)).bind fun b3' =>
 (bif b3' then (bif bounds none (some v7) none coins0.length then (idx coins0 v7).bind fun x4' =>
 (SS (coins0.take (Int.toNat v7)) (wr .i64 (sum1 - (wr .i64 (v8 * x4')))) (wr .i64 (many2 - v8))).bind fun r5' =>
 (bif r5' then some true
 else f1 coins0 sum1 many2 v7 (wr .i64 (v8 + 1)))
 else none)
 else some false)
noncomputable def DL60_1 (n : Nat × Nat) (SS : List Int → Int → Int → Option R60) (m : Nat) : List Int → Int → Int → Int → Int → Option R60 := Nat.rec (motive := fun _ => List Int → Int → Int → Int → Int → Option R60) (fun _ _ _ _ _ => none) (fun _ ih => DF60_1 n SS ih) m
theorem DL60_1_succ (n : Nat × Nat) (SS : List Int → Int → Int → Option R60) (m : Nat) : DL60_1 n SS (m + 1) = DF60_1 n SS (DL60_1 n SS m) := rfl
theorem DL60_1_eq (n : Nat × Nat) (hn : n.2 = 1) (SS : List Int → Int → Int → Option R60) : ∀ m, L60_1 n SS m = DL60_1 n SS m
  | 0 => by funext coins0 sum1 many2 v7 v8; kernel_rfl
  | m + 1 => by
    have ih := DL60_1_eq n hn SS m
    funext coins0 sum1 many2 v7 v8; refine (L60_1_eq n SS m coins0 sum1 many2 v7 v8).trans ?_
    rw [DL60_1_succ]
    unfold DF60_1
    (try simp only [ih]) <;> first | with_reducible rfl | rfl
noncomputable def DB60 (n : Nat × Nat) (SS : List Int → Int → Int → Option R60) (coins0 : List Int) (sum1 : Int) (many2 : Int) : Option R60 :=
 (bif ((coins0.length : Int) == 0) then ((bif ((sum1 == 0) == true) then some (many2 == 0)
 else some false)).bind fun b1' =>
 some b1'
 else DL60_1 n SS n.1 coins0 sum1 many2 (wr .i64 ((coins0.length : Int) - 1)) 0)
theorem DB60_eq (n : Nat × Nat) (hn : n.2 = 1) (SS : List Int → Int → Int → Option R60) : B60 n SS = DB60 n SS := by
  funext coins0 sum1 many2; refine (B60_eq n SS coins0 sum1 many2).trans ?_
  unfold DB60
  (try simp only [DL60_1_eq n hn SS]) <;> first | with_reducible rfl | rfl
noncomputable def DT60 (n : Nat × Nat) (d : Nat) : List Int → Int → Int → Option R60 := Nat.rec (motive := fun _ => List Int → Int → Int → Option R60) (fun _ _ _ => none) (fun _ ih => DB60 n ih) d
theorem DT60_succ (n : Nat × Nat) (d : Nat) : DT60 n (d + 1) = DB60 n (DT60 n d) := rfl
theorem DT60_eq (n : Nat × Nat) (hn : n.2 = 1) : ∀ d, T60 n d = DT60 n d
  | 0 => rfl
  | d + 1 => by
    funext coins0 sum1 many2
    rw [T60_eq, DT60_eq n hn d, DB60_eq n hn, DT60_succ]
noncomputable def D60 (n : Nat × Nat) (coins0 : List Int) (sum1 : Int) (many2 : Int) : Option R60 := DT60 n n.1 coins0 sum1 many2
theorem S60_D (n : Nat × Nat) (hn : n.2 = 1) : S60 n = D60 n := by
  funext coins0 sum1 many2; unfold S60 D60; rw [DT60_eq n hn]
/-D 20 -/
noncomputable def DF20_2 (n : Nat × Nat) (f1 : List Int → Int → Int → List Int → Int → Int → List Int → Option R20) (f2 : List Int → Int → Int → Int → List Int → Int → List Int → Int → Int → List Int → Option R20) (coins0 : List Int) (sum1 : Int) (left7 : Int) (c10 : Int) (v11 : List Int) (v12 : Int) (v25 : List Int) (v26 : Int) (v27 : Int) (out8 : List Int) : Option R20 :=
 ((bif (decide (v12 < left7) == true) then (D60 n v11 (wr .i64 (sum1 - (wr .i64 (v12 * c10)))) (wr .i64 (left7 - v12))).bind fun r5' =>
 some (!r5')
 else some false)).bind fun b6' =>
 (bif b6' then f2 coins0 sum1 left7 c10 v11 (wr .i64 (v12 + 1)) v25 v26 v27 out8
 else (bif decide (out8.length + [v12].length ≤ lim) then f1 coins0 (wr .i64 (sum1 - (wr .i64 (v12 * c10)))) (wr .i64 (left7 - v12)) v25 v26 (wr .i64 (v27 + 1)) (out8 ++ [v12])
 else none))
noncomputable def DL20_2 (n : Nat × Nat) (f1 : List Int → Int → Int → List Int → Int → Int → List Int → Option R20) (m : Nat) : List Int → Int → Int → Int → List Int → Int → List Int → Int → Int → List Int → Option R20 := Nat.rec (motive := fun _ => List Int → Int → Int → Int → List Int → Int → List Int → Int → Int → List Int → Option R20) (fun _ _ _ _ _ _ _ _ _ _ => none) (fun _ ih => DF20_2 n f1 ih) m
theorem DL20_2_succ (n : Nat × Nat) (f1 : List Int → Int → Int → List Int → Int → Int → List Int → Option R20) (m : Nat) : DL20_2 n f1 (m + 1) = DF20_2 n f1 (DL20_2 n f1 m) := rfl
theorem DL20_2_eq (n : Nat × Nat) (hn : n.2 = 1) (m1 : Nat) : ∀ m, L20_2 n m1 m = DL20_2 n (L20_1 n m1) m
  | 0 => by funext coins0 sum1 left7 c10 v11 v12 v25 v26 v27 out8; kernel_rfl
  | m + 1 => by
    have ih := DL20_2_eq n hn m1 m
    funext coins0 sum1 left7 c10 v11 v12 v25 v26 v27 out8; refine (L20_2_eq n m1 m coins0 sum1 left7 c10 v11 v12 v25 v26 v27 out8).trans ?_
    rw [DL20_2_succ]
    unfold DF20_2
    (try simp only [ih, S56_D n hn, S57_D n hn, S60_D n hn]) <;> first | with_reducible rfl | rfl
noncomputable def DF20_1 (n : Nat × Nat) (f1 : List Int → Int → Int → List Int → Int → Int → List Int → Option R20) (coins0 : List Int) (sum1 : Int) (left7 : Int) (v25 : List Int) (v26 : Int) (v27 : Int) (out8 : List Int) : Option R20 :=
 (bif decide (v27 < v26) then (idx v25 v27).bind fun x4' =>
 (bif bounds (some (wr .i64 (v27 + 1))) none none coins0.length then DL20_2 n f1 n.1 coins0 sum1 left7 x4' (coins0.drop (Int.toNat (wr .i64 (v27 + 1)))) 0 v25 v26 v27 out8
 else none)
 else some (out8, 0))
noncomputable def DL20_1 (n : Nat × Nat) (m : Nat) : List Int → Int → Int → List Int → Int → Int → List Int → Option R20 := Nat.rec (motive := fun _ => List Int → Int → Int → List Int → Int → Int → List Int → Option R20) (fun _ _ _ _ _ _ _ => none) (fun _ ih => DF20_1 n ih) m
theorem DL20_1_succ (n : Nat × Nat) (m : Nat) : DL20_1 n (m + 1) = DF20_1 n (DL20_1 n m) := rfl
theorem DL20_1_eq (n : Nat × Nat) (hn : n.2 = 1) : ∀ m, L20_1 n m = DL20_1 n m
  | 0 => by funext coins0 sum1 left7 v25 v26 v27 out8; kernel_rfl
  | m + 1 => by
    have ih := DL20_1_eq n hn m
    funext coins0 sum1 left7 v25 v26 v27 out8; refine (L20_1_eq n m coins0 sum1 left7 v25 v26 v27 out8).trans ?_
    rw [DL20_1_succ]
    unfold DF20_1
    (try simp only [ih, DL20_2_eq n hn, S56_D n hn, S57_D n hn, S60_D n hn]) <;> first | with_reducible rfl | rfl
noncomputable def D20 (n : Nat × Nat) (coins0 : List Int) (sum1 : Int) : Option R20 :=
 (D56 n coins0 sum1).bind fun r1' =>
 (bif (r1' != 0) then some ([], r1')
 else (D57 n coins0 sum1).bind fun r2' =>
 (bif inB sum1 r2'.length then (idx r2' sum1).bind fun x3' =>
        DL20_1 n n.1 coins0 sum1 x3' coins0 (coins0.length : Int) 0 []
 else none))
theorem S20_D (n : Nat × Nat) (hn : n.2 = 1) : S20 n = D20 n := by
  funext coins0 sum1; refine (S20_eq n coins0 sum1).trans ?_
  unfold D20
  (try simp only [DL20_2_eq n hn, DL20_1_eq n hn, S56_D n hn, S57_D n hn, S60_D n hn]) <;> first | with_reducible rfl | rfl
/-D 63 -/
noncomputable def D63 (n : Nat × Nat) (coins0 : List Int) (sum1 : Int) : Option R63 := HF63 coins0 sum1
theorem S63_D (n : Nat × Nat) (hn : n.2 = 1) : S63 n = D63 n := by unfold S63 D63; rfl
/-D 22 -/
noncomputable def D22 (n : Nat × Nat) (coins0 : List Int) (sum1 : Int) : Option R22 :=
 (D56 n coins0 sum1).bind fun r1' =>
 (bif (r1' != 0) then some ([], r1')
 else (D63 n coins0 sum1).bind fun r2' =>
 some (r2'.1, 0))
theorem S22_D (n : Nat × Nat) (hn : n.2 = 1) : S22 n = D22 n := by
  funext coins0 sum1; refine (S22_eq n coins0 sum1).trans ?_
  unfold D22
  (try simp only [S56_D n hn, S63_D n hn]) <;> first | with_reducible rfl | rfl
/-D 66 -/
noncomputable def DF66_1 (n : Nat × Nat) (f1 : List Int → Int → Int → List Int → Option R66) (coins0 : List Int) (v18 : Int) (v19 : Int) (v17 : List Int) : Option R66 :=
 (bif decide (v19 < v18) then (bif inB v19 v17.length then (idx v17 v19).bind fun x3' =>
 (D63 n coins0 v19).bind fun r4' =>
 (bif decide (r4'.2 > x3') then some v19
 else f1 coins0 v18 (wr .i64 (v19 + 1)) v17)
 else none)
 else some 0)
noncomputable def DL66_1 (n : Nat × Nat) (m : Nat) : List Int → Int → Int → List Int → Option R66 := Nat.rec (motive := fun _ => List Int → Int → Int → List Int → Option R66) (fun _ _ _ _ => none) (fun _ ih => DF66_1 n ih) m
theorem DL66_1_succ (n : Nat × Nat) (m : Nat) : DL66_1 n (m + 1) = DF66_1 n (DL66_1 n m) := rfl
theorem DL66_1_eq (n : Nat × Nat) (hn : n.2 = 1) : ∀ m, L66_1 n m = DL66_1 n m
  | 0 => by funext coins0 v18 v19 v17; kernel_rfl
  | m + 1 => by
    have ih := DL66_1_eq n hn m
    funext coins0 v18 v19 v17; refine (L66_1_eq n m coins0 v18 v19 v17).trans ?_
    rw [DL66_1_succ]
    unfold DF66_1
    (try simp only [ih, S57_D n hn, S63_D n hn]) <;> first | with_reducible rfl | rfl
noncomputable def D66 (n : Nat × Nat) (coins0 : List Int) : Option R66 :=
 (idx coins0 (wr .i64 ((coins0.length : Int) - 1))).bind fun x1' =>
 (D57 n coins0 (wr .i64 (2 * x1'))).bind fun r2' =>
    DL66_1 n n.1 coins0 (r2'.length : Int) 0 r2'
theorem S66_D (n : Nat × Nat) (hn : n.2 = 1) : S66 n = D66 n := by
  funext coins0; refine (S66_eq n coins0).trans ?_
  unfold D66
  (try simp only [DL66_1_eq n hn, S57_D n hn, S63_D n hn]) <;> first | with_reducible rfl | rfl
/-D 27 -/
noncomputable def D27 (n : Nat × Nat) (coins0 : List Int) : Option R27 :=
 (D25 n coins0).bind fun r1' =>
 (bif (r1' != 0) then some (false, r1')
 else (D66 n coins0).bind fun r2' =>
 some ((r2' == 0), 0))
theorem S27_D (n : Nat × Nat) (hn : n.2 = 1) : S27 n = D27 n := by
  funext coins0; refine (S27_eq n coins0).trans ?_
  unfold D27
  (try simp only [S25_D n hn, S66_D n hn]) <;> first | with_reducible rfl | rfl
/-D 53 -/
noncomputable def D53 (n : Nat × Nat) : Option R53 :=
 some [1, 5, 10]
theorem S53_D (n : Nat × Nat) (hn : n.2 = 1) : S53 n = D53 n := by
  refine (S53_eq n).trans ?_
  unfold D53
  first | with_reducible rfl | rfl
/-D 29 -/
noncomputable def D29 (n : Nat × Nat) (coins0 : List Int) : Option R29 :=
 (D25 n coins0).bind fun r1' =>
 (bif (r1' != 0) then some (0, r1')
 else (D66 n coins0).bind fun r2' =>
 (bif (r2' == 0) then some (0, 13)
 else some (r2', 0)))
theorem S29_D (n : Nat × Nat) (hn : n.2 = 1) : S29 n = D29 n := by
  funext coins0; refine (S29_eq n coins0).trans ?_
  unfold D29
  (try simp only [S25_D n hn, S66_D n hn]) <;> first | with_reducible rfl | rfl
/-D 37 -/
noncomputable def D37 (n : Nat × Nat) (coins0 : List Int) (sum1 : Int) : Option R37 := HF37 (D56 n) coins0 sum1
theorem S37_D (n : Nat × Nat) (hn : n.2 = 1) : S37 n = D37 n := by unfold S37 D37; rw [S56_D n hn]
/-D 35 -/
noncomputable def D35 (n : Nat × Nat) (coins0 : List Int) (many1 : Int) : Option R35 := HF35 (D25 n) coins0 many1
theorem S35_D (n : Nat × Nat) (hn : n.2 = 1) : S35 n = D35 n := by unfold S35 D35; rw [S25_D n hn]
/-D 39 -/
noncomputable def DL39_2 (n : Nat × Nat) (f1 : Int → Int → Int → Nat → Nat → Int → Int → List Int → Option R39) (sum1 : Int) (pay4 : Int) (back5 : Int) (v38o : Nat) (v38w : Nat) (v39 : Int) (v40 : Int) (l9 : List Int) : Option R39 :=
    f1 sum1 pay4 back5 v38o v38w v39 (wr .i64 (v40 + 1)) l9
theorem DL39_2_eq (n : Nat × Nat) (hn : n.2 = 1) (m1 : Nat) : L39_2 n m1 = DL39_2 n (L39_1 n m1) := by
  funext sum1 pay4 back5 v38o v38w v39 v40 l9; refine ((held_eq hn _).trans (L39_2_raw n m1 sum1 pay4 back5 v38o v38w v39 v40 l9)).trans ?_
  unfold DL39_2
  (try simp only [S56_D n hn, S57_D n hn]) <;> first | with_reducible rfl | rfl
noncomputable def DF39_1 (n : Nat × Nat) (f1 : Int → Int → Int → Nat → Nat → Int → Int → List Int → Option R39) (sum1 : Int) (pay4 : Int) (back5 : Int) (v38o : Nat) (v38w : Nat) (v39 : Int) (v40 : Int) (l9 : List Int) : Option R39 :=
 (bif decide (v40 < v39) then (bif inB v40 ((l9.drop v38o).take v38w).length then (idx ((l9.drop v38o).take v38w) v40).bind fun x5' =>
 (bif inB (wr .i64 (sum1 + v40)) l9.length then (idx l9 (wr .i64 (sum1 + v40))).bind fun x6' =>
 ((bif (decide (wr .i64 ((wr .i64 ((wr .i64 (x6' + x5')) - pay4)) - back5) < 0) == false) then ((bif (((wr .i64 ((wr .i64 ((wr .i64 (x6' + x5')) - pay4)) - back5)) == 0) == true) then some (decide (x5' < back5))
 else some false)).bind fun b7' =>
 some b7'
 else some true)).bind fun b8' =>
 (bif b8' then DL39_2 n f1 sum1 x6' x5' v38o v38w v39 v40 l9
 else DL39_2 n f1 sum1 pay4 back5 v38o v38w v39 v40 l9)
 else none)
 else none)
 else some (pay4, back5, 0))
noncomputable def DL39_1 (n : Nat × Nat) (m : Nat) : Int → Int → Int → Nat → Nat → Int → Int → List Int → Option R39 := Nat.rec (motive := fun _ => Int → Int → Int → Nat → Nat → Int → Int → List Int → Option R39) (fun _ _ _ _ _ _ _ _ => none) (fun _ ih => DF39_1 n ih) m
theorem DL39_1_succ (n : Nat × Nat) (m : Nat) : DL39_1 n (m + 1) = DF39_1 n (DL39_1 n m) := rfl
theorem DL39_1_eq (n : Nat × Nat) (hn : n.2 = 1) : ∀ m, L39_1 n m = DL39_1 n m
  | 0 => by funext sum1 pay4 back5 v38o v38w v39 v40 l9; kernel_rfl
  | m + 1 => by
    have ih := DL39_1_eq n hn m
    funext sum1 pay4 back5 v38o v38w v39 v40 l9; refine (L39_1_eq n m sum1 pay4 back5 v38o v38w v39 v40 l9).trans ?_
    rw [DL39_1_succ]
    unfold DF39_1
    (try simp only [ih, DL39_2_eq n hn, S56_D n hn, S57_D n hn]) <;> first | with_reducible rfl | rfl
noncomputable def D39 (n : Nat × Nat) (coins0 : List Int) (sum1 : Int) : Option R39 :=
 (D56 n coins0 sum1).bind fun r1' =>
 (bif (r1' != 0) then some (0, 0, r1')
 else (idx coins0 (wr .i64 ((coins0.length : Int) - 1))).bind fun x2' =>
 (D57 n coins0 (wr .i64 (sum1 + x2'))).bind fun r3' =>
 (bif inB sum1 r3'.length then (idx r3' sum1).bind fun x4' =>
 (bif bounds none (some (wr .i64 (x2' + 1))) none r3'.length then DL39_1 n n.1 sum1 x4' 0 (0 + 0) ((Int.toNat (wr .i64 (x2' + 1))) - 0) (((r3'.drop (0 + 0)).take ((Int.toNat (wr .i64 (x2' + 1))) - 0)).length : Int) 0 r3'
 else none)
 else none))
theorem S39_D (n : Nat × Nat) (hn : n.2 = 1) : S39 n = D39 n := by
  funext coins0 sum1; refine (S39_eq n coins0 sum1).trans ?_
  unfold D39
  (try simp only [DL39_2_eq n hn, DL39_1_eq n hn, S56_D n hn, S57_D n hn]) <;> first | with_reducible rfl | rfl
/-D 75 -/
noncomputable def DF75_1 (n : Nat × Nat) (f1 : List Int → Int → Int → Option R75) (x0 : List Int) (m3 : Int) (i4 : Int) : Option R75 :=
 (bif decide (i4 < (x0.length : Int)) then (idx x0 i4).bind fun x2' =>
      f1 x0 (if x2' < m3 then x2' else m3) (wr .i64 (i4 + 1))
 else some m3)
noncomputable def DL75_1 (n : Nat × Nat) (m : Nat) : List Int → Int → Int → Option R75 := Nat.rec (motive := fun _ => List Int → Int → Int → Option R75) (fun _ _ _ => none) (fun _ ih => DF75_1 n ih) m
theorem DL75_1_succ (n : Nat × Nat) (m : Nat) : DL75_1 n (m + 1) = DF75_1 n (DL75_1 n m) := rfl
theorem DL75_1_eq (n : Nat × Nat) (hn : n.2 = 1) : ∀ m, L75_1 n m = DL75_1 n m
  | 0 => by funext x0 m3 i4; kernel_rfl
  | m + 1 => by
    have ih := DL75_1_eq n hn m
    funext x0 m3 i4; refine (L75_1_eq n m x0 m3 i4).trans ?_
    rw [DL75_1_succ]
    unfold DF75_1
    (try simp only [ih]) <;> first | with_reducible rfl | rfl
noncomputable def D75 (n : Nat × Nat) (x0 : List Int) : Option R75 :=
 (bif decide ((x0.length : Int) < 1) then none
 else (idx x0 0).bind fun x1' =>
      DL75_1 n n.1 x0 x1' 1)
theorem S75_D (n : Nat × Nat) (hn : n.2 = 1) : S75 n = D75 n := by
  funext x0; refine (S75_eq n x0).trans ?_
  unfold D75
  (try simp only [DL75_1_eq n hn]) <;> first | with_reducible rfl | rfl
/-D 76 -/
noncomputable def DF76_1 (n : Nat × Nat) (f1 : List Int → Int → Int → Option R76) (x0 : List Int) (m3 : Int) (i4 : Int) : Option R76 :=
 (bif decide (i4 < (x0.length : Int)) then (idx x0 i4).bind fun x2' =>
      f1 x0 (if x2' > m3 then x2' else m3) (wr .i64 (i4 + 1))
 else some m3)
noncomputable def DL76_1 (n : Nat × Nat) (m : Nat) : List Int → Int → Int → Option R76 := Nat.rec (motive := fun _ => List Int → Int → Int → Option R76) (fun _ _ _ => none) (fun _ ih => DF76_1 n ih) m
theorem DL76_1_succ (n : Nat × Nat) (m : Nat) : DL76_1 n (m + 1) = DF76_1 n (DL76_1 n m) := rfl
theorem DL76_1_eq (n : Nat × Nat) (hn : n.2 = 1) : ∀ m, L76_1 n m = DL76_1 n m
  | 0 => by funext x0 m3 i4; kernel_rfl
  | m + 1 => by
    have ih := DL76_1_eq n hn m
    funext x0 m3 i4; refine (L76_1_eq n m x0 m3 i4).trans ?_
    rw [DL76_1_succ]
    unfold DF76_1
    (try simp only [ih]) <;> first | with_reducible rfl | rfl
noncomputable def D76 (n : Nat × Nat) (x0 : List Int) : Option R76 :=
 (bif decide ((x0.length : Int) < 1) then none
 else (idx x0 0).bind fun x1' =>
      DL76_1 n n.1 x0 x1' 1)
theorem S76_D (n : Nat × Nat) (hn : n.2 = 1) : S76 n = D76 n := by
  funext x0; refine (S76_eq n x0).trans ?_
  unfold D76
  (try simp only [DL76_1_eq n hn]) <;> first | with_reducible rfl | rfl
/-D 68 -/
noncomputable def D68 (n : Nat × Nat) (coins0 : List Int) (l1 : List Int) : Option R68 :=
 (bif ((l1.length : Int) != (coins0.length : Int)) then some 5
 else (D75 n l1).bind fun r1' =>
 ((bif (decide (r1' < 0) == false) then (D76 n l1).bind fun r2' =>
 some (decide (r2' > 200))
 else some true)).bind fun b3' =>
 (bif b3' then some 1
 else some 0))
theorem S68_D (n : Nat × Nat) (hn : n.2 = 1) : S68 n = D68 n := by
  funext coins0 l1; refine (S68_eq n coins0 l1).trans ?_
  unfold D68
  (try simp only [S75_D n hn, S76_D n hn]) <;> first | with_reducible rfl | rfl
/-D 79 -/
noncomputable def D79 (n : Nat × Nat) (x0 : Int) (y1 : Int) : Option R79 :=
 (bif decide (32 < 0) then none
 else some (wr .u32 (Int.fdiv (wr .u64 ((wr .u64 x0) * (wr .u64 y1))) (2 ^ (min (Int.toNat 32) (IntKind.bits .u64)))), wr .u32 (wr .u64 ((wr .u64 x0) * (wr .u64 y1)))))
theorem S79_D (n : Nat × Nat) (hn : n.2 = 1) : S79 n = D79 n := by
  funext x0 y1; refine (S79_eq n x0 y1).trans ?_
  unfold D79
  first | with_reducible rfl | rfl
/-D 80 -/
noncomputable def D80 (n : Nat × Nat) (x0 : Int) (y1 : Int) : Option R80 :=
 (bif decide (32 < 0) then none
 else (bif decide (32 < 0) then none
 else (bif decide (32 < 0) then none
 else (bif decide (32 < 0) then none
 else (bif decide (32 < 0) then none
 else some (wr .u64 ((wr .u64 ((wr .u64 ((Int.fdiv x0 (2 ^ (min (Int.toNat 32) (IntKind.bits .u64)))) * (Int.fdiv y1 (2 ^ (min (Int.toNat 32) (IntKind.bits .u64)))))) + (Int.fdiv (wr .u64 ((wr .u64 ((Int.fdiv x0 (2 ^ (min (Int.toNat 32) (IntKind.bits .u64)))) * (wr .u64 (BitVec.ofInt (IntKind.bits .u64) y1 &&& BitVec.ofInt (IntKind.bits .u64) 4294967295).toNat))) + (Int.fdiv (wr .u64 ((wr .u64 (BitVec.ofInt (IntKind.bits .u64) x0 &&& BitVec.ofInt (IntKind.bits .u64) 4294967295).toNat) * (wr .u64 (BitVec.ofInt (IntKind.bits .u64) y1 &&& BitVec.ofInt (IntKind.bits .u64) 4294967295).toNat))) (2 ^ (min (Int.toNat 32) (IntKind.bits .u64)))))) (2 ^ (min (Int.toNat 32) (IntKind.bits .u64)))))) + (Int.fdiv (wr .u64 ((wr .u64 (BitVec.ofInt (IntKind.bits .u64) (wr .u64 ((wr .u64 ((Int.fdiv x0 (2 ^ (min (Int.toNat 32) (IntKind.bits .u64)))) * (wr .u64 (BitVec.ofInt (IntKind.bits .u64) y1 &&& BitVec.ofInt (IntKind.bits .u64) 4294967295).toNat))) + (Int.fdiv (wr .u64 ((wr .u64 (BitVec.ofInt (IntKind.bits .u64) x0 &&& BitVec.ofInt (IntKind.bits .u64) 4294967295).toNat) * (wr .u64 (BitVec.ofInt (IntKind.bits .u64) y1 &&& BitVec.ofInt (IntKind.bits .u64) 4294967295).toNat))) (2 ^ (min (Int.toNat 32) (IntKind.bits .u64)))))) &&& BitVec.ofInt (IntKind.bits .u64) 4294967295).toNat) + (wr .u64 ((wr .u64 (BitVec.ofInt (IntKind.bits .u64) x0 &&& BitVec.ofInt (IntKind.bits .u64) 4294967295).toNat) * (Int.fdiv y1 (2 ^ (min (Int.toNat 32) (IntKind.bits .u64)))))))) (2 ^ (min (Int.toNat 32) (IntKind.bits .u64))))), wr .u64 (x0 * y1)))))))
theorem S80_D (n : Nat × Nat) (hn : n.2 = 1) : S80 n = D80 n := by
  funext x0 y1; refine (S80_eq n x0 y1).trans ?_
  unfold D80
  first | with_reducible rfl | rfl
/-D 74 -/
noncomputable def D74 (n : Nat × Nat) (x0 : Int) (y1 : Int) : Option R74 :=
 (bif false then (D79 n (wr .u32 x0) (wr .u32 y1)).bind fun r1' =>
 some (wr .u64 r1'.1, wr .u64 r1'.2)
 else (D80 n x0 y1).bind fun r2' =>
 some (r2'.1, r2'.2))
theorem S74_D (n : Nat × Nat) (hn : n.2 = 1) : S74 n = D74 n := by
  funext x0 y1; refine (S74_eq n x0 y1).trans ?_
  unfold D74
  (try simp only [S79_D n hn, S80_D n hn]) <;> first | with_reducible rfl | rfl
end Go.Proofs.Ytjgmfdgpgdaclaa
