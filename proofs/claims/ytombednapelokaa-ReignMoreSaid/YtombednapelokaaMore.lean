/- The law ReignMore returns true, whatever the input: no condition. -/
import Derived.Test.YtombednapelokaaRows
import Derived.Test.YtombednapelokaaViX
import Derived.Test.YtombednapelokaaLG10
import Derived.Test.YtombednapelokaaMs
import Derived.ProofKit
set_option linter.unusedVariables false
set_option linter.unusedSimpArgs false
namespace Go.Proofs.Ytombednapelokaa
open Go.ChangeShapes Go.WideShapes Go.ChangeAt Go.RowKit Go.Vi

abbrev N1 : Nat × Nat := (100000000000000000000, 1)

theorem works_val1 : D18 N1 = some true := by kernel_rfl

theorem below_eq (n : Nat × Nat) {a b : Frc} (ha : Fr a) (hb : Fr b) : D62 n a b = some (a.1 * b.2 - b.1 * a.2) := by
  have h1 := prodb ha.np ha.nl hb.dp hb.dl
  have h2 := prodb hb.np hb.nl ha.dp ha.dl
  unfold D62
  rw [wr_ok (x := a.1 * b.2) (by omega) (by omega), wr_ok (x := b.1 * a.2) (by omega) (by omega), wr_ok (by omega) (by omega)]

theorem more_loop {v w : List Frc} (hl : w.length = v.length) (h8 : v.length ≤ 8) (hv : ∀ f ∈ v, Val f) (hw : ∀ f ∈ w, Val f) (h : ∀ i (h1 : i < v.length) (h2 : i < w.length), fle v[i] w[i]) : ∀ (m k : Nat), k ≤ v.length → v.length - k < m → DL10_1 N1 m (v.length : Int) (k : Int) v w = some true
  | 0, k, _, h => by omega
  | m + 1, k, hk, hm => by
    rw [DL10_1_succ]
    unfold DF10_1
    by_cases hlt : k < v.length
    · have hlw : k < w.length := by omega
      have F1 := (hv _ (List.getElem_mem hlt)).fr
      have F2 := (hw _ (List.getElem_mem hlw)).fr
      have hle := h k hlt hlw
      unfold fle at hle
      rw [show decide ((k : Int) < (v.length : Int)) = true by simpa using hlt, cond_true, show inB (k : Int) w.length = true by simp [inB]; omega, cond_true, idx_nat hlw]
      simp only [Option.bind_some]
      rw [show inB (k : Int) v.length = true by simp [inB]; omega, cond_true, idx_nat hlt]
      simp only [Option.bind_some, below_eq N1 F2 F1]
      rw [show decide (w[k].1 * v[k].2 - v[k].1 * w[k].2 < 0) = false from decide_eq_false (by omega), cond_false, show wr .i64 ((k : Int) + 1) = ((k + 1 : Nat) : Int) by rw [wr_ok (by omega) (by omega)]; omega]
      exact more_loop hl h8 hv hw h m (k + 1) hlt (by omega)
    · rw [show decide ((k : Int) < (v.length : Int)) = false by simpa using hlt, cond_false, works_val1]
      rfl

theorem more_val (a : ShA.den) (ha : Wf ShA a) {one by_ : Int} (h1 : 0 ≤ one ∧ one ≤ 255) (h2 : 0 ≤ by_ ∧ by_ ≤ 255) : D10 N1 a one by_ = some true := by
  obtain ⟨l, hg, _, _, e1⟩ := made_eq (n := N1) (by decide) a ha (many := 8) (y := 100) (by omega) (by omega)
  have hp := hg.pos
  have h8 := hg.le
  unfold D10
  rw [e1]
  simp only [Option.bind_some]
  rw [show ((l.length : Int) == 0) = false by rw [beq_eq_false_iff_ne]; omega, cond_false, clone_eq N1 hg]
  simp only [Option.bind_some]
  rw [wr_ok (x := one) (by omega) (by omega)]
  have t1 := tmod_rng h1.1 (show 0 < (l.length : Int) by omega)
  generalize Int.tmod one (l.length : Int) = ki at t1 ⊢
  obtain ⟨k, rfl⟩ := Int.eq_ofNat_of_zero_le t1.1
  have hk : k < l.length := by omega
  have hin : inB (k : Int) l.length = true := by simp [inB]; omega
  have hs := hg.all l[k] (List.getElem_mem hk)
  simp only [hin, cond_true, idx_nat hk, Option.bind_some]
  rw [wr_ok (x := 101 - l[k].1) (by omega) (by omega), show ((101 - l[k].1) == 0) = false by simp; omega, cond_false, wr_ok (x := by_) (by omega) (by omega)]
  have t2 := tmod_rng h2.1 (show 0 < 101 - l[k].1 by omega)
  rw [wr_ok (x := l[k].1 + Int.tmod by_ (101 - l[k].1)) (by omega) (by omega), Int.toNat_natCast]
  generalize hsn : (l[k].1 + Int.tmod by_ (101 - l[k].1), l[k].2) = s
  have hs1 : s.1 = l[k].1 + Int.tmod by_ (101 - l[k].1) := by rw [← hsn]
  have hs2 : s.2 = l[k].2 := by rw [← hsn]
  have hg' : Good (l.set k s) := ⟨by simpa using hp, by simpa using h8, fun x hx => by
    rcases List.mem_or_eq_of_mem_set hx with hx | rfl
    · exact hg.all x hx
    · omega⟩
  obtain ⟨K, b1, b2, b3, b4, b5⟩ := nearest_eq (n := N1) (by decide) hg
  obtain ⟨K', c1, c2, c3, c4, c5⟩ := nearest_eq (n := N1) (by decide) hg'
  have hlen : (l.set k s).length = l.length := by simp
  rw [b2, c2]
  simp only [Option.bind_some, bne_self_eq_false, orB, Bool.or_self]
  rw [many_eq (n := N1) (by decide) b5 (by omega) (by omega), many_eq (n := N1) (by decide) c5 (by omega) (by omega)]
  simp only [Option.bind_some, Bool.not_true, orB, Bool.or_self, cond_false]
  refine more_loop (by omega) (by omega) b5 c5 (fun i i1 i2 => ?_) N1.1 0 (by omega) (by show _ < 100000000000000000000; omega)
  obtain ⟨x, hx, x1, x2, x3⟩ := b4 i _ (List.getElem?_eq_getElem i1)
  obtain ⟨y, hy, y1, y2, y3⟩ := c4 i _ (List.getElem?_eq_getElem i2)
  rw [x3, y3]
  exact more_le hg.ok hg'.ok hlen (seg_set hk hs2 (by omega) (by omega)) b1 c1 hx hy x1 x2 y1 y2

theorem reignMore_val (xs : pksDen (pks [ShA, .int .u8, .int .u8])) (h : WfL [ShA, .int .u8, .int .u8] xs) : ∃ n, S10 n xs.1 xs.2.1 xs.2.2.1 = some true :=
  ⟨N1, by rw [S10_D N1 rfl]; exact more_val xs.1 h.1 (u8_rng h.2.1) (u8_rng h.2.2.1)⟩

set_option maxRecDepth 100000 in
theorem reignMore_lifted (os : Os) (started : os.Started) (H : Type) (enc : TypeId × Value → H) :
    ReturnsInHanded {} Try.checked os 10 .any (Rows.reignMoreSpec.pre6 enc Try.prog Try.f10 Rows.reignMoreRow.domain false) (Rows.reignMoreSpec.post enc Try.prog Try.f10 false true false false) := by
  refine returnsInHanded_of_change (C := Try.checked) (by kernel_rfl) started (by kernel_rfl) Try.func10
    (ChangeSpec.witness6 (enc := enc) (C := Try.checked) false ⟨#[], #[.agg #[.int .u8 0, .int .u8 0, .int .u8 0, .int .u8 0, .int .u8 0, .int .u8 0, .int .u8 0, .int .u8 0, .int .u8 0, .int .u8 0, .int .u8 0, .int .u8 0, .int .u8 0, .int .u8 0, .int .u8 0, .int .u8 0, .int .u8 0], .int .u8 0, .int .u8 0], []⟩ 8 (by kernel_rfl) (by kernel_rfl) (by kernel_rfl) (by kernel_rfl)) ?_
  intro W base args ds gs before hval hW hcnd _
  exact law_post (P := Try.prog) (ss := [ShA, .int .u8, .int .u8]) (n := 8) (tb := 4) (t0 := 6) (S := fun n xs => S10 n xs.1 xs.2.1 xs.2.2.1) (fun n => FC10 n) (fun xs hx => reignMore_val xs hx) (by kernel_rfl) (by kernel_rfl) (by kernel_rfl) (by kernel_rfl) Try.underlying4 rfl
    (fun H ds h => by match ds, h with | [d0, d1, d2], _ => rfl) hval hW

theorem reignMore_holds : Rows.ReignMoreSaid :=
  OpenClaim.holds_of_wide 10 Try.f10 rfl rfl rfl rfl rfl rfl rfl ⟨rfl, rfl, rfl, rfl, rfl⟩ rfl rfl rfl rfl rfl (by kernel_rfl) Try.func10 (by kernel_rfl)
    (of_decide_eq_true (by kernel_rfl)) (by unfold Func.isWrapper; first | (rw [if_pos (by decide +kernel)]; kernel_rfl) | (rw [if_neg (by decide +kernel)]; exact ⟨rfl, rfl⟩))
    (fun os started H enc _ => reignMore_lifted os started H enc)
end Go.Proofs.Ytombednapelokaa
