/-
  Vi: what the table of types says of the program's types; reading and writing rows of cells.
-/
import Derived.Test.YtombednapelokaaViR
import Derived.Laws.Rows
import Derived.Laws.CopyRow
import Derived.Laws.Append
set_option linter.unusedVariables false
set_option linter.unusedSimpArgs false
namespace Go.Vi

def isAggD : TypeDesc → Bool
  | .struct _ => true
  | .array _ _ => true
  | _ => false

/-- Zero cells. -/
def zeroB : List C → List Value → Bool
  | [], [] => true
  | .int k n :: r, .int k' n' :: r' => decide (k = k') && n == n' && zeroB r r'
  | .bool b :: r, .bool b' :: r' => b == b' && zeroB r r'
  | .str s :: r, .string s' :: r' => decide (s = s') && zeroB r r'
  | .sl _ [] _ :: r, .slice none 0 0 :: r' => zeroB r r'
  | _, _ => false

theorem zeroB_all2 {w : World} {A : Nat → Prop} : ∀ {cs : List C} {vs : List Value}, zeroB cs vs = true → All2 (CR w A) cs vs
  | [], [], _ => trivial
  | .int k n :: r, v :: r', h => by
    cases v <;> simp [zeroB] at h
    obtain ⟨⟨rfl, rfl⟩, h⟩ := h
    exact ⟨rfl, zeroB_all2 h⟩
  | .bool b :: r, v :: r', h => by
    cases v <;> simp [zeroB] at h
    obtain ⟨rfl, h⟩ := h
    exact ⟨rfl, zeroB_all2 h⟩
  | .str b :: r, v :: r', h => by
    cases v <;> simp [zeroB] at h
    obtain ⟨rfl, h⟩ := h
    exact ⟨rfl, zeroB_all2 h⟩
  | .sl e xs t :: r, v :: r', h => by
    cases xs with
    | cons x xs => simp [zeroB] at h
    | nil =>
      unfold zeroB at h
      split at h <;> simp_all
      all_goals
        rename_i h1 h2
        obtain ⟨⟨rfl, h3, rfl⟩, rfl⟩ := h1
        exact ⟨⟨none, 0, by simp, Nat.le_refl _, fun _ => rfl, .inl rfl⟩, zeroB_all2 h⟩
  | [], _ :: _, h => by simp [zeroB] at h
  | .int _ _ :: _, [], h => by simp [zeroB] at h
  | .bool _ :: _, [], h => by simp [zeroB] at h
  | .str _ :: _, [], h => by simp [zeroB] at h
  | .sl _ _ _ :: _, [], h => by simp [zeroB] at h

def isAggV : Value → Bool
  | .agg _ => true
  | _ => false

structure Base (P : Program) (t : TypeId) (s : Sh) : Prop where
  zag : ∀ i z, P.info? t = some i → i.zero = some z → isAggV z = s.agg
  ex : ∃ i d z, P.info? t = some i ∧ P.underlying t = some d ∧ i.size = s.nc ∧ i.bytes ≤ 4096 ∧ i.zero = some z ∧ zeroB (cells s (zero s)) z.cells.toList = true ∧ isAggD d = s.agg

def baseB (P : Program) (t : TypeId) (s : Sh) : Bool :=
  match P.info? t, P.underlying t with
  | some i, some d =>
    match i.zero with
    | some z => isAggV z == s.agg && Nat.beq i.size s.nc && Nat.ble i.bytes 4096 && zeroB (cells s (zero s)) z.cells.toList && isAggD d == s.agg
    | none => false
  | _, _ => false

theorem baseB_base {P : Program} {t : TypeId} {s : Sh} (h : baseB P t s = true) : Base P t s := by
  unfold baseB at h
  split at h
  · rename_i i d hi hd
    split at h
    · rename_i z hz
      simp only [Bool.and_eq_true, beq_iff_eq] at h
      refine ⟨fun i' z' hi' hz' => ?_, ⟨i, d, z, hi, hd, Nat.eq_of_beq_eq_true h.1.1.1.2, Nat.le_of_ble_eq_true h.1.1.2, hz, h.1.2, h.2⟩⟩
      rw [hi] at hi'
      cases hi'
      rw [hz] at hz'
      cases hz'
      exact h.1.1.1.1
    · cases h
  · cases h

structure ShOK (P : Program) (t : TypeId) (s : Sh) : Prop where
  base : Base P t s
  sl : ∀ e, s = .sl e → ∃ et, P.underlying t = some (.slice et) ∧ Base P et e ∧ 0 < e.nc
  int : ∀ k, s = .int k → P.underlying t = some (.int k)
  bool : s = .bool → P.underlying t = some .bool
  str : s = .str → P.underlying t = some .string

def descB (s : Sh) (d : TypeDesc) (P : Program) : Bool :=
  match s, d with
  | .sl e, .slice et => baseB P et e && Nat.ble 1 e.nc
  | .sl _, _ => false
  | .int k, .int k' => decide (k = k')
  | .int _, _ => false
  | .bool, .bool => true
  | .bool, _ => false
  | .str, .string => true
  | .str, _ => false
  | _, _ => true

def shB (P : Program) (p : Nat × Sh) : Bool :=
  baseB P p.1 p.2 && (match P.underlying p.1 with | some d => descB p.2 d P | none => false)

theorem shB_ok {P : Program} {t : TypeId} {s : Sh} (h : shB P (t, s) = true) : ShOK P t s := by
  simp only [shB, Bool.and_eq_true] at h
  obtain ⟨h1, h2⟩ := h
  refine ⟨baseB_base h1, ?_, ?_, ?_, ?_⟩
  · rintro e rfl
    split at h2
    · rename_i d hd
      unfold descB at h2
      split at h2 <;> simp_all
      exact ⟨baseB_base h2.1, h2.2⟩
    · cases h2
  · rintro k rfl
    split at h2
    · rename_i d hd
      unfold descB at h2
      split at h2 <;> simp_all
    · cases h2
  · rintro rfl
    split at h2
    · rename_i d hd
      unfold descB at h2
      split at h2 <;> simp_all
    · cases h2
  · rintro rfl
    split at h2
    · rename_i d hd
      unfold descB at h2
      split at h2 <;> simp_all
    · cases h2

/-- The fields of a struct. -/
structure FldOK (P : Program) (t : TypeId) (fs : List Sh) : Prop where
  ex : ∃ fields : Array Field, P.underlying t = some (.struct fields) ∧ fields.size = fs.length ∧
    ∀ j s, fs[j]? = some s → ∃ f, fields[j]? = some f ∧ f.offset = fieldOff fs j ∧ Base P f.type s ∧ 0 < s.nc

def fldsB (P : Program) (fs : List Sh) : Nat → List Field → List Sh → Bool
  | _, [], [] => true
  | j, f :: r, s :: r' => Nat.beq f.offset (fieldOff fs j) && baseB P f.type s && Nat.ble 1 s.nc && fldsB P fs (j + 1) r r'
  | _, _, _ => false

theorem fldsB_get {P : Program} {fs : List Sh} : ∀ {j : Nat} {r : List Field} {r' : List Sh}, fldsB P fs j r r' = true → r.length = r'.length ∧
    ∀ i s, r'[i]? = some s → ∃ f, r[i]? = some f ∧ f.offset = fieldOff fs (j + i) ∧ Base P f.type s ∧ 0 < s.nc
  | j, [], [], _ => ⟨rfl, fun i s h => by simp at h⟩
  | j, f :: r, s :: r', h => by
    simp only [fldsB, Bool.and_eq_true] at h
    obtain ⟨⟨⟨h1, h2⟩, h3⟩, h4⟩ := h
    obtain ⟨h5, h6⟩ := fldsB_get h4
    refine ⟨by simp [h5], fun i s' hi => ?_⟩
    cases i with
    | zero =>
      simp at hi
      subst hi
      exact ⟨f, by simp, Nat.eq_of_beq_eq_true h1, baseB_base h2, by have := Nat.le_of_ble_eq_true h3; omega⟩
    | succ i =>
      simp at hi
      obtain ⟨f', hf, ho, hb⟩ := h6 i s' hi
      exact ⟨f', by simpa using hf, by rw [ho]; congr 1; omega, hb⟩
  | _, [], _ :: _, h => by simp [fldsB] at h
  | _, _ :: _, [], h => by simp [fldsB] at h

def fldB (P : Program) (p : Nat × List Sh) : Bool :=
  match P.underlying p.1 with
  | some (.struct fields) => fldsB P p.2 0 fields.toList p.2
  | _ => false

theorem fldB_ok {P : Program} {t : TypeId} {fs : List Sh} (h : fldB P (t, fs) = true) : FldOK P t fs := by
  unfold fldB at h
  split at h
  · rename_i fields hd
    obtain ⟨h1, h2⟩ := fldsB_get h
    exact ⟨⟨fields, hd, by simpa using h1, fun j s hj => by obtain ⟨f, hf, ho, hb⟩ := h2 j s hj; exact ⟨f, by simpa using hf, by simpa using ho, hb⟩⟩⟩
  · cases h

def arrB (P : Program) (p : Nat × (Nat × Sh)) : Bool :=
  match P.underlying p.1 with
  | some (.array n et) => Nat.beq n p.2.1 && baseB P et p.2.2 && Nat.ble 1 p.2.2.nc
  | _ => false

def ArrOK (P : Program) (t : TypeId) (n : Nat) (e : Sh) : Prop := ∃ et, P.underlying t = some (.array n et) ∧ Base P et e ∧ 0 < e.nc

theorem arrB_ok {P : Program} {t : TypeId} {n : Nat} {e : Sh} (h : arrB P (t, (n, e)) = true) : ArrOK P t n e := by
  unfold arrB at h
  split at h
  · rename_i m et hd
    simp only [Bool.and_eq_true] at h
    obtain ⟨⟨h1, h2⟩, h3⟩ := h
    have := Nat.eq_of_beq_eq_true h1
    subst this
    exact ⟨et, hd, baseB_base h2, by have := Nat.le_of_ble_eq_true h3; omega⟩
  · cases h

def MapOK (P : Program) (t : TypeId) (kk : IntKind) (e : Sh) : Prop := ∃ kt et, P.underlying t = some (.map kt et) ∧ P.underlying kt = some (.int kk) ∧ Base P et e

def mapB (P : Program) (p : Nat × (IntKind × Sh)) : Bool :=
  match P.underlying p.1 with
  | some (.map kt et) => (match P.underlying kt with | some (.int k) => decide (k = p.2.1) | _ => false) && baseB P et p.2.2
  | _ => false

theorem mapB_ok {P : Program} {t : TypeId} {kk : IntKind} {e : Sh} (h : mapB P (t, (kk, e)) = true) : MapOK P t kk e := by
  unfold mapB at h
  split at h
  · rename_i kt et hd
    simp only [Bool.and_eq_true] at h
    obtain ⟨h1, h2⟩ := h
    split at h1
    · rename_i k hk
      have := of_decide_eq_true h1
      subst this
      exact ⟨kt, et, hd, hk, baseB_base h2⟩
    · cases h1
  · cases h

theorem memN_mem {d : Nat} {l : List Nat} (h : memN d l = true) : d ∈ l := by
  obtain ⟨x, hx, he⟩ := List.any_eq_true.1 h
  rw [Nat.eq_of_beq_eq_true he]
  exact hx

/-- A function that gives back what it is handed. -/
def IdC (P : Program) (g : FuncId) : Prop := (∀ args w, (callFunc g args).run P w = .ok (.enter g args) w) ∧ ∀ u w, Calls P g #[u] w fun e w' => e = .returned u ∧ w' = w

/-- A function that deletes elements of a slice of numbers, in place. -/
def DelC (P : Program) (g : FuncId) : Prop := (∀ args w, (callFunc g args).run P w = .ok (.enter g args) w) ∧
  ∀ (b cap i j : Nat) (zs : List Int) (w : World) (cur : Array Value) (et : TypeId), w.heap[b]? = some (.cells cur et (0, 0)) → cap ≤ cur.size → (∀ (t : Nat) z, zs[t]? = some z → cur.toList[t]? = some (.int .i64 z)) →
    zs.length ≤ cap → zs.length ≤ lim → i < j → j ≤ zs.length →
    Calls P g #[.slice (some ⟨b, 0, none⟩) zs.length cap, .int .i64 i, .int .i64 j] w fun e w' => e = .returned (.slice (some ⟨b, 0, none⟩) (zs.length - (j - i)) cap) ∧
      (w'.heap.size = w.heap.size ∧ w'.os = w.os ∧ w'.tape = w.tape ∧ w'.output = w.output ∧ ∀ q, q ≠ b → w'.heap[q]? = w.heap[q]?) ∧
      ∃ cur', w'.heap[b]? = some (.cells cur' et (0, 0)) ∧ cur'.size = cur.size ∧ ∀ (t : Nat) z, (zs.take i ++ zs.drop j)[t]? = some z → cur'.toList[t]? = some (.int .i64 z)

structure TabOK (P : Program) (T : Tab) : Prop where
  sh : ∀ t s, look T.sh t = some s → ShOK P t s
  flds : ∀ t fs, look T.flds t = some fs → FldOK P t fs
  arrs : ∀ t n e, look T.arrs t = some (n, e) → ArrOK P t n e
  maps : ∀ t kk e, look T.maps t = some (kk, e) → MapOK P t kk e
  idf : ∀ g ∈ T.idf, IdC P g
  del : ∀ g ∈ T.del, DelC P g

theorem look_mem {α : Type} : ∀ {l : List (Nat × α)} {n : Nat} {x : α}, look l n = some x → (n, x) ∈ l
  | [], _, _, h => by simp [look] at h
  | (k, v) :: r, n, x, h => by
    simp only [look] at h
    cases hb : Nat.beq k n with
    | true =>
      rw [hb] at h
      simp at h
      subst h
      have := Nat.eq_of_beq_eq_true hb
      subst this
      simp
    | false =>
      rw [hb] at h
      exact List.mem_cons_of_mem _ (look_mem (by simpa using h))

def tabB (P : Program) (T : Tab) : Bool := T.sh.all (shB P) && T.flds.all (fldB P) && T.arrs.all (arrB P) && T.maps.all (mapB P)

theorem tabB_ok {P : Program} {T : Tab} (h : tabB P T = true) (hid : ∀ g ∈ T.idf, IdC P g) (hdel : ∀ g ∈ T.del, DelC P g) : TabOK P T := by
  simp only [tabB, Bool.and_eq_true, List.all_eq_true] at h
  obtain ⟨⟨⟨h1, h2⟩, h3⟩, h4⟩ := h
  exact ⟨fun t s hl => shB_ok (h1 _ (look_mem hl)), fun t s hl => fldB_ok (h2 _ (look_mem hl)), fun t n e hl => arrB_ok (h3 _ (look_mem hl)), fun t k e hl => mapB_ok (h4 _ (look_mem hl)), hid, hdel⟩

/-! ## Cells -/

section
variable {P : Program} {w : World}

theorem add_eq (b o j : Nat) : (⟨b, o, none⟩ : Addr).add j = ⟨b, o + j, none⟩ := by
  unfold Addr.add
  split
  · rename_i h; subst h; rfl
  · rfl

theorem cell_row {b : Nat} {cur : Array Value} {et : TypeId} {fz : Nat × Nat} (h : w.heap[b]? = some (.cells cur et fz)) (o : Nat) : w.cell? ⟨b, o, none⟩ = cur.toList[o]? := by
  simp [World.cell?, h]

theorem run_cells {b o : Nat} {cur : Array Value} {et : TypeId} {fz : Nat × Nat} (h : w.heap[b]? = some (.cells cur et fz)) (n : Nat) (hn : o + n ≤ cur.size) :
    (loadCells ⟨b, o, none⟩ n).run P w = .ok ((cur.toList.drop o).take n).toArray w := by
  have hl : ((cur.toList.drop o).take n).length = n := by simp; omega
  have := run_loadCells_list (P := P) w ⟨b, o, none⟩ ((cur.toList.drop o).take n) (fun j v hj => by
    rw [add_eq, cell_row h]
    rw [List.getElem?_take] at hj
    split at hj
    · simpa using hj
    · cases hj)
  rwa [hl] at this

theorem run_isAgg {t : TypeId} {d : TypeDesc} (hu : P.underlying t = some d) : (isAgg t).run P w = .ok (isAggD d) w := by
  simp only [isAgg, Sem.run_bind, run_underlying hu, Result.andThen_ok]
  cases d <;> rfl

theorem run_sizeOf' {t : TypeId} {i : TypeInfo} (hi : P.info? t = some i) : (sizeOf t).run P w = .ok i.size w := by
  simp [sizeOf, typeInfo, hi]

/-- A variable of a type whose shape is known is read. -/
theorem run_load_shape {t : TypeId} {s : Sh} (hs : Base P t s) {b o : Nat} {cur : Array Value} {et : TypeId} {fz : Nat × Nat} (h : w.heap[b]? = some (.cells cur et fz)) (hn : o + s.nc ≤ cur.size)
    (hone : s.agg = false → s.nc = 1) :
    (Instr.loadAt t (.pointer (some ⟨b, o, none⟩))).run P w = .ok (if s.agg = true then .agg ((cur.toList.drop o).take s.nc).toArray else (cur.toList.getD o undef)) w := by
  obtain ⟨i, d, z, hi, hd, hsz, hby, hz, hzz, ha⟩ := hs.ex
  simp only [Instr.loadAt, Instr.sureAddr, loadVar, Sem.run_bind, Sem.run_pure, Result.andThen_ok, run_isAgg hd, ha]
  by_cases hag : s.agg = true
  · simp only [hag, if_true, Sem.run_bind, run_sizeOf' hi, Result.andThen_ok, hsz, run_cells h _ hn, Sem.run_pure]
  · have h1 := hone (by simpa using hag)
    have hlt : o < cur.size := by omega
    simp only [hag, if_false, Bool.false_eq_true, run_load, cell_row h]
    have : cur.toList[o]? = some (cur.toList.getD o undef) := by
      simp [List.getD, hlt]
    rw [this]

theorem mkV_VR {γ : Gam} {A : Nat → Prop} {H : Heap} {s : Sh} {cs : List C} {v : V} {vs : List Value} (hm : mkV s cs = some v) (hv : All2 (CR w A) cs vs) :
    VR γ w A H v (if s.agg = true then .agg vs.toArray else vs.getD 0 undef) := by
  unfold mkV at hm
  cases ha : s.agg with
  | true =>
    rw [ha] at hm
    simp only [cond_true, Option.some.injEq] at hm
    subst hm
    exact ⟨vs, by simp, hv⟩
  | false =>
    rw [ha] at hm
    simp only [cond_false] at hm
    split at hm
    · rename_i c
      cases hm
      obtain ⟨u, rfl, hu⟩ := hv.one
      simpa [VR, VR1] using hu
    · cases hm

theorem mkV_one {s : Sh} {cs : List C} {v : V} (hm : mkV s cs = some v) (ha : s.agg = false) : cs.length = 1 := by
  unfold mkV at hm
  rw [ha] at hm
  simp only [cond_false] at hm
  split at hm
  · rfl
  · cases hm

theorem nc_one : ∀ {s : Sh}, s.agg = false → s.nc = 1
  | .int _, _ => rfl
  | .bool, _ => rfl
  | .str, _ => rfl
  | .sl _, _ => rfl
  | .unit, h => by simp [Sh.agg] at h
  | .pair _ _, h => by simp [Sh.agg] at h

theorem cellsOf_VR {γ : Gam} {A : Nat → Prop} {H : Heap} {v : V} {cs : List C} {u : Value} (hc : cellsOf v = some cs) (hv : VR γ w A H v u) : All2 (CR w A) cs u.cells.toList := by
  cases v <;> simp only [cellsOf, Option.some.injEq, reduceCtorEq] at hc
  · subst hc
    have h1 : CR w A _ u := hv
    have : u.cells = #[u] := by
      have := h1.oneCell
      cases u <;> simp_all [Value.cells, Value.oneCell']
    rw [this]
    exact ⟨h1, trivial⟩
  · subst hc
    obtain ⟨vs, rfl, h2⟩ := hv
    simpa [Value.cells] using h2

/-- A new variable. -/
theorem run_newVar (t : TypeId) (v : Value) : (newVar t v).run P w = .ok ⟨w.heap.size, 0, none⟩ (w.alloc (.cells v.cells t)) := by
  simp only [newVar, newRow, Sem.run_bind, run_newObj, Result.andThen_ok, Sem.run_pure]
  rfl

end
end Go.Vi
