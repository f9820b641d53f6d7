/-
  Vi: what the interpreter's states say of a frame and a world.
-/
import Derived.Test.YtombednapelokaaVi
set_option linter.unusedVariables false
set_option linter.unusedSimpArgs false
namespace Go.Vi

theorem fC_eq {ρ : Type} (v : C) (K : C → Option ρ) : fC v K = K v := by
  cases v <;> rfl

theorem fCs_eq {ρ : Type} : ∀ (l : List C) (K : List C → Option ρ), fCs l K = K l
  | [], _ => rfl
  | v :: r, K => by simp only [fCs, fC_eq, fCs_eq r]

theorem fV0_eq {ρ : Type} (v : V) (K : V → Option ρ) : fV0 v K = K v := by
  cases v <;> simp only [fV0, fC_eq, fCs_eq]

theorem fTm0_eq {ρ : Type} : ∀ (l : List V) (K : List V → Option ρ), fTm0 l K = K l
  | [], _ => rfl
  | v :: r, K => by simp only [fTm0, fV0_eq, fTm0_eq r]

theorem fV_eq {ρ : Type} (v : V) (K : V → Option ρ) : fV v K = K v := by
  cases v <;> simp only [fV, fC_eq, fCs_eq, fTm0_eq]

theorem fTm_eq {ρ : Type} : ∀ (l : List V) (K : List V → Option ρ), fTm l K = K l
  | [], _ => rfl
  | v :: r, K => by simp only [fTm, fV_eq, fTm_eq r]

theorem fL_eq {α ρ : Type} : ∀ (l : List α) (K : List α → Option ρ), fL l K = K l
  | [], _ => rfl
  | v :: r, K => by simp only [fL, fL_eq r]

theorem fO_eq {ρ : Type} (o : O) (K : O → Option ρ) : fO o K = K o := by
  cases o with
  | box cs => simp only [fO, fL_eq]
  | _ => rfl

theorem newHeapC_eq {ρ : Type} (hp : Heap) : ∀ (s : List (Nat × Nat)) (K : Heap → Option ρ), newHeapC hp s K = K (newHeap hp s)
  | [], _ => rfl
  | (k, t) :: r, K => by
    simp only [newHeapC, newHeap]
    cases hp k with
    | none => exact newHeapC_eq hp r K
    | some o => simp only [fO_eq, newHeapC_eq hp r]

theorem normC_eq {ρ : Type} (live : List Nat) (st : St) (K : St → Option ρ) : normC live st K = K (norm live st) := by
  simp only [normC, fL_eq, fTm_eq, newHeapC_eq]
  rfl

def All2 {α β : Type} (R : α → β → Prop) : List α → List β → Prop
  | [], [] => True
  | a :: as, b :: bs => R a b ∧ All2 R as bs
  | _, _ => False

theorem All2.length {α β : Type} {R : α → β → Prop} : ∀ {as : List α} {bs : List β}, All2 R as bs → as.length = bs.length
  | [], [], _ => rfl
  | _ :: _, _ :: _, h => by simp [All2.length h.2]
  | [], _ :: _, h => h.elim
  | _ :: _, [], h => h.elim

theorem All2.mono {α β : Type} {R S : α → β → Prop} (f : ∀ a b, R a b → S a b) : ∀ {as : List α} {bs : List β}, All2 R as bs → All2 S as bs
  | [], [], _ => trivial
  | _ :: _, _ :: _, h => ⟨f _ _ h.1, All2.mono f h.2⟩
  | [], _ :: _, h => h.elim
  | _ :: _, [], h => h.elim

theorem All2.get {α β : Type} {R : α → β → Prop} : ∀ {as : List α} {bs : List β}, All2 R as bs → ∀ {i : Nat} {a : α}, as[i]? = some a → ∃ b, bs[i]? = some b ∧ R a b
  | [], [], _, i, a, hi => by simp at hi
  | x :: _, y :: _, h, 0, a, hi => by
    simp at hi
    subst hi
    exact ⟨y, by simp, h.1⟩
  | _ :: _, _ :: _, h, i + 1, a, hi => by
    simp at hi
    obtain ⟨b, hb, hr⟩ := All2.get h.2 hi
    exact ⟨b, by simpa using hb, hr⟩
  | [], _ :: _, h, _, _, _ => h.elim
  | _ :: _, [], h, _, _, _ => h.elim

theorem All2.of_get {α β : Type} {R : α → β → Prop} : ∀ {as : List α} {bs : List β}, as.length = bs.length → (∀ (i : Nat) (a : α) (b : β), as[i]? = some a → bs[i]? = some b → R a b) → All2 R as bs
  | [], [], _, _ => trivial
  | a :: as, b :: bs, hl, h => ⟨h 0 a b (by simp) (by simp), All2.of_get (by simpa using hl) fun i x y hx hy => h (i + 1) x y (by simpa using hx) (by simpa using hy)⟩
  | [], _ :: _, hl, _ => by simp at hl
  | _ :: _, [], hl, _ => by simp at hl

theorem All2.append {α β : Type} {R : α → β → Prop} : ∀ {as : List α} {bs : List β} {as' : List α} {bs' : List β}, All2 R as bs → All2 R as' bs' → All2 R (as ++ as') (bs ++ bs')
  | [], [], _, _, _, h' => h'
  | _ :: _, _ :: _, _, _, h, h' => ⟨h.1, All2.append h.2 h'⟩
  | [], _ :: _, _, _, h, _ => h.elim
  | _ :: _, [], _, _, h, _ => h.elim

theorem All2.take {α β : Type} {R : α → β → Prop} : ∀ (n : Nat) {as : List α} {bs : List β}, All2 R as bs → All2 R (as.take n) (bs.take n)
  | 0, _, _, _ => by simp [All2]
  | _ + 1, [], [], _ => trivial
  | n + 1, _ :: _, _ :: _, h => ⟨h.1, All2.take n h.2⟩
  | _ + 1, [], _ :: _, h => h.elim
  | _ + 1, _ :: _, [], h => h.elim

theorem All2.drop {α β : Type} {R : α → β → Prop} : ∀ (n : Nat) {as : List α} {bs : List β}, All2 R as bs → All2 R (as.drop n) (bs.drop n)
  | 0, _, _, h => by simpa using h
  | _ + 1, [], [], _ => trivial
  | n + 1, _ :: _, _ :: _, h => All2.drop n h.2
  | _ + 1, [], _ :: _, h => h.elim
  | _ + 1, _ :: _, [], h => h.elim

theorem All2.one {α β : Type} {R : α → β → Prop} {a : α} {bs : List β} (h : All2 R [a] bs) : ∃ b, bs = [b] ∧ R a b := by
  match bs, h with
  | [b], h => exact ⟨b, rfl, h.1⟩

/-! ## Data in memory -/

/-- A row of elements of n cells each at an address, in a block of which A holds. -/
def RowsAt (w : World) (A : Nat → Prop) (n : Nat) {α : Type} (P : α → List Value → Prop) (xs : List α) (a : Option Addr) : Prop :=
  xs = [] ∨ ∃ b o cur et fz, a = some ⟨b, o, none⟩ ∧ A b ∧ w.heap[b]? = some (.cells cur et fz) ∧ o + xs.length * n ≤ cur.size ∧
    ∀ i x, xs[i]? = some x → P x ((cur.toList.drop (o + i * n)).take n)

def VRs (w : World) (A : Nat → Prop) : (s : Sh) → s.den → List Value → Prop
  | .int k, n, vs => vs = [.int k n]
  | .bool, b, vs => vs = [.bool b]
  | .str, s, vs => vs = [.string s]
  | .unit, _, vs => vs = []
  | .pair a b, x, vs => VRs w A a x.1 (vs.take a.nc) ∧ VRs w A b x.2 (vs.drop a.nc)
  | .sl e, xs, vs => ∃ a cap, vs = [.slice a xs.length cap] ∧ xs.length ≤ cap ∧ RowsAt w A e.nc (fun x us => VRs w A e x us) xs a

/-- One cell. -/
def CR (w : World) (A : Nat → Prop) : C → Value → Prop
  | .int k n, v => v = .int k n
  | .bool b, v => v = .bool b
  | .str s, v => v = .string s
  | .sl e xs t, v => ∃ a cap, v = .slice a xs.length cap ∧ xs.length ≤ cap ∧ (t = true → cap = xs.length) ∧ RowsAt w A e.nc (fun x us => VRs w A e x us) xs a

theorem RowsAt.mono {w w' : World} {A A' : Nat → Prop} {n : Nat} {α : Type} {P P' : α → List Value → Prop} {xs : List α} {a : Option Addr}
    (hA : ∀ b, A b → A' b ∧ w'.heap[b]? = w.heap[b]?) (hP : ∀ x us, P x us → P' x us) (h : RowsAt w A n P xs a) : RowsAt w' A' n P' xs a := by
  rcases h with h | ⟨b, o, cur, et, fz, ha, hb, hc, hl, hx⟩
  · exact .inl h
  · exact .inr ⟨b, o, cur, et, fz, ha, (hA b hb).1, (hA b hb).2.trans hc, hl, fun i x hi => hP _ _ (hx i x hi)⟩

theorem VRs.mono {w w' : World} {A A' : Nat → Prop} (hA : ∀ b, A b → A' b ∧ w'.heap[b]? = w.heap[b]?) : ∀ (s : Sh) (x : s.den) (vs : List Value), VRs w A s x vs → VRs w' A' s x vs
  | .int _, _, _, h => h
  | .bool, _, _, h => h
  | .str, _, _, h => h
  | .unit, _, _, h => h
  | .pair a b, x, vs, h => ⟨VRs.mono hA a x.1 _ h.1, VRs.mono hA b x.2 _ h.2⟩
  | .sl e, xs, vs, ⟨a, cap, h1, h2, h3⟩ => ⟨a, cap, h1, h2, h3.mono hA fun x us hx => VRs.mono hA e x us hx⟩

theorem CR.mono {w w' : World} {A A' : Nat → Prop} (hA : ∀ b, A b → A' b ∧ w'.heap[b]? = w.heap[b]?) : ∀ (c : C) (v : Value), CR w A c v → CR w' A' c v
  | .int _ _, _, h => h
  | .bool _, _, h => h
  | .str _, _, h => h
  | .sl e _ _, _, ⟨a, cap, h1, h2, h3, h4⟩ => ⟨a, cap, h1, h2, h3, h4.mono hA fun x us hx => VRs.mono hA e x us hx⟩

theorem VRs.length {w : World} {A : Nat → Prop} : ∀ (s : Sh) (x : s.den) (vs : List Value), VRs w A s x vs → vs.length = s.nc
  | .int _, _, _, h => by simp [show _ = _ from h, Sh.nc]
  | .bool, _, _, h => by simp [show _ = _ from h, Sh.nc]
  | .str, _, _, h => by simp [show _ = _ from h, Sh.nc]
  | .unit, _, _, h => by simp [show _ = _ from h, Sh.nc]
  | .pair a b, x, vs, h => by
    have h1 := VRs.length a x.1 _ h.1
    have h2 := VRs.length b x.2 _ h.2
    simp only [List.length_take, List.length_drop] at h1 h2
    simp only [Sh.nc]
    omega
  | .sl e, xs, vs, ⟨a, cap, h1, _⟩ => by simp [h1, Sh.nc]

theorem cells_length : ∀ (s : Sh) (x : s.den), (cells s x).length = s.nc
  | .int _, _ => rfl
  | .bool, _ => rfl
  | .str, _ => rfl
  | .unit, _ => rfl
  | .pair a b, x => by simp [cells, Sh.nc, cells_length a, cells_length b]
  | .sl _, _ => rfl

theorem CR.of_VRs {w : World} {A : Nat → Prop} : ∀ (s : Sh) (x : s.den) (vs : List Value), VRs w A s x vs → All2 (CR w A) (cells s x) vs
  | .int _, _, _, h => by rw [show _ = _ from h]; exact ⟨rfl, trivial⟩
  | .bool, _, _, h => by rw [show _ = _ from h]; exact ⟨rfl, trivial⟩
  | .str, _, _, h => by rw [show _ = _ from h]; exact ⟨rfl, trivial⟩
  | .unit, _, _, h => by rw [show _ = _ from h]; trivial
  | .pair a b, x, vs, h => by
    have h1 := CR.of_VRs a x.1 _ h.1
    have h2 := CR.of_VRs b x.2 _ h.2
    have := h1.append h2
    rwa [List.take_append_drop] at this
  | .sl e, xs, vs, ⟨a, cap, h1, h2, h3⟩ => by
    rw [h1]
    exact ⟨⟨a, cap, rfl, h2, by simp, h3⟩, trivial⟩

theorem VRs.of_ofC {w : World} {A : Nat → Prop} : ∀ (s : Sh) (cs : List C) (x : s.den) (vs : List Value), ofC s cs = some x → All2 (CR w A) cs vs → VRs w A s x vs
  | .int k, cs, x, vs, h, hv => by
    match cs, h, hv with
    | [.int k' n], h, hv =>
      simp only [ofC] at h
      split at h
      · rename_i hk
        obtain ⟨v, rfl, hr⟩ := hv.one
        cases h
        subst hk
        simpa [CR, VRs] using hr
      · cases h
  | .bool, cs, x, vs, h, hv => by
    match cs, h, hv with
    | [.bool b], h, hv =>
      obtain ⟨v, rfl, hr⟩ := hv.one
      cases h
      simpa [CR, VRs] using hr
  | .str, cs, x, vs, h, hv => by
    match cs, h, hv with
    | [.str b], h, hv =>
      obtain ⟨v, rfl, hr⟩ := hv.one
      cases h
      simpa [CR, VRs] using hr
  | .unit, cs, x, vs, h, hv => by
    match cs, vs, h, hv with
    | [], [], h, hv => rfl
  | .pair a b, cs, x, vs, h, hv => by
    simp only [ofC] at h
    split at h
    · rename_i x1 x2 h1 h2
      cases h
      exact ⟨VRs.of_ofC a _ x1 _ h1 (hv.take _), VRs.of_ofC b _ x2 _ h2 (hv.drop _)⟩
    · cases h
  | .sl e, cs, x, vs, h, hv => by
    match cs, h, hv with
    | [.sl e' xs t], h, hv =>
      simp only [ofC] at h
      split at h
      · rename_i he
        obtain ⟨v, rfl, hr⟩ := hv.one
        cases h
        subst he
        obtain ⟨a, cap, hv, h2, _, h4⟩ := hr
        exact ⟨a, cap, by simp [hv], h2, h4⟩
      · cases h

theorem CR.oneCell {w : World} {A : Nat → Prop} : ∀ {c : C} {v : Value}, CR w A c v → v.oneCell' = true
  | .int _ _, v, h => by rw [show v = _ from h]; rfl
  | .bool _, v, h => by rw [show v = _ from h]; rfl
  | .str _, v, h => by rw [show v = _ from h]; rfl
  | .sl _ _ _, v, ⟨a, cap, h, _⟩ => by rw [h]; rfl

theorem All2.oneCell {w : World} {A : Nat → Prop} : ∀ {cs : List C} {vs : List Value}, All2 (CR w A) cs vs → ∀ v ∈ vs, v.oneCell' = true
  | [], [], _, v, hv => by simp at hv
  | _ :: _, _ :: _, h, v, hv => by
    rcases List.mem_cons.1 hv with rfl | hv
    · exact h.1.oneCell
    · exact All2.oneCell h.2 v hv
  | [], _ :: _, h, _, _ => h.elim
  | _ :: _, [], h, _, _ => h.elim

/-! ## What is the call's own -/

inductive Info where
  | emp
  | at (b c : Nat)

abbrev Gam := Nat → Option Info

/-- An own array's slice. -/
def OwnSl (i : Info) (n len : Nat) (nilE : Bool) (win : Option (Nat × Nat)) (t : Bool) (v : Value) : Prop :=
  match i with
  | .emp => ∃ a, v = .slice a 0 0 ∧ (nilE = true → a = none) ∧ len = 0 ∧ (∀ p l, win = some (p, l) → p = 0 ∧ l = 0)
  | .at b c =>
    match win with
    | none => v = .slice (some ⟨b, 0, none⟩) len c ∧ len ≤ c ∧ (t = true → c = len)
    | some (p, l) => ∃ o cap, v = .slice (some ⟨b, o, none⟩) l cap ∧ p + l ≤ len ∧ l ≤ cap ∧ p + cap ≤ c ∧ (t = true → cap = l) ∧ (0 < cap → o = p * n) ∧ (p = 0 → o = 0)

def VR1 (γ : Gam) (w : World) (A : Nat → Prop) (H : Heap) : V → Value → Prop
  | .undef, _ => True
  | .c x, v => CR w A x v
  | .agg cs, v => ∃ vs : List Value, v = .agg vs.toArray ∧ All2 (CR w A) cs vs
  | .ptr k off, v => ∃ b c, γ k = some (.at b c) ∧ v = .pointer (some ⟨b, off, none⟩)
  | .own k win t, v => ∃ i e xs nilE, γ k = some i ∧ H k = some (.arr e xs nilE) ∧ OwnSl i e.nc xs.length nilE win t v
  | .eptr k win i off, v => ∃ b c e xs nilE, γ k = some (.at b c) ∧ H k = some (.arr e xs nilE) ∧ 0 ≤ i ∧ i < (view win xs).length ∧
      v = .pointer (some ⟨b, (wo win + i.toNat) * e.nc + off, none⟩)
  | .iptr cs, v => ∃ b o cur et fz, v = .pointer (some ⟨b, o, none⟩) ∧ A b ∧ w.heap[b]? = some (.cells cur et fz) ∧ o + cs.length ≤ cur.size ∧ All2 (CR w A) cs ((cur.toList.drop o).take cs.length)
  | .aptr k off n e i, v => ∃ b c, γ k = some (.at b c) ∧ 0 ≤ i ∧ i < n ∧ v = .pointer (some ⟨b, off + i.toNat * e.nc, none⟩)
  | .map k, v => ∃ b c, γ k = some (.at b c) ∧ v = .map (some b)
  | _, _ => False

def VR (γ : Gam) (w : World) (A : Nat → Prop) (H : Heap) : V → Value → Prop
  | .tup vs, v => ∃ us : List Value, v = .tuple us.toArray ∧ All2 (VR1 γ w A H) vs us
  | .fn f caps, v => ∃ us : List Value, v = .func (.func f) #[] us.toArray ∧ All2 (VR1 γ w A H) caps us
  | x, v => VR1 γ w A H x v

def entR (w : World) (A : Nat → Prop) (kk : IntKind) (e : Sh) (p : Int × e.den) (en : MapEntry) : Prop :=
  en.key = .int kk p.1 ∧ (if e.agg = true then ∃ vs : List Value, en.val = .agg vs.toArray ∧ VRs w A e p.2 vs else VRs w A e p.2 [en.val])

def objR (w : World) (A : Nat → Prop) : O → Info → Prop
  | .box cs, .at b _ => ∃ cur et, w.heap[b]? = some (.cells cur et (0, 0)) ∧ All2 (CR w A) cs cur.toList
  | .arr _ xs _, .emp => xs = []
  | .arr e xs nilE, .at b c => (nilE = true → xs ≠ []) ∧ xs.length ≤ c ∧ ∃ cur et, w.heap[b]? = some (.cells cur et (0, 0)) ∧ c * e.nc ≤ cur.size ∧
      ∀ i x, xs[i]? = some x → VRs w A e x ((cur.toList.drop (i * e.nc)).take e.nc)
  | .mp kk e m, .at b _ => ∃ es clock, w.heap[b]? = some (.map es clock) ∧ All2 (entR w A kk e) m es.toList
  | _, _ => False

/-- A call's surroundings: how many blocks there were as it began, which of them it may write, which of them hold the data that it was handed, and the world then. -/
structure Cx where
  B : Nat
  M : Nat → Prop
  A0 : Nat → Prop
  w0 : World
  ma : ∀ b, M b → A0 b
  pin : Nat → Option Info := fun _ => none
  pinlo : ∀ k i, pin k = some i → pinLo ≤ k := by intro k i h; cases h

/-- The blocks that hold data, and nothing of the call's own. -/
def Av (x : Cx) (γ : Gam) (w : World) (b : Nat) : Prop := b < w.heap.size ∧ (b < x.B → x.A0 b) ∧ ∀ k c, γ k ≠ some (.at b c)

/-- The world, and what of it is the call's own. B: how many blocks there were as the call began; M: those of them that it may write. -/
structure Inv (x : Cx) (γ : Gam) (H : Heap) (w : World) : Prop where
  size : x.B ≤ w.heap.size
  os : w.os = x.w0.os
  tape : w.tape = x.w0.tape
  output : w.output = x.w0.output
  blk : ∀ b, b < x.B → ¬ x.M b → w.heap[b]? = x.w0.heap[b]?
  own : ∀ k i, γ k = some i → ∃ ob, H k = some ob ∧ objR w (Av x γ w) ob i
  rng : ∀ k b c, γ k = some (.at b c) → (x.B ≤ b ∨ x.M b) ∧ b < w.heap.size
  inj : ∀ k k' b c c', γ k = some (.at b c) → γ k' = some (.at b c') → k = k'
  pin : ∀ k i, x.pin k = some i → H k ≠ none → γ k = some i

structure RS (x : Cx) (γ : Gam) (st : St) (a : Act) (w : World) : Prop where
  inv : Inv x γ st.hp w
  len : st.tm.length = a.tmps.size
  tm : ∀ t v, st.tm[t]? = some v → VR γ w (Av x γ w) st.hp v (a.tmps.getD t undef)
  nod : a.defers = []

theorem VR1.mono {γ : Gam} {w w' : World} {A A' : Nat → Prop} {H : Heap} (hA : ∀ b, A b → A' b ∧ w'.heap[b]? = w.heap[b]?) : ∀ (x : V) (v : Value), VR1 γ w A H x v → VR1 γ w' A' H x v
  | .undef, _, _ => trivial
  | .c x, v, h => CR.mono hA x v h
  | .agg _, _, ⟨vs, h1, h2⟩ => ⟨vs, h1, h2.mono (CR.mono hA)⟩
  | .ptr _ _, _, h => h
  | .own _ _ _, _, h => h
  | .eptr _ _ _ _, _, h => h
  | .iptr _, _, ⟨b, o, cur, et, fz, h1, h2, h3, h4, h5⟩ => ⟨b, o, cur, et, fz, h1, (hA b h2).1, (hA b h2).2.trans h3, h4, h5.mono (CR.mono hA)⟩
  | .aptr _ _ _ _ _, _, h => h
  | .map _, _, h => h
  | .tup _, _, h => h
  | .fn _ _, _, h => h

theorem VR.mono {γ : Gam} {w w' : World} {A A' : Nat → Prop} {H : Heap} (hA : ∀ b, A b → A' b ∧ w'.heap[b]? = w.heap[b]?) (x : V) (v : Value) (h : VR γ w A H x v) : VR γ w' A' H x v := by
  cases x with
  | tup vs => obtain ⟨us, h1, h2⟩ := h; exact ⟨us, h1, h2.mono (VR1.mono hA)⟩
  | fn f caps => obtain ⟨us, h1, h2⟩ := h; exact ⟨us, h1, h2.mono (VR1.mono hA)⟩
  | _ => simp only [VR] at h ⊢; exact VR1.mono hA _ _ h

theorem entR.mono {w w' : World} {A A' : Nat → Prop} {kk : IntKind} {e : Sh} (hA : ∀ b, A b → A' b ∧ w'.heap[b]? = w.heap[b]?) (p : Int × e.den) (en : MapEntry) (h : entR w A kk e p en) : entR w' A' kk e p en := by
  refine ⟨h.1, ?_⟩
  have h2 := h.2
  split
  · rename_i he
    rw [if_pos he] at h2
    obtain ⟨vs, h3, h4⟩ := h2
    exact ⟨vs, h3, VRs.mono hA _ _ _ h4⟩
  · rename_i he
    rw [if_neg he] at h2
    exact VRs.mono hA _ _ _ h2

/-- What an own thing reads as does not turn if its own block and the others' data do not. -/
theorem objR.mono {w w' : World} {A A' : Nat → Prop} (hA : ∀ b, A b → A' b ∧ w'.heap[b]? = w.heap[b]?) : ∀ (ob : O) (i : Info), (∀ b c, i = .at b c → w'.heap[b]? = w.heap[b]?) → objR w A ob i → objR w' A' ob i
  | .box _, .at b c, hb, ⟨cur, et, h1, h2⟩ => ⟨cur, et, (hb b c rfl).trans h1, h2.mono (CR.mono hA)⟩
  | .arr _ _ _, .emp, _, h => h
  | .arr e _ _, .at b c, hb, ⟨h0, h1, cur, et, h2, h3, h4⟩ => ⟨h0, h1, cur, et, (hb b c rfl).trans h2, h3, fun i x hi => VRs.mono hA e x _ (h4 i x hi)⟩
  | .mp _ _ _, .at b c, hb, ⟨es, clock, h1, h2⟩ => ⟨es, clock, (hb b c rfl).trans h1, h2.mono (entR.mono hA)⟩
  | .box _, .emp, _, h => h.elim
  | .mp _ _ _, .emp, _, h => h.elim

/-! ### The world grows -/

structure Grows (w w' : World) : Prop where
  size : w.heap.size ≤ w'.heap.size
  os : w'.os = w.os
  tape : w'.tape = w.tape
  output : w'.output = w.output
  blk : ∀ b, b < w.heap.size → w'.heap[b]? = w.heap[b]?

theorem Grows.refl (w : World) : Grows w w := ⟨Nat.le_refl _, rfl, rfl, rfl, fun _ _ => rfl⟩
theorem Grows.of_below {w w' : World} (h : RowKit.Below w.heap.size w w') : Grows w w' := ⟨h.size, h.os, h.tape, h.output, h.block⟩
theorem Grows.alloc (w : World) (o : Obj) : Grows w (w.alloc o) :=
  ⟨by simp, rfl, rfl, rfl, fun b hb => RowKit.Below.heap_alloc w o b hb⟩
theorem Grows.drew (w : World) : Grows w { w with drawn := w.drawn + 1 } := ⟨Nat.le_refl _, rfl, rfl, rfl, fun _ _ => rfl⟩
theorem Grows.trans {a b c : World} (h : Grows a b) (k : Grows b c) : Grows a c :=
  ⟨Nat.le_trans h.size k.size, k.os.trans h.os, k.tape.trans h.tape, k.output.trans h.output, fun i hi => (k.blk i (Nat.lt_of_lt_of_le hi h.size)).trans (h.blk i hi)⟩

theorem Av.grows {x : Cx} {γ : Gam} {w w' : World} (h : Grows w w') (b : Nat) (hb : Av x γ w b) : Av x γ w' b ∧ w'.heap[b]? = w.heap[b]? :=
  ⟨⟨Nat.lt_of_lt_of_le hb.1 h.size, hb.2⟩, h.blk b hb.1⟩

theorem Inv.grows {x : Cx} {γ : Gam} {H : Heap} {w w' : World} (h : Inv x γ H w) (g : Grows w w') : Inv x γ H w' where
  size := Nat.le_trans h.size g.size
  os := g.os.trans h.os
  tape := g.tape.trans h.tape
  output := g.output.trans h.output
  blk := fun b hb hm => (g.blk b (Nat.lt_of_lt_of_le hb h.size)).trans (h.blk b hb hm)
  own := fun k i hk => by
    obtain ⟨ob, h1, h2⟩ := h.own k i hk
    exact ⟨ob, h1, objR.mono (Av.grows g) ob i (fun b c hi => g.blk b (h.rng k b c (hi ▸ hk)).2) h2⟩
  rng := fun k b c hk => ⟨(h.rng k b c hk).1, Nat.lt_of_lt_of_le (h.rng k b c hk).2 g.size⟩
  inj := h.inj
  pin := h.pin

theorem RS.grows {x : Cx} {γ : Gam} {st : St} {a : Act} {w w' : World} (h : RS x γ st a w) (g : Grows w w') : RS x γ st a w' where
  inv := h.inv.grows g
  len := h.len
  tm := fun t v hv => VR.mono (Av.grows g) v _ (h.tm t v hv)
  nod := h.nod

/-! ### Keys come and go -/

def gset (γ : Gam) (k : Nat) (i : Info) : Gam := fun j => if j = k then some i else γ j
def gdel (γ : Gam) (ks : List Nat) : Gam := fun j => if j ∈ ks then none else γ j

theorem refs1_key {k : Nat} : ∀ {x : V} {j : Nat}, refs1 k x = false → (match x with | .ptr j' _ => j' = j | .own j' _ _ => j' = j | .eptr j' _ _ _ => j' = j | .aptr j' _ _ _ _ => j' = j | .map j' => j' = j | _ => False) → j ≠ k := by
  intro x j h hx hjk
  subst hjk
  cases x <;> simp_all [refs1]

/-- A value that does not name a key does not mind what the key stands for. -/
theorem VR1.key {γ γ' : Gam} {w : World} {A : Nat → Prop} {H H' : Heap} {ks : List Nat} (hg : ∀ j, j ∉ ks → γ' j = γ j) (hH : ∀ j, j ∉ ks → H' j = H j) :
    ∀ (x : V) (v : Value), (∀ k ∈ ks, refs1 k x = false) → VR1 γ w A H x v → VR1 γ' w A H' x v := by
  intro x v hr h
  have nk : ∀ j, (match x with | .ptr j' _ => j' = j | .own j' _ _ => j' = j | .eptr j' _ _ _ => j' = j | .aptr j' _ _ _ _ => j' = j | .map j' => j' = j | _ => False) → j ∉ ks :=
    fun j hj hm => refs1_key (hr j hm) hj rfl
  cases x with
  | ptr k off =>
    have := nk k rfl
    obtain ⟨b, c, h1, h2⟩ := h
    exact ⟨b, c, (hg k this).trans h1, h2⟩
  | own k win t =>
    have := nk k rfl
    obtain ⟨i, e, xs, nilE, h1, h2, h3⟩ := h
    exact ⟨i, e, xs, nilE, (hg k this).trans h1, (hH k this).trans h2, h3⟩
  | eptr k win i off =>
    have := nk k rfl
    obtain ⟨b, c, e, xs, nilE, h1, h2, h3⟩ := h
    exact ⟨b, c, e, xs, nilE, (hg k this).trans h1, (hH k this).trans h2, h3⟩
  | aptr k off n e i =>
    have := nk k rfl
    obtain ⟨b, c, h1, h2⟩ := h
    exact ⟨b, c, (hg k this).trans h1, h2⟩
  | map k =>
    have := nk k rfl
    obtain ⟨b, c, h1, h2⟩ := h
    exact ⟨b, c, (hg k this).trans h1, h2⟩
  | undef => trivial
  | c x => exact h
  | agg cs => exact h
  | iptr cs => exact h
  | tup vs => exact h
  | fn f vs => exact h

theorem refsAny_false {k : Nat} : ∀ {vs : List V}, refsAny k vs = false → ∀ v ∈ vs, refs1 k v = false
  | [], _, v, hv => by simp at hv
  | x :: r, h, v, hv => by
    simp only [refsAny, Bool.or_eq_false_iff] at h
    rcases List.mem_cons.1 hv with rfl | hv
    · exact h.1
    · exact refsAny_false h.2 v hv

theorem All2.key {γ γ' : Gam} {w : World} {A : Nat → Prop} {H H' : Heap} {ks : List Nat} (hg : ∀ j, j ∉ ks → γ' j = γ j) (hH : ∀ j, j ∉ ks → H' j = H j) :
    ∀ {xs : List V} {vs : List Value}, (∀ k ∈ ks, refsAny k xs = false) → All2 (VR1 γ w A H) xs vs → All2 (VR1 γ' w A H') xs vs
  | [], [], _, _ => trivial
  | x :: xs, v :: vs, hr, h =>
    ⟨VR1.key hg hH x v (fun k hk => refsAny_false (hr k hk) x (by simp)) h.1,
     All2.key hg hH (fun k hk => by have := hr k hk; simp only [refsAny, Bool.or_eq_false_iff] at this; exact this.2) h.2⟩
  | [], _ :: _, _, h => h.elim
  | _ :: _, [], _, h => h.elim

theorem VR.key {γ γ' : Gam} {w : World} {A : Nat → Prop} {H H' : Heap} {ks : List Nat} (hg : ∀ j, j ∉ ks → γ' j = γ j) (hH : ∀ j, j ∉ ks → H' j = H j)
    (x : V) (v : Value) (hr : ∀ k ∈ ks, refs k x = false) (h : VR γ w A H x v) : VR γ' w A H' x v := by
  cases x with
  | tup vs => obtain ⟨us, h1, h2⟩ := h; exact ⟨us, h1, h2.key hg hH hr⟩
  | fn f caps => obtain ⟨us, h1, h2⟩ := h; exact ⟨us, h1, h2.key hg hH hr⟩
  | _ => simp only [VR] at h ⊢; exact VR1.key hg hH _ _ hr h

/-! ### A new thing under a key that nobody names -/

theorem Av.set {x : Cx} {γ : Gam} {w : World} {k : Nat} {i : Info} (hi : ∀ b c, i = .at b c → w.heap.size ≤ b) {w' : World} (g : Grows w w') (b : Nat) (hb : Av x γ w b) :
    Av x (gset γ k i) w' b ∧ w'.heap[b]? = w.heap[b]? := by
  refine ⟨⟨Nat.lt_of_lt_of_le hb.1 g.size, hb.2.1, fun j c hj => ?_⟩, g.blk b hb.1⟩
  unfold gset at hj
  split at hj
  · cases hj
    have := hi b c rfl
    have := hb.1
    omega
  · exact hb.2.2 j c hj

theorem Inv.set {x : Cx} {γ : Gam} {H : Heap} {w w' : World} {k : Nat} {i : Info} {ob : O} (h : Inv x γ H w) (g : Grows w w') (hlo : k < pinLo)
    (hi : ∀ b c, i = .at b c → w.heap.size ≤ b ∧ b < w'.heap.size) (hob : objR w' (Av x (gset γ k i) w') ob i) : Inv x (gset γ k i) (upd H k ob) w' where
  size := Nat.le_trans h.size g.size
  os := g.os.trans h.os
  tape := g.tape.trans h.tape
  output := g.output.trans h.output
  blk := fun b hb hm => (g.blk b (Nat.lt_of_lt_of_le hb h.size)).trans (h.blk b hb hm)
  own := fun j i' hj => by
    unfold gset at hj
    split at hj
    · rename_i hjk
      subst hjk
      cases hj
      exact ⟨ob, by simp [upd], hob⟩
    · rename_i hjk
      obtain ⟨ob', h1, h2⟩ := h.own j i' hj
      refine ⟨ob', ?_, objR.mono (Av.set (fun b c hb => (hi b c hb).1) g) ob' i' (fun b c hb => g.blk b (h.rng j b c (hb ▸ hj)).2) h2⟩
      have : Nat.beq j k = false := by
        cases hb : Nat.beq j k
        · rfl
        · exact absurd (Nat.eq_of_beq_eq_true hb) hjk
      simp [upd, this, h1]
  rng := fun j b c hj => by
    unfold gset at hj
    split at hj
    · cases hj
      have h0 := hi b c rfl
      have h1 := h.size
      exact ⟨.inl (by omega), h0.2⟩
    · exact ⟨(h.rng j b c hj).1, Nat.lt_of_lt_of_le (h.rng j b c hj).2 g.size⟩
  inj := fun j j' b c c' hj hj' => by
    unfold gset at hj hj'
    split at hj <;> split at hj'
    · rename_i a1 a2
      exact a1.trans a2.symm
    · cases hj
      have h1 := hi b c rfl
      have h2 := (h.rng j' b c' hj').2
      omega
    · cases hj'
      have h1 := hi b c' rfl
      have h2 := (h.rng j b c hj).2
      omega
    · exact h.inj j j' b c c' hj hj'
  pin := fun j i' hp hH => by
    have hjk : j ≠ k := fun e => by
      have := x.pinlo j i' hp
      omega
    have hb : Nat.beq j k = false := by
      cases hb : Nat.beq j k
      · rfl
      · exact absurd (Nat.eq_of_beq_eq_true hb) hjk
    simp only [gset, hjk, if_false]
    simp only [upd, hb, cond_false] at hH
    exact h.pin j i' hp hH

theorem VR.set {x : Cx} {γ : Gam} {H : Heap} {w w' : World} {k : Nat} {i : Info} {ob : O} (g : Grows w w') (hi : ∀ b c, i = .at b c → w.heap.size ≤ b)
    (y : V) (v : Value) (hr : refs k y = false) (h : VR γ w (Av x γ w) H y v) : VR (gset γ k i) w' (Av x (gset γ k i) w') (upd H k ob) y v := by
  have h1 := VR.mono (Av.set (x := x) (k := k) (i := i) hi g) y v h
  refine VR.key (ks := [k]) ?_ ?_ y v (by simpa using hr) h1
  · intro j hj
    simp only [List.mem_singleton] at hj
    simp [gset, hj]
  · intro j hj
    simp only [List.mem_singleton] at hj
    have : Nat.beq j k = false := by
      cases hb : Nat.beq j k
      · rfl
      · exact absurd (Nat.eq_of_beq_eq_true hb) hj
    simp [upd, this]

/-! ### Forgetting -/

theorem Av.del {x : Cx} {γ γ' : Gam} {w : World} (hs : ∀ k i, γ' k = some i → ∃ k', γ k' = some i) (b : Nat) (hb : Av x γ w b) : Av x γ' w b ∧ w.heap[b]? = w.heap[b]? :=
  ⟨⟨hb.1, hb.2.1, fun k c hk => by obtain ⟨k', hk'⟩ := hs k _ hk; exact hb.2.2 k' c hk'⟩, rfl⟩

end Go.Vi
