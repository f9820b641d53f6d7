/- Texts of this claim, joined: Vi to ViV. -/
import Derived.ChangeKeysEq
import Derived.Laws.Append
import Derived.Laws.BytesArg
import Derived.Laws.Concat
import Derived.Laws.CopyRow
import Derived.Laws.IdiomStrings
import Derived.Laws.RangeString
import Derived.Laws.Rows
import Derived.Laws.Strings
import Derived.Laws.StructEq
import Derived.WalkKit
/-
  Vi: a value interpreter for Go.Code on typed pure data, in continuation style: the definitions.
-/
namespace Go.Vi
/-- The shapes of data: what a cell, or a row of cells, reads as. -/
inductive Sh where
  | int (k : IntKind)
  | bool
  | str
  | sl (e : Sh)
  | unit
  | pair (a b : Sh)
  deriving DecidableEq
@[reducible] def Sh.den : Sh → Type
  | .int _ => Int
  | .bool => Bool
  | .str => ByteArray
  | .sl e => List e.den
  | .unit => Unit
  | .pair a b => a.den × b.den
/-- How many cells. -/
def Sh.nc : Sh → Nat
  | .unit => 0
  | .pair a b => a.nc + b.nc
  | _ => 1
def Sh.agg : Sh → Bool
  | .unit => true
  | .pair _ _ => true
  | _ => false
def Sh.hasSl : Sh → Bool
  | .sl _ => true
  | .pair a b => a.hasSl || b.hasSl
  | _ => false
/-- One cell. -/
inductive C where
  | int (k : IntKind) (n : Int)
  | bool (b : Bool)
  | str (s : ByteArray)
  | sl (e : Sh) (xs : List e.den) (tight : Bool)
  /-- A slice that lies in a box, of an array that is the call's own: the array has a key of its own. -/
  | osl
def zero : (s : Sh) → s.den
  | .int _ => (0 : Int)
  | .bool => false
  | .str => ByteArray.empty
  | .sl _ => []
  | .unit => ()
  | .pair a b => (zero a, zero b)
def cells : (s : Sh) → s.den → List C
  | .int k, n => [.int k n]
  | .bool, b => [.bool b]
  | .str, s => [.str s]
  | .sl e, xs => [.sl e xs false]
  | .unit, _ => []
  | .pair a b, x => cells a x.1 ++ cells b x.2
/-- The cells of a variable as it begins: slices there are nil. -/
def zcells : (s : Sh) → List C
  | .int k => [.int k 0]
  | .bool => [.bool false]
  | .str => [.str ByteArray.empty]
  | .sl e => [.sl e [] true]
  | .unit => []
  | .pair a b => zcells a ++ zcells b
def C.isOsl : C → Bool
  | .osl => true
  | _ => false
def noOsl (cs : List C) : Bool := cs.all fun c => !c.isOsl
/-- Does a slice of an own array lie there? -/
def oslAt (s : Sh) (cs : List C) (off : Nat) : Bool :=
  match s, cs[off]? with
  | .sl _, some .osl => true
  | _, _ => false
def ofC : (s : Sh) → List C → Option s.den
  | .int k, [.int k' n] => if k' = k then some n else none
  | .bool, [.bool b] => some b
  | .str, [.str s] => some s
  | .sl e, [.sl e' xs _] => if h : e' = e then some (h ▸ xs) else none
  | .unit, [] => some ()
  | .pair a b, cs =>
    match ofC a (cs.take a.nc), ofC b (cs.drop a.nc) with
    | some x, some y => some (x, y)
    | _, _ => none
  | _, _ => none
/-- A pointer that a function has captured: to an own box, to the variable of the function itself, to the variable of another function that has captured own boxes. -/
inductive CD where
  | b (k : Nat)
  | s
  | v (g : FuncId) (ks : List Nat)
  deriving DecidableEq
/-- What a slot of a frame holds. -/
inductive V where
  | undef
  | c (x : C)
  | agg (cs : List C)
  | ptr (k off : Nat)
  | own (k : Nat) (win : Option (Nat × Nat)) (tight : Bool)
  | eptr (k : Nat) (win : Option (Nat × Nat)) (i : Int) (off : Nat)
  | iptr (cs : List C)
  | aptr (k off n : Nat) (e : Sh) (i : Int)
  | tup (vs : List V)
  | fn (f : FuncId) (caps : List V)
  | map (k : Nat)
  | fptr (f : FuncId) (cds : List CD)
  | fpb (g : FuncId) (css : List (List C))
def V.flat : V → Bool
  | .tup _ => false
  | .fn _ _ => false
  | .undef => false
  | _ => true
def V.isPtr : V → Bool
  | .ptr _ _ => true
  | .eptr _ _ _ _ => true
  | .iptr _ => true
  | _ => false
def V.isUndef : V → Bool
  | .undef => true
  | _ => false
/-- What the call itself has made, under the slot that made it. -/
inductive O where
  | box (cs : List C)
  | arr (e : Sh) (xs : List e.den) (nilE : Bool)
  | mp (kk : IntKind) (e : Sh) (m : List (Int × e.den))
  | fbox
  | iter (s : ByteArray) (pos : Nat)
abbrev Heap := Nat → Option O
structure St where
  tm : List V
  hp : Heap
def emp : Heap := fun _ => none
def upd (h : Heap) (k : Nat) (o : O) : Heap := fun j => bif Nat.beq j k then some o else h j
def era (h : Heap) (k : Nat) : Heap := fun j => bif Nat.beq j k then none else h j
/-- What a call gives back. -/
inductive Ret1 where
  | val (c : C)
  | agg (cs : List C)
  | fresh (e : Sh) (xs : List e.den) (nilE : Bool)
  | lay (e : Sh) (xs : List e.den)
abbrev Ret := List Ret1
structure Tab where
  sh : List (Nat × Sh)
  flds : List (Nat × List Sh)
  arrs : List (Nat × (Nat × Sh))
  maps : List (Nat × (IntKind × Sh))
  eqs : List (Nat × Sh)
  idf : List Nat := []
  del : List Nat := []
  lits : List Nat := []
  nils : Bool := true
  fns : List Nat := []
abbrev Phi := FuncId → List V → (ρ : Type) → (Ret → Option ρ) → Option ρ
/-- What a callee leaves in what it was handed to be written. -/
inductive Out where
  | box (cs : List C)
  | arr (e : Sh) (xs : List e.den)
/-- Callees that write what they are handed: it reads back behind the call. -/
abbrev Phio := FuncId → List V → (ρ : Type) → (Ret → List Out → Option ρ) → Option ρ
structure Env where
  T : Tab
  phi : Phi
  eff : FuncId → Bool
  fuel : Nat
  phio : Phio := fun _ _ _ _ => none
  iop : FuncId → Option (List Bool) := fun _ => none
  hold : Nat := 1
  pcl : List Nat := []
def look {α : Type} : List (Nat × α) → Nat → Option α
  | [], _ => none
  | (k, v) :: r, n => bif Nat.beq k n then some v else look r n
def memN (d : Nat) (l : List Nat) : Bool := l.any (Nat.beq d)
def nodupB : List Nat → Bool
  | [] => true
  | d :: r => !memN d r && nodupB r
def hset (st : St) (k : Nat) (o : O) : St := { st with hp := upd st.hp k o }
def cdRef (k : Nat) : CD → Bool
  | .b j => Nat.beq j k
  | .s => false
  | .v _ ks => memN k ks
def cdsRef (k : Nat) : List CD → Bool
  | [] => false
  | c :: r => cdRef k c || cdsRef k r
/-- Does a value name something of the call's own under this key? -/
def refs1 (k : Nat) : V → Bool
  | .ptr j _ => Nat.beq j k
  | .own j _ _ => Nat.beq j k
  | .eptr j _ _ _ => Nat.beq j k
  | .aptr j _ _ _ _ => Nat.beq j k
  | .map j => Nat.beq j k
  | .fptr _ cds => cdsRef k cds
  | _ => false
def refsAny (k : Nat) : List V → Bool
  | [] => false
  | v :: r => refs1 k v || refsAny k r
def refs (k : Nat) : V → Bool
  | .tup vs => refsAny k vs
  | .fn _ vs => refsAny k vs
  | v => refs1 k v
def anyRefs (ks : List Nat) (v : V) : Bool := ks.any fun k => refs k v
def cleanTm (ks : List Nat) : List V → List V
  | [] => []
  | v :: r => (bif anyRefs ks v then .undef else v) :: cleanTm ks r
def eraAll (h : Heap) : List Nat → Heap
  | [] => h
  | k :: ks => era (eraAll h ks) k
/-- These are no more the call's own. -/
def drop (st : St) (ks : List Nat) : St :=
  match ks with
  | [] => st
  | _ => { tm := cleanTm ks st.tm, hp := eraAll st.hp ks }
def noRef (k : Nat) : List V → Bool
  | [] => true
  | v :: r => !refs k v && noRef k r
def put (st : St) (dst : Option Tmp) (v : V) : St :=
  match dst with
  | some d => { st with tm := st.tm.set d v }
  | none => st
/-- Keys from here on stand for what a caller has handed in to be written. -/
def pinLo : Nat := 1000000000000
/-- Keys from here on, below those, stand for arrays whose slices lie in boxes. -/
def oslLo : Nat := 500000000
def hk (k off : Nat) : Nat := oslLo + ((k + off) * (k + off) + off) * 10000 + 9999
/-- No slot but the one that is written names this key. -/
def dead (st : St) (dst : Option Tmp) (k : Nat) : Bool := Nat.blt k oslLo && noRef k (put st dst .undef).tm
def wo (win : Option (Nat × Nat)) : Nat :=
  match win with
  | none => 0
  | some (o, _) => o
def wz (win : Option (Nat × Nat)) : Bool :=
  match win with
  | none => true
  | some (o, _) => Nat.beq o 0
/-- The window of a slice of an own array. -/
def view {α : Type} (win : Option (Nat × Nat)) (xs : List α) : List α :=
  match win with
  | none => xs
  | some (o, l) => (xs.drop o).take l
def idx {α : Type} (xs : List α) (i : Int) : Option α := if 0 ≤ i then xs[i.toNat]? else none
def inB (i : Int) (n : Nat) : Bool := decide (0 ≤ i) && decide (i < n)
def setW {α : Type} (win : Option (Nat × Nat)) (xs : List α) (i : Int) (x : α) : List α :=
  match win with
  | none => xs.set i.toNat x
  | some (o, _) => xs.set (o + i.toNat) x
def replace (cs : List C) (off : Nat) (vs : List C) : List C := cs.take off ++ vs ++ cs.drop (off + vs.length)
/-- Lengths beyond this are left to others. -/
def lim : Nat := 1073741824
/-! Strings. -/
def strApp (a b : ByteArray) : ByteArray := ⟨(a.data.toList ++ b.data.toList).toArray⟩
def strEq (a b : ByteArray) : Bool := a.data.toList == b.data.toList
def strBytes (s : ByteArray) : List Int := s.data.toList.map fun b => (b.toNat : Int)
def strNums (xs : List Int) : ByteArray := ⟨(xs.map fun n => UInt8.ofNat n.toNat).toArray⟩
def constC : Value → Option C
  | .int k n => some (.int k n)
  | .bool b => some (.bool b)
  | .string s => some (.str s)
  | _ => none
def constCs : List Value → Option (List C)
  | [] => some []
  | v :: r =>
    match constC v, constCs r with
    | some c, some cs => some (c :: cs)
    | _, _ => none
def constV : Value → Option V
  | .agg cs => (constCs cs.toList).map .agg
  | v => (constC v).map .c
/-- What operands read as. -/
abbrev Val := Operand → Option V
/-- The package's variables that are tables of numbers: the i-th one's cells (a seat without such: none). -/
def globs : List (List (IntKind × Int)) := [[(.u8, 0), (.u8, 1), (.u8, 28), (.u8, 2), (.u8, 29), (.u8, 14), (.u8, 24), (.u8, 3), (.u8, 30), (.u8, 22), (.u8, 20), (.u8, 15), (.u8, 25), (.u8, 17), (.u8, 4), (.u8, 8), (.u8, 31), (.u8, 27), (.u8, 13), (.u8, 23), (.u8, 21), (.u8, 19), (.u8, 16), (.u8, 7), (.u8, 26), (.u8, 12), (.u8, 18), (.u8, 6), (.u8, 11), (.u8, 5), (.u8, 10), (.u8, 9)], [(.u8, 0), (.u8, 1), (.u8, 56), (.u8, 2), (.u8, 57), (.u8, 49), (.u8, 28), (.u8, 3), (.u8, 61), (.u8, 58), (.u8, 42), (.u8, 50), (.u8, 38), (.u8, 29), (.u8, 17), (.u8, 4), (.u8, 62), (.u8, 47), (.u8, 59), (.u8, 36), (.u8, 45), (.u8, 43), (.u8, 51), (.u8, 22), (.u8, 53), (.u8, 39), (.u8, 33), (.u8, 30), (.u8, 24), (.u8, 18), (.u8, 12), (.u8, 5), (.u8, 63), (.u8, 55), (.u8, 48), (.u8, 27), (.u8, 60), (.u8, 41), (.u8, 37), (.u8, 16), (.u8, 46), (.u8, 35), (.u8, 44), (.u8, 21), (.u8, 52), (.u8, 32), (.u8, 23), (.u8, 11), (.u8, 54), (.u8, 26), (.u8, 40), (.u8, 15), (.u8, 34), (.u8, 20), (.u8, 31), (.u8, 10), (.u8, 25), (.u8, 14), (.u8, 19), (.u8, 9), (.u8, 13), (.u8, 8), (.u8, 7), (.u8, 6)]]
def opV (st : St) : Operand → Option V
  | .tmp t => st.tm[t]?
  | .const v => constV v
  | .global g => match (globs[g]? : Option (List (IntKind × Int))) with | some ns => some (.iptr (ns.map fun p => .int p.1 p.2)) | none => none
  | .func f => some (.fn f [])
def isNil : Operand → Bool
  | .const (.slice none 0 0) => true
  | _ => false
def shOf (T : Tab) (t : TypeId) : Option Sh := look T.sh t
/-- A value that is made of so many cells. -/
def mkV (s : Sh) (cs : List C) : Option V :=
  bif s.agg then some (.agg cs) else
  match cs with
  | [c] => some (.c c)
  | _ => none
def cellsOf : V → Option (List C)
  | .c x => some [x]
  | .agg cs => some cs
  | _ => none
def ints (k : IntKind) : List C → Option (List Int)
  | [] => some []
  | .int k' n :: r => if k' = k then (ints k r).map (n :: ·) else none
  | _ :: _ => none
/-- The elements of a slice, as they read now. -/
def elems (H : Heap) (v : V) : Option (Σ e : Sh, List e.den) :=
  match v with
  | .own k win _ =>
    match H k with
    | some (.arr e xs _) => some ⟨e, view win xs⟩
    | _ => none
  | .c (.sl e xs _) => some ⟨e, xs⟩
  | _ => none
def castL (e' e : Sh) (xs : List e'.den) : Option (List e.den) := if h : e' = e then some (h ▸ xs) else none
def elemsAs (e : Sh) (H : Heap) (v : V) : Option (List e.den) :=
  match elems H v with
  | some ⟨e', xs⟩ => castL e' e xs
  | none => none
/-- A value that stands for itself, with nothing of the call's own in it: what is handed to a callee that only reads. -/
def gnd1 (H : Heap) : V → Option V
  | .c x => some (.c x)
  | .agg cs => some (.agg cs)
  | .iptr cs => some (.iptr cs)
  | .own k win t =>
    match H k with
    | some (.arr e xs _) => some (.c (.sl e (view win xs) t))
    | _ => none
  | .ptr k off =>
    match H k with
    | some (.box cs) => bif decide (off ≤ cs.length) then some (.iptr (cs.drop off)) else none
    | _ => none
  | _ => none
def gnds (H : Heap) : List V → Option (List V)
  | [] => some []
  | v :: r =>
    match gnd1 H v, gnds H r with
    | some x, some xs => some (x :: xs)
    | _, _ => none
def gnd (H : Heap) : V → Option V
  | .fn f caps => (gnds H caps).map (.fn f)
  | v => gnd1 H v
def nilV (T : Tab) (t : TypeId) : Option V :=
  match shOf T t with
  | some (.sl e) => some (.c (.sl e [] true))
  | _ => none
def argV (T : Tab) (ρv : Val) (H : Heap) (t : TypeId) (x : Operand) : Option V :=
  bif isNil x then nilV T t else (ρv x).bind (gnd H)
def argsV (T : Tab) (ρv : Val) (H : Heap) : List TypeId → List Operand → Option (List V)
  | t :: ts, x :: xs =>
    match argV T ρv H t x, argsV T ρv H ts xs with
    | some v, some vs => some (v :: vs)
    | _, _ => none
  | [], [] => some []
  | _, _ => none
def C.isSl : C → Bool
  | .sl .. => true
  | .osl => true
  | _ => false
def Ret1.hasSl : Ret1 → Bool
  | .val c => c.isSl
  | .agg cs => cs.any C.isSl
  | .fresh e _ _ => e.hasSl
  | .lay e _ => e.hasSl
def V.ownKey : V → List Nat
  | .own k _ _ => [k]
  | .ptr k _ => [k]
  | .fn _ caps => capKeys caps
  | _ => []
where
  capKeys : List V → List Nat
  | [] => []
  | .own k _ _ :: r => k :: capKeys r
  | .ptr k _ :: r => k :: capKeys r
  | _ :: r => capKeys r
def opKey (ρv : Val) (x : Operand) : List Nat :=
  match ρv x with
  | some v => v.ownKey
  | none => []
def retV (key : Nat) : Ret1 → V
  | .val c => .c c
  | .agg cs => .agg cs
  | .fresh _ _ _ => .own key none false
  | .lay e xs => .c (.sl e xs false)
def retO (key : Nat) : Ret1 → List (Nat × O)
  | .fresh e xs nilE => [(key, .arr e xs nilE)]
  | _ => []
def retVs (key : Nat) : Ret → List V
  | [] => []
  | r :: rs => retV (key + 10000) r :: retVs (key + 10000) rs
def retOs (key : Nat) : Ret → List (Nat × O)
  | [] => []
  | r :: rs => retO (key + 10000) r ++ retOs (key + 10000) rs
/-- The value of a call, and what it has made. -/
def retAll (key : Nat) : Ret → V × List (Nat × O)
  | [r] => (retV key r, retO key r)
  | rs => (.tup (retVs key rs), retOs key rs)
def intCmp (op : BinOp) (x y : Int) : Option Bool :=
  match op with
  | .eql => some (x == y)
  | .neq => some (x != y)
  | .lss => some (decide (x < y))
  | .leq => some (decide (x ≤ y))
  | .gtr => some (decide (x > y))
  | .geq => some (decide (x ≥ y))
  | _ => none
def intBin (op : BinOp) (k : IntKind) (x y : Int) (ρ : Type) (K : Int → Option ρ) : Option ρ :=
  match op with
  | .add => K (k.wrap (x + y))
  | .sub => K (k.wrap (x - y))
  | .mul => K (k.wrap (x * y))
  | .quo => bif y == 0 then none else K (k.wrap (x.tdiv y))
  | .rem => bif y == 0 then none else K (x.tmod y)
  | .and => K (k.wrap (BitVec.ofInt k.bits x &&& BitVec.ofInt k.bits y).toNat)
  | .or => K (k.wrap (BitVec.ofInt k.bits x ||| BitVec.ofInt k.bits y).toNat)
  | .xor => K (k.wrap (BitVec.ofInt k.bits x ^^^ BitVec.ofInt k.bits y).toNat)
  | .andNot => K (k.wrap (BitVec.ofInt k.bits x &&& ~~~BitVec.ofInt k.bits y).toNat)
  | .shl => bif decide (y < 0) then none else K (k.wrap (x * 2 ^ (min y.toNat k.bits)))
  | .shr => bif decide (y < 0) then none else K (x.fdiv (2 ^ (min y.toNat k.bits)))
  | _ => none
/-- Are two rows of numbers and bools the same? -/
def eqCs : List C → List C → Option Bool
  | [], [] => some true
  | .int k a :: r, .int k' b :: r' => if k = k' then (eqCs r r').map ((a == b) && ·) else none
  | .bool a :: r, .bool b :: r' => (eqCs r r').map ((a == b) && ·)
  | _, _ => none
def isShift : BinOp → Bool
  | .shl => true
  | .shr => true
  | _ => false
def binop (T : Tab) (op : BinOp) (t : TypeId) (x y : Operand) (ρv : Val) (H : Heap) (ρ : Type) (K : V → Option ρ) : Option ρ :=
  match ρv x with
  | some (.c (.int k a)) =>
    match ρv y with
    | some (.c (.int k' b)) =>
      bif isShift op then intBin op k a b ρ fun n => K (.c (.int k n))
      else if k = k' then
        match intCmp op a b with
        | some r => K (.c (.bool r))
        | none => intBin op k a b ρ fun n => K (.c (.int k n))
      else none
    | _ => none
  | some (.c (.bool a)) =>
    match ρv y with
    | some (.c (.bool b)) =>
      match shOf T t with
      | some .bool =>
        match op with
        | .eql => K (.c (.bool (a == b)))
        | .neq => K (.c (.bool (a != b)))
        | _ => none
      | _ => none
    | _ => none
  | some (.agg cs) =>
    match ρv y with
    | some (.agg cs') =>
      match (match look T.eqs t with | some s => bif (ofC s cs).isSome && (ofC s cs').isSome then eqCs cs cs' else none | none => none) with
      | some b =>
        match op with
        | .eql => K (.c (.bool b))
        | .neq => K (.c (.bool (!b)))
        | _ => none
      | none => none
    | _ => none
  | some (.own k none _) =>
    bif isNil y then
      match H k, shOf T t with
      | some (.arr _ xs true), some (.sl _) =>
        match op with
        | .eql => K (.c (.bool xs.isEmpty))
        | .neq => K (.c (.bool (!xs.isEmpty)))
        | _ => none
      | _, _ => none
    else none
  | some (.c (.sl _ xs _)) =>
    bif isNil y && !xs.isEmpty then
      match shOf T t with
      | some (.sl _) =>
        match op with
        | .eql => K (.c (.bool false))
        | .neq => K (.c (.bool true))
        | _ => none
      | _ => none
    else none
  | some (.c (.str a)) =>
    match ρv y with
    | some (.c (.str b)) =>
      match op with
      | .add => bif decide (a.size + b.size ≤ lim) then K (.c (.str (strApp a b))) else none
      | .eql => K (.c (.bool (strEq a b)))
      | .neq => K (.c (.bool (!strEq a b)))
      | _ => none
    | _ => none
  | _ => none
def max2 (k : IntKind) (x : Int) : List V → Option Int
  | [] => some x
  | .c (.int k' y) :: r => if k' = k then max2 k (if y > x then y else x) r else none
  | _ :: _ => none
def min2 (k : IntKind) (x : Int) : List V → Option Int
  | [] => some x
  | .c (.int k' y) :: r => if k' = k then min2 k (if y < x then y else x) r else none
  | _ :: _ => none
def opVs (ρv : Val) : List Operand → Option (List V)
  | [] => some []
  | x :: r =>
    match ρv x, opVs ρv r with
    | some v, some vs => some (v :: vs)
    | _, _ => none
def fieldOff (fs : List Sh) (f : Nat) : Nat := ((fs.take f).map Sh.nc).sum
/-- Where a field of a struct begins. -/
def fldOff (T : Tab) (s : TypeId) (f : Nat) : Option Nat :=
  match look T.flds s with
  | some fs =>
    match fs[f]? with
    | some _ => some (fieldOff fs f)
    | none => none
  | none => none
def partsFill (fs : List Sh) (ρv : Val) (cs : List C) : List (Nat × Operand) → Option (List C)
  | [] => some cs
  | (j, x) :: r =>
    match (ρv x).bind cellsOf, fs[j]? with
    | some vs, some s => bif decide (vs.length = s.nc) && decide (fieldOff fs j + s.nc ≤ cs.length) then partsFill fs ρv (replace cs (fieldOff fs j) vs) r else none
    | _, _ => none
/-- An element of a literal: cells, or (frozen) an own array. -/
def partEl (e : Sh) (ρv : Val) (H : Heap) (x : Operand) : Option e.den :=
  match ρv x with
  | some v =>
    match cellsOf v with
    | some vs => ofC e vs
    | none =>
      match e with
      | .sl e' => elemsAs e' H v
      | _ => none
  | none => none
def listFill (e : Sh) (ρv : Val) (H : Heap) (xs : List e.den) : List (Nat × Operand) → Option (List e.den)
  | [] => some xs
  | (j, x) :: r =>
    match partEl e ρv H x with
    | some y => bif decide (j < xs.length) then listFill e ρv H (xs.set j y) r else none
    | none => none
/-- Which of the call's own arrays are laid down in what a literal is made of. -/
def partKeys (ρv : Val) : List (Nat × Operand) → List Nat
  | [] => []
  | (_, x) :: r => opKey ρv x ++ partKeys ρv r
def bounds (lo hi mx : Option Int) (n : Nat) : Bool :=
  let m : Int := match mx with | some m => m | none => n
  let h : Int := match hi with | some h => h | none => n
  let l : Int := match lo with | some l => l | none => 0
  decide (0 ≤ l) && decide (l ≤ h) && decide (h ≤ m) && decide (m ≤ n)
def optI (ρv : Val) : Option Operand → Option (Option Int)
  | none => some none
  | some x =>
    match ρv x with
    | some (.c (.int _ n)) => some (some n)
    | _ => none
def dstKey : Option Tmp → Nat
  | some d => d
  | none => 0
def alook {α : Type} (m : List (Int × α)) (k : Int) : Option α := (m.find? fun p => p.1 == k).map (·.2)
def aset {α : Type} (m : List (Int × α)) (k : Int) (x : α) : List (Int × α) :=
  match m with
  | [] => [(k, x)]
  | p :: r => bif p.1 == k then (k, x) :: r else p :: aset r k x
def loN (lo : Option Int) : Nat := match lo with | some l => l.toNat | none => 0
def hiN (hi : Option Int) (n : Nat) : Nat := match hi with | some h => h.toNat | none => n
def cutHi {α : Type} (hi : Option Int) (xs : List α) : List α := match hi with | some h => xs.take h.toNat | none => xs
def strCut (lo hi : Option Int) (s : ByteArray) : ByteArray := ⟨((cutHi hi s.data.toList).drop (loN lo)).toArray⟩
/-- A slice's window when it is cut once more. -/
def cutWin (win : Option (Nat × Nat)) (l h : Nat) : Option (Nat × Nat) :=
  match win with
  | none => some (0 + l, h - l)
  | some (o, _) => some (o + l, h - l)
def cutTight (tight : Bool) (hi mx : Option Int) : Bool :=
  match mx with
  | some m => match hi with | some h => h == m | none => false
  | none => tight && hi.isNone
/-- A slice of three is tight. -/
def tightOK (hi mx : Option Int) : Bool :=
  match mx with
  | some m => match hi with | some h => h == m | none => false
  | none => true
def cutT (tight : Bool) (hi mx : Option Int) : Bool :=
  match mx with
  | some _ => true
  | none => tight && hi.isNone
/-- Pointers to own boxes. -/
def ptrKeys : List V → Option (List Nat)
  | [] => some []
  | .ptr k 0 :: r => (ptrKeys r).map (k :: ·)
  | _ :: _ => none
/-- What a function has captured, as values. -/
def cdV (f : FuncId) (cds : List CD) : CD → V
  | .b k => .ptr k 0
  | .s => .fptr f cds
  | .v g ks => .fptr g (ks.map .b)
/-- Cells as elements. -/
def rowsC (e : Sh) : Nat → List C → Option (List e.den)
  | 0, _ => some []
  | n + 1, cs =>
    match ofC e (cs.take e.nc), rowsC e n (cs.drop e.nc) with
    | some x, some l => some (x :: l)
    | _, _ => none
/-- Operations that change nothing that is there (a new thing of the call's own may come in). -/
def evalP (E : Env) (o : Oper) (ρv : Val) (H : Heap) (ρ : Type) (K : V → List (Nat × O) → Option ρ) : Option ρ :=
  match o.op with
  | .move x | .assign x =>
    bif isNil x then
      match shOf E.T o.type with
      | some (.sl e) => K (.own (dstKey o.dst) none false) [(dstKey o.dst, .arr e [] E.T.nils)]
      | _ => none
    else
      match ρv x with
      | some v => bif v.isUndef then none else K v []
      | none => none
  | .pick c a b =>
    match ρv c, ρv a, ρv b with
    | some (.c (.bool p)), some (.c (.bool x)), some (.c (.bool y)) => K (.c (.bool (bif p then x else y))) []
    | _, _, _ => none
  | .alloc t =>
    bif memN t E.T.fns then K (.ptr (dstKey o.dst) 0) [(dstKey o.dst, .fbox)] else
    match shOf E.T t with
    | some s => K (.ptr (dstKey o.dst) 0) [(dstKey o.dst, .box (zcells s))]
    | none => none
  | .box t x =>
    bif memN t E.T.fns then
      match ρv x with
      | some (.fn g caps) => (ptrKeys caps).bind fun ks => K (.fptr g (ks.map .b)) []
      | _ => none
    else
    match shOf E.T t, (ρv x).bind cellsOf with
    | some s, some cs => bif decide (cs.length = s.nc) && noOsl cs then K (.ptr (dstKey o.dst) 0) [(dstKey o.dst, .box cs)] else none
    | _, _ => none
  | .build t parts =>
    match shOf E.T t with
    | some s =>
      match (match look E.T.flds t with | some fs => some fs | none => (look E.T.arrs t).map fun p => List.replicate p.1 p.2) with
      | some fs =>
        bif s.agg then
          match partsFill fs ρv (zcells s) parts.toList with
          | some cs => K (.agg cs) []
          | none => none
        else none
      | none => none
    | none => none
  | .buildSlice t len parts =>
    match shOf E.T t with
    | some (.sl e) =>
      bif memN t E.T.lits then
        bif (partKeys ρv parts.toList).isEmpty && decide (len * e.nc ≤ 16777216) then
          match listFill e ρv H (List.replicate len (zero e)) parts.toList with
          | some xs => K (.c (.sl e xs true)) []
          | none => none
        else none
      else
      bif !e.hasSl && decide (len * e.nc ≤ 16777216) then
        match listFill e ρv H (List.replicate len (zero e)) parts.toList with
        | some xs => K (.own (dstKey o.dst) none false) [(dstKey o.dst, .arr e xs false)]
        | none => none
      else none
    | _ => none
  | .load t a =>
    bif memN t E.T.fns then
      match ρv a with
      | some (.fptr f cds) => K (.fn f (cds.map (cdV f cds))) []
      | _ => none
    else
    match shOf E.T t, ρv a with
    | some s, some (.ptr k off) =>
      match H k with
      | some (.box cs) =>
        bif decide (off + s.nc ≤ cs.length) then
          bif oslAt s cs off then
            match s, H (hk k off) with
            | .sl e, some (.arr e' _ _) => bif decide (e = e') then K (.own (hk k off) none false) [] else none
            | _, _ => none
          else
          match mkV s ((cs.drop off).take s.nc) with
          | some v => K v []
          | none => none
        else none
      | _ => none
    | some s, some (.iptr cs) =>
      bif decide (s.nc ≤ cs.length) then
        match mkV s (cs.take s.nc) with
        | some v => K v []
        | none => none
      else none
    | some s, some (.eptr k win i off) =>
      match H k with
      | some (.arr e xs _) =>
        bif decide (off + s.nc ≤ e.nc) then
          (idx (view win xs) i).bind fun x =>
            match mkV s (((cells e x).drop off).take s.nc) with
            | some v => K v []
            | none => none
        else none
      | _ => none
    | some s, some (.aptr k off n e i) =>
      match e, H k with
      | .int kk, some (.box cs) =>
        bif decide (s = .int kk) && decide (off + n ≤ cs.length) then
          match ints kk ((cs.drop off).take n) with
          | some ns => (idx ns i).bind fun x => K (.c (.int kk x)) []
          | none => none
        else none
      | e, some (.box cs) =>
        bif decide (s = e) && decide (off + n * e.nc ≤ cs.length) then
          match rowsC e n (cs.drop off) with
          | some xs => (idx xs i).bind fun x => match mkV e (cells e x) with | some v => K v [] | none => none
          | none => none
        else none
      | _, _ => none
    | _, _ => none
  | .binOp op t x y _ => binop E.T op t x y ρv H ρ fun v => K v []
  | .unOp op _ x =>
    match op, ρv x with
    | .neg, some (.c (.int k n)) => K (.c (.int k (k.wrap (0 - n)))) []
    | .not, some (.c (.bool b)) => K (.c (.bool (!b))) []
    | .xor, some (.c (.int k n)) => K (.c (.int k (k.wrap (BitVec.ofInt k.bits (if k.signed then -1 else k.max) ^^^ BitVec.ofInt k.bits n).toNat))) []
    | _, _ => none
  | .convert src dst x =>
    match ρv x, shOf E.T dst, shOf E.T src with
    | some (.c (.int _ n)), some (.int k), some _ => K (.c (.int k (k.wrap n))) []
    | some (.c (.str s)), some (.sl (.int .u8)), some .str => K (.c (.sl (.int .u8) (strBytes s) false)) []
    | some v, some .str, some (.sl (.int .u8)) =>
      match elemsAs (.int .u8) H v with
      | some xs => K (.c (.str (strNums xs))) []
      | none => none
    | _, _, _ => none
  | .nilCheck x =>
    match ρv x with
    | some v => bif v.isPtr then K v [] else none
    | none => none
  | .range t x =>
    match ρv x, shOf E.T t with
    | some (.c (.str s)), some .str => K (.ptr (dstKey o.dst) 0) [(dstKey o.dst, .iter s 0)]
    | _, _ => none
  | .extract x j =>
    match ρv x with
    | some (.tup vs) =>
      match vs[j]? with
      | some v => bif v.flat then K v [] else none
      | none => none
    | _ => none
  | .fieldAddr s x f =>
    match fldOff E.T s f, ρv x with
    | some d, some (.ptr k off) => K (.ptr k (off + d)) []
    | some d, some (.eptr k win i off) => K (.eptr k win i (off + d)) []
    | some d, some (.iptr cs) => bif decide (d ≤ cs.length) then K (.iptr (cs.drop d)) [] else none
    | _, _ => none
  | .field s x f =>
    match look E.T.flds s, ρv x with
    | some fs, some (.agg cs) =>
      match fs[f]? with
      | some e =>
        bif decide (fieldOff fs f + e.nc ≤ cs.length) then
          match mkV e ((cs.drop (fieldOff fs f)).take e.nc) with
          | some v => K v []
          | none => none
        else none
      | none => none
    | _, _ => none
  | .indexAddr t x i =>
    match ρv x, ρv i with
    | some (.own k win _), some (.c (.int _ n)) =>
      match H k, shOf E.T t with
      | some (.arr e xs _), some (.sl e') => bif decide (e = e') && inB n (view win xs).length then K (.eptr k win n 0) [] else none
      | _, _ => none
    | some (.c (.sl e xs _)), some (.c (.int _ n)) =>
      match shOf E.T t with
      | some (.sl e') => bif decide (e = e') then (idx xs n).bind fun x => K (.iptr (cells e x)) [] else none
      | _ => none
    | some (.ptr k off), some (.c (.int _ n)) =>
      match look E.T.arrs t with
      | some (len, e) => bif inB n len then K (.aptr k off len e n) [] else none
      | none => none
    | some (.iptr cs), some (.c (.int _ n)) =>
      match look E.T.arrs t with
      | some (len, .int kk) =>
        bif decide (cs.length = len) then
          match ints kk cs with
          | some ns => (idx ns n).bind fun x => K (.iptr [.int kk x]) []
          | none => none
        else none
      | some (len, e) =>
        bif decide (len * e.nc ≤ cs.length) then
          match rowsC e len cs with
          | some xs => (idx xs n).bind fun x => K (.iptr (cells e x)) []
          | none => none
        else none
      | none => none
    | _, _ => none
  | .index t x i =>
    match look E.T.arrs t, ρv x, ρv i with
    | some (len, .int kk), some (.agg cs), some (.c (.int _ n)) =>
      bif decide (cs.length = len) then
        match ints kk cs with
        | some ns => (idx ns n).bind fun x => K (.c (.int kk x)) []
        | none => none
      else none
    | _, some (.c (.str s)), some (.c (.int _ n)) =>
      match shOf E.T t with
      | some .str => (idx (strBytes s) n).bind fun x => K (.c (.int .u8 x)) []
      | _ => none
    | some (len, e), some (.agg cs), some (.c (.int _ n)) =>
      bif decide (cs.length = len * e.nc) then
        match rowsC e len cs with
        | some xs => (idx xs n).bind fun x => match mkV e (cells e x) with | some v => K v [] | none => none
        | none => none
      else none
    | _, _, _ => none
  | .slice t x lo hi mx =>
    match optI ρv lo, optI ρv hi, optI ρv mx, shOf E.T t with
    | some lo', some hi', some mx', some (.sl e') =>
      match ρv x with
      | some (.own k win tight) =>
        match H k with
        | some (.arr e xs _) =>
          bif decide (e = e') && (!mx'.isSome || hi'.isSome) && tightOK hi' mx' && bounds lo' hi' mx' (view win xs).length then
            K (.own k (cutWin win (loN lo') (hiN hi' (view win xs).length)) (cutT tight hi' mx')) []
          else none
        | _ => none
      | some (.c (.sl e xs tight)) =>
        bif decide (e = e') && (!mx'.isSome || hi'.isSome) && tightOK hi' mx' && bounds lo' hi' mx' xs.length then
          K (.c (.sl e ((cutHi hi' xs).drop (loN lo')) (cutT tight hi' mx'))) []
        else none
      | _ => none
    | some lo', some hi', some none, some .str =>
      match ρv x with
      | some (.c (.str s)) => bif bounds lo' hi' none s.size then K (.c (.str (strCut lo' hi' s))) [] else none
      | _ => none
    | _, _, _, _ => none
  | .makeSlice t l c =>
    match shOf E.T t, ρv l, ρv c with
    | some (.sl e), some (.c (.int .i64 n)), some (.c (.int .i64 m)) =>
      bif decide (0 ≤ n) && decide (n ≤ m) && decide (m ≤ lim) then
        K (.own (dstKey o.dst) none false) [(dstKey o.dst, .arr e (List.replicate n.toNat (zero e)) false)]
      else none
    | _, _, _ => none
  | .makeFunc fn first caps =>
    match fn, first.toList, opVs ρv caps.toList with
    | .func f, [], some vs => bif vs.all V.flat then K (.fn f vs) [] else none
    | _, _, _ => none
  | .makeMap t none =>
    match look E.T.maps t with
    | some (kk, e) => K (.map (dstKey o.dst)) [(dstKey o.dst, .mp kk e [])]
    | none => none
  | .lookup t x i ok =>
    match ρv x, ρv i, look E.T.maps t with
    | some (.map k), some (.c (.int kk n)), some (kk2, e2) =>
      match H k with
      | some (.mp kk' e m) =>
        bif decide (kk = kk') && decide (kk2 = kk') && decide (e2 = e) then
          match mkV e (cells e ((alook m n).getD (zero e))) with
          | some v => K (bif ok then .tup [v, .c (.bool (alook m n).isSome)] else v) []
          | none => none
        else none
      | _ => none
    | _, _, _ => none
  | .call c =>
    match c.callee with
    | .builtin .len =>
      match c.args.toList, c.argTypes.toList with
      | [x], t :: _ =>
        match ρv x with
        | some (.c (.str s)) =>
          match shOf E.T t with
          | some .str => K (.c (.int .i64 (s.size : Int))) []
          | _ => none
        | some (.map k) =>
          match H k, look E.T.maps t with
          | some (.mp _ _ m), some _ => K (.c (.int .i64 (m.length : Int))) []
          | _, _ => none
        | some v =>
          match elems H v, shOf E.T t with
          | some ⟨_, xs⟩, some (.sl _) => K (.c (.int .i64 (xs.length : Int))) []
          | _, _ => none
        | none => none
      | _, _ => none
    | .builtin .cap =>
      match c.args.toList, c.argTypes.toList with
      | [x], t :: _ =>
        match ρv x, shOf E.T t with
        | some (.c (.sl _ xs true)), some (.sl _) => K (.c (.int .i64 (xs.length : Int))) []
        | _, _ => none
      | _, _ => none
    | .builtin .max =>
      match opVs ρv c.args.toList with
      | some (.c (.int k n) :: vs) =>
        match max2 k n vs with
        | some m => K (.c (.int k m)) []
        | none => none
      | _ => none
    | .builtin .min =>
      match opVs ρv c.args.toList with
      | some (.c (.int k n) :: vs) =>
        match min2 k n vs with
        | some m => K (.c (.int k m)) []
        | none => none
      | _ => none
    | .builtin .append =>
      match c.args.toList, c.argTypes.toList with
      | [x, y], [t, tx] =>
        match shOf E.T t, shOf E.T tx, (ρv y).bind fun w => elems H w with
        | some (.sl e), some (.sl _), some ⟨e2, ys2⟩ =>
          match castL e2 e ys2, ρv x with
          | some ys, some v =>
            match v with
            | .own k win true =>
              match elemsAs e H (.own k win true) with
              | some xs =>
                bif decide (xs.length + ys.length ≤ lim) && (xs.isEmpty || !ys.isEmpty) then
                  K (.own (dstKey o.dst) none false) [(dstKey o.dst, .arr e (xs ++ ys) false)]
                else none
              | none => none
            | .c (.sl e' xs' true) =>
              match castL e' e xs' with
              | some xs =>
                bif decide (xs.length + ys.length ≤ lim) && (xs.isEmpty || !ys.isEmpty) then
                  K (.own (dstKey o.dst) none false) [(dstKey o.dst, .arr e (xs ++ ys) false)]
                else none
              | none => none
            | _ => none
          | _, _ => none
        | _, _, _ => none
      | _, _ => none
    | .value (.func g) =>
      bif memN g E.T.idf then
        match c.args.toList with
        | [y] =>
          match ρv y with
          | some v => bif v.isUndef then none else K v []
          | none => none
        | _ => none
      else
      match argsV E.T ρv H c.argTypes.toList c.args.toList with
      | some vs =>
        E.phi g vs ρ fun ret =>
          bif ret.any Ret1.hasSl && c.args.toList.any (fun x => !(opKey ρv x).isEmpty) then none
          else K (retAll (dstKey o.dst) ret).1 (retAll (dstKey o.dst) ret).2
      | none => none
    | .value (.tmp t) =>
      match (ρv (.tmp t)).bind (gnd H) with
      | some (.fn g caps) =>
        match argsV E.T ρv H c.argTypes.toList c.args.toList with
        | some vs =>
          E.phi g (vs ++ caps) ρ fun ret =>
            bif ret.any Ret1.hasSl then none
            else K (retAll (dstKey o.dst) ret).1 (retAll (dstKey o.dst) ret).2
        | none => none
      | _ => none
    | _ => none
  | _ => none
def updAll (h : Heap) : List (Nat × O) → Heap
  | [] => h
  | (k, o) :: r => upd (updAll h r) k o
def vAgg : V → Bool
  | .agg _ => true
  | _ => false
def opAgg (e : Sh) : Option V → Bool
  | some v => decide (vAgg v = e.agg)
  | none => false
/-- What stands for a thing that is handed in to be written. -/
def ioK1 : V → Option Nat
  | .own k none _ => some k
  | .ptr k 0 => some k
  | _ => none
def ioKL : List V → Option (List Nat)
  | [] => some []
  | v :: r =>
    match ioK1 v, ioKL r with
    | some k, some ks => some (k :: ks)
    | _, _ => none
/-- Own boxes alone. -/
def cdKeys : List CD → Option (List Nat)
  | [] => some []
  | .b k :: r => (cdKeys r).map (k :: ·)
  | _ :: _ => none
def ioKs : V → Option (List Nat)
  | .fn _ caps => ioKL caps
  | .fptr _ cds => cdKeys cds
  | v => (ioK1 v).map fun k => [k]
/-- The arguments as they stand, those of a closure behind them. -/
def rawArgs (st : St) (v : V) (c : Call) : List V :=
  c.args.toList.map (fun x => match opV st x with | some u => u | none => .undef) ++ match v with | .fn _ caps => caps | _ => []
/-- The keys that are handed in to be written; and those of the others. -/
def ioArgs : List Bool → List V → Option (List Nat × List Nat)
  | [], [] => some ([], [])
  | true :: fs, v :: vs =>
    match ioKs v, ioArgs fs vs with
    | some ks, some (k, o) => some (ks ++ k, o)
    | _, _ => none
  | false :: fs, v :: vs =>
    match ioArgs fs vs with
    | some (k, o) => some (k, v.ownKey ++ o)
    | none => none
  | _, _ => none
/-- The place of a key among those that are handed in. -/
def posN (k : Nat) : List Nat → Option Nat
  | [] => none
  | j :: r => bif Nat.beq j k then some 0 else (posN k r).map (· + 1)
def pinKs (ks : List Nat) : List Nat → Option (List Nat)
  | [] => some []
  | k :: r =>
    match posN k ks, pinKs ks r with
    | some p, some l => some ((pinLo + p) :: l)
    | _, _ => none
def pinCd (ks : List Nat) : CD → Option CD
  | .b k => (posN k ks).map fun p => .b (pinLo + p)
  | .s => some .s
  | .v g l => (pinKs ks l).map (.v g)
def pinCds (ks : List Nat) : List CD → Option (List CD)
  | [] => some []
  | c :: r =>
    match pinCd ks c, pinCds ks r with
    | some c', some l => some (c' :: l)
    | _, _ => none
def boxCs (H : Heap) : List Nat → Option (List (List C))
  | [] => some []
  | k :: r =>
    match H k, boxCs H r with
    | some (.box cs), some l => some (cs :: l)
    | _, _ => none
/-- A captured value as it is handed in. -/
def gndK (H : Heap) (ks : List Nat) (fl : Bool) : V → Option V
  | .fptr g cds => bif fl then ((cdKeys cds).bind (boxCs H)).map (.fpb g) else (pinCds ks cds).map (.fptr g)
  | v => gnd1 H v
def gndsK (H : Heap) (ks : List Nat) : List Bool → List V → Option (List V)
  | [], [] => some []
  | f :: fs, v :: r =>
    match gndK H ks f v, gndsK H ks fs r with
    | some x, some xs => some (x :: xs)
    | _, _ => none
  | _, _ => none
def Out.hasSl : Out → Bool
  | .box cs => cs.any C.isSl
  | .arr e _ => e.hasSl
def out1 : O → Out → Option O
  | .box cs, .box cs' => bif Nat.beq cs'.length cs.length && noOsl cs' then some (.box cs') else none
  | .arr e xs n, .arr e' ys =>
    match castL e' e ys with
    | some ys => bif Nat.beq ys.length xs.length then some (.arr e ys n) else none
    | none => none
  | _, _ => none
def outsPut (H : Heap) : List Nat → List Out → Option Heap
  | [], [] => some H
  | k :: ks, x :: xs =>
    match H k with
    | some ob =>
      match out1 ob x with
      | some ob' => outsPut (upd H k ob') ks xs
      | none => none
    | none => none
  | _, _ => none
def out1C (ob : O) (x : Out) (ρ : Type) (K : O → Option ρ) : Option ρ :=
  match ob, x with
  | .box cs, .box cs' => bif Nat.beq cs'.length cs.length && noOsl cs' then K (.box cs') else none
  | .arr e xs n, .arr e' ys =>
    match castL e' e ys with
    | some ys => bif Nat.beq ys.length xs.length then K (.arr e ys n) else none
    | none => none
  | _, _ => none
def outsPutC (H : Heap) (ks : List Nat) (outs : List Out) (ρ : Type) (K : Heap → Option ρ) : Option ρ :=
  match ks, outs with
  | [], [] => K H
  | k :: ks, x :: xs =>
    match H k with
    | some ob => out1C ob x ρ fun ob' => outsPutC (upd H k ob') ks xs ρ K
    | none => none
  | _, _ => none
/-- Does a call delete from a slice of numbers? -/
def isDelF (T : Tab) : Operand → Bool
  | .func g => memN g T.del
  | _ => false
/-- Elements of an own slice are deleted, in place. -/
def evalDel (o : Oper) (c : Call) (st : St) (ρ : Type) (K : St → Option ρ) : Option ρ :=
  match c.args.toList with
  | [x, y, z] =>
    match opV st x, opV st y, opV st z with
    | some (.own k none false), some (.c (.int .i64 i)), some (.c (.int .i64 j)) =>
      match st.hp k with
      | some (.arr (.int .i64) xs _) =>
        bif dead (drop st [k]) o.dst (dstKey o.dst) && decide (0 ≤ i) && decide (i < j) && decide (j ≤ xs.length) && decide (xs.length ≤ lim) then
          K (hset (put (drop st [k]) o.dst (.own (dstKey o.dst) none false)) (dstKey o.dst) (.arr (.int .i64) (xs.take i.toNat ++ xs.drop j.toNat) false))
        else none
      | _ => none
    | _, _, _ => none
  | _ => none
/-- A slice of an own array that is named no more from then on. -/
def evalCut (E : Env) (o : Oper) (st : St) (t : TypeId) (x : Operand) (lo hi mx : Option Operand) (ρ : Type) (K : St → Option ρ) : Option ρ :=
  match look E.T.arrs t, opV st x, optI (opV st) lo, optI (opV st) hi, optI (opV st) mx with
  | some (n, e), some (.ptr k off), some lo', some hi', some none =>
    match st.hp k with
    | some (.box cs) =>
      match rowsC e n (cs.drop off) with
      | some xs =>
        bif decide (off + n * e.nc ≤ cs.length) && bounds lo' hi' none n then
          K { tm := (put (drop st [k]) o.dst (.c (.sl e ((cutHi hi' xs).drop (loN lo')) false))).tm, hp := (drop st [k]).hp }
        else none
      | none => none
    | _ => none
  | some (n, e), some (.iptr cs), some lo', some hi', some none =>
    match rowsC e n cs with
    | some xs =>
      bif decide (n * e.nc ≤ cs.length) && bounds lo' hi' none n then
        K (put st o.dst (.c (.sl e ((cutHi hi' xs).drop (loN lo')) false)))
      else none
    | none => none
  | _, _, _, _, _ => none
def knotCd (k : Nat) : V → Option CD
  | .ptr j 0 => bif Nat.beq j k then some .s else some (.b j)
  | .fptr g cds => (cdKeys cds).map (.v g)
  | _ => none
def knotCds (k : Nat) : List V → Option (List CD)
  | [] => some []
  | v :: r =>
    match knotCd k v, knotCds k r with
    | some c, some l => some (c :: l)
    | _, _ => none
def knotV (k : Nat) (x : V) (v : V) : V :=
  match v with
  | .ptr j 0 => bif Nat.beq j k then x else v
  | v => bif refs k v then .undef else v
def knotTm (k : Nat) (x : V) : List V → List V
  | [] => []
  | v :: r => knotV k x v :: knotTm k x r
/-- A function's variable gets its function, which may have captured the variable itself. -/
def evalKnot (o : Oper) (st : St) (a x : Operand) (ρ : Type) (K : St → Option ρ) : Option ρ :=
  match opV st a, opV st x with
  | some (.ptr k 0), some (.fn f caps) =>
    match st.hp k, knotCds k caps with
    | some .fbox, some cds =>
      bif Nat.blt k pinLo && !(cdsRef k cds) then K (put { tm := knotTm k (.fptr f cds) st.tm, hp := era st.hp k } o.dst .undef) else none
    | _, _ => none
  | _, _ => none
def isOwnV : Option V → Bool
  | some (.own _ _ _) => true
  | _ => false
/-- A slice of an own array is put into a box: the array is the box's from then on. -/
def evalOsl (E : Env) (o : Oper) (st : St) (t : TypeId) (a x : Operand) (ρ : Type) (K : St → Option ρ) : Option ρ :=
  match opV st a, opV st x with
  | some (.ptr k off), some (.own k3 none _) =>
    match shOf E.T t, st.hp k, st.hp k3 with
    | some (.sl e), some (.box cs), some (.arr e' xs nilE) =>
      bif decide (e' = e) && decide (off < cs.length) && Nat.blt k oslLo && Nat.blt k3 oslLo && !Nat.beq k3 k && Nat.blt (hk k off) pinLo then
        K { tm := (put { tm := cleanTm [k3, hk k off] st.tm, hp := st.hp } o.dst .undef).tm, hp := upd (upd (eraAll st.hp [k3, hk k off]) k (.box (cs.set off .osl))) (hk k off) (.arr e' xs nilE) }
      else none
    | _, _, _ => none
  | _, _ => none
/-- One of a row of numbers is set, at a place that is not known. -/
def selC (b : Bool) (x y : C) : Option C :=
  match x, y with
  | .int k n, .int k' m => bif decide (k = k') then some (.int k (bif b then n else m)) else none
  | .bool n, .bool m => some (.bool (bif b then n else m))
  | _, _ => none
def setRow1 (i : Int) (v : C) : Nat → Nat → List C → Option (List C)
  | _, 0, cs => some cs
  | j, n + 1, c :: cs =>
    match selC (i == (j : Int)) v c, setRow1 i v (j + 1) n cs with
    | some c', some cs' => some (c' :: cs')
    | _, _ => none
  | _, _ + 1, [] => none
/-- What is given up may be looked at from then on, but no more be written. -/
def layV (ks : List Nat) (H : Heap) (v : V) : V :=
  bif anyRefs ks v then
    match v with
    | .own k win t =>
      match H k with
      | some (.arr e xs _) => .c (.sl e (view win xs) t)
      | _ => .undef
    | _ => .undef
  else v
def layTm (ks : List Nat) (H : Heap) : List V → List V
  | [] => []
  | v :: r => layV ks H v :: layTm ks H r
def layS (st : St) (ks : List Nat) : St :=
  match ks with
  | [] => st
  | _ => { tm := layTm ks st.hp st.tm, hp := eraAll st.hp ks }
/-- Operations that change what is the call's own. -/
def evalE (E : Env) (o : Oper) (st : St) (ρ : Type) (K : St → Option ρ) : Option ρ :=
  match o.op with
  | .store t a x =>
    bif memN t E.T.fns then evalKnot o st a x ρ K else
    bif isOwnV (opV st x) then evalOsl E o st t a x ρ K else
    match shOf E.T t, opV st a, (opV st x).bind cellsOf with
    | some s, some (.ptr k off), some vs =>
      match st.hp k with
      | some (.box cs) => bif decide (vs.length = s.nc) && decide (off + s.nc ≤ cs.length) && noOsl vs then K (hset (put st o.dst .undef) k (.box (replace cs off vs))) else none
      | _ => none
    | some s, some (.eptr k win i off), some vs =>
      match st.hp k with
      | some (.arr e xs nilE) =>
        bif decide (vs.length = s.nc) && decide (off + s.nc ≤ e.nc) then
          (idx (view win xs) i).bind fun x =>
            match ofC e (replace (cells e x) off vs) with
            | some y => K (hset (put st o.dst .undef) k (.arr e (setW win xs i y) nilE))
            | none => none
        else none
      | _ => none
    | some s, some (.aptr k off n e i), some vs =>
      match st.hp k, vs with
      | some (.box cs), [v] =>
        bif decide (s.nc = 1) && decide (e.nc = 1) && decide (off + n ≤ cs.length) && noOsl vs then
          match setRow1 i v 0 n (cs.drop off) with
          | some cs' => K (hset (put st o.dst .undef) k (.box (cs.take off ++ cs')))
          | none => none
        else none
      | _, _ => none
    | _, _, _ => none
  | .slice t x lo hi mx => evalCut E o st t x lo hi mx ρ K
  | .next x true =>
    match opV st x with
    | some (.ptr k 0) =>
      match st.hp k with
      | some (.iter s pos) =>
        bif Nat.blt pos s.size then
          ((strBytes s)[pos]?).bind fun c =>
            bif decide (c < 128) then K (hset (put st o.dst (.tup [.c (.bool true), .c (.int .i64 (pos : Int)), .c (.int .i32 c)])) k (.iter s (pos + 1))) else none
        else K (put st o.dst (.tup [.c (.bool false)]))
      | _ => none
    | _ => none
  | .mapUpdate t x i y =>
    match opV st x, opV st i, (opV st y).bind cellsOf with
    | some (.map k), some (.c (.int kk n)), some cs =>
      match st.hp k, look E.T.maps t with
      | some (.mp kk' e m), some (kk2, e2) =>
        bif decide (kk = kk') && decide (kk2 = kk') && decide (e2 = e) && opAgg e (opV st y) then
          match ofC e cs with
          | some z => K (hset (put st o.dst .undef) k (.mp kk' e (aset m n z)))
          | none => none
        else none
      | _, _ => none
    | _, _, _ => none
  | .buildSlice t len parts =>
    match shOf E.T t with
    | some (.sl e) =>
      match listFill e (opV st) st.hp (List.replicate len (zero e)) parts.toList with
      | some xs =>
        let st' := drop st (partKeys (opV st) parts.toList)
        bif dead st' o.dst (dstKey o.dst) && decide (len * e.nc ≤ 16777216) then K (hset (put st' o.dst (.own (dstKey o.dst) none false)) (dstKey o.dst) (.arr e xs false)) else none
      | none => none
    | _ => none
  | .call c =>
    match c.callee with
    | .builtin .append =>
      match c.args.toList, c.argTypes.toList with
      | [x, y], [t, tx] =>
        match shOf E.T t, shOf E.T tx, (opV st y).bind fun w => elems st.hp w with
        | some (.sl e), some (.sl _), some ⟨e2, ys2⟩ =>
          match castL e2 e ys2, opV st x with
          | some ys, some (.own k win false) =>
            match st.hp k with
            | some (.arr e' xs' nilE) =>
              match castL e' e (view win xs') with
              | some xs =>
                let st' := drop st [k]
                bif dead st' o.dst (dstKey o.dst) && wz win && decide (xs.length + ys.length ≤ lim) then
                  K (hset (put st' o.dst (.own (dstKey o.dst) none false)) (dstKey o.dst) (.arr e (xs ++ ys) (nilE && win.isNone)))
                else none
              | none => none
            | _ => none
          | _, _ => none
        | _, _, _ => none
      | _, _ => none
    | .builtin .copy =>
      match c.args.toList, c.argTypes.toList with
      | [x, y], t :: _ =>
        match shOf E.T t, opV st x, (opV st y).bind fun w => elems st.hp w with
        | some (.sl e0), some (.own k win _), some ⟨e2, ys2⟩ =>
          match st.hp k with
          | some (.arr e xs nilE) =>
            match castL e2 e ys2 with
            | some ys =>
              bif decide (e0 = e) then
                K (hset (put st o.dst (.c (.int .i64 ((min ys.length (view win xs).length : Nat) : Int)))) k
                  (.arr e (xs.take (wo win) ++ ys.take (min ys.length (view win xs).length) ++
                    xs.drop (wo win + min ys.length (view win xs).length)) nilE))
              else none
            | none => none
          | _ => none
        | _, _, _ => none
      | _, _ => none
    | .builtin .clear =>
      match c.args.toList, c.argTypes.toList with
      | [m], t :: _ =>
        match opV st m with
        | some (.map k) =>
          match st.hp k, look E.T.maps t with
          | some (.mp kk' e _), some (kk2, e2) => bif decide (kk2 = kk') && decide (e2 = e) then K (hset (put st o.dst .undef) k (.mp kk' e [])) else none
          | _, _ => none
        | _ => none
      | _, _ => none
    | .builtin .delete =>
      match c.args.toList, c.argTypes.toList with
      | [m, x], t :: _ =>
        match opV st m, opV st x with
        | some (.map k), some (.c (.int kk n)) =>
          match st.hp k, look E.T.maps t with
          | some (.mp kk' e es), some (kk2, e2) => bif decide (kk = kk') && decide (kk2 = kk') && decide (e2 = e) then K (hset (put st o.dst .undef) k (.mp kk' e (es.eraseP fun p => p.1 == n))) else none
          | _, _ => none
        | _, _ => none
      | _, _ => none
    | .value f =>
      bif isDelF E.T f then evalDel o c st ρ K else
      match opV st f with
      | some v =>
        match v with
        | .fn g caps0 =>
          match argsV E.T (opV st) st.hp c.argTypes.toList c.args.toList with
          | some vs =>
            match E.iop g with
            | none =>
              match gnds st.hp caps0 with
              | some caps =>
                E.phi g (vs ++ caps) ρ fun ret =>
                  let st2 := bif ret.any Ret1.hasSl then layS st (v.ownKey ++ c.args.toList.flatMap (opKey (opV st))) else st
                  bif ((retAll (dstKey o.dst) ret).2).all (fun p => dead st2 o.dst p.1) then
                    K { tm := (put st2 o.dst (retAll (dstKey o.dst) ret).1).tm, hp := updAll st2.hp (retAll (dstKey o.dst) ret).2 }
                  else none
              | none => none
            | some flags =>
              match ioArgs flags (rawArgs st v c) with
              | some (ks, oth) =>
                match gndsK st.hp ks (flags.drop vs.length) caps0 with
                | some caps =>
                  E.phio g (vs ++ caps) ρ fun ret outs =>
                    bif nodupB ks && ks.all (fun k => !memN k oth) then
                      outsPutC (bif ret.any Ret1.hasSl || outs.any Out.hasSl then drop st oth else st).hp ks outs ρ fun hp' =>
                        bif ((retAll (dstKey o.dst) ret).2).all (fun p => dead { tm := (bif ret.any Ret1.hasSl || outs.any Out.hasSl then drop st oth else st).tm, hp := hp' } o.dst p.1 && !memN p.1 ks) then
                          K { tm := (put (bif ret.any Ret1.hasSl || outs.any Out.hasSl then drop st oth else st) o.dst (retAll (dstKey o.dst) ret).1).tm, hp := updAll hp' (retAll (dstKey o.dst) ret).2 }
                        else none
                    else none
                | none => none
              | none => none
          | none => none
        | _ => none
      | none => none
    | _ => none
  | _ => none
def isTight (all : List Oper) (x : Operand) : Bool :=
  match x with
  | .tmp t => all.any fun p => (match p.op with | .slice _ _ _ (some _) (some _) => true | _ => false) && (match p.dst with | some d => Nat.beq d t | none => false)
  | _ => false
/-- Which operations go by 'evalE'. -/
def isEff (E : Env) (all : List Oper) (o : Oper) : Bool :=
  match o.op with
  | .store .. => true
  | .mapUpdate .. => true
  | .next .. => true
  | .slice t _ _ _ _ => (look E.T.arrs t).isSome
  | .buildSlice t _ _ =>
    match shOf E.T t with
    | some (.sl e) => e.hasSl && !memN t E.T.lits
    | _ => false
  | .call c =>
    match c.callee with
    | .builtin .append => !(match c.args.toList with | x :: _ => isTight all x | _ => false)
    | .builtin .copy => true
    | .builtin .delete => true
    | .builtin .clear => true
    | .builtin _ => false
    | .value (.func f) => E.eff f || (E.iop f).isSome
    | .value (.tmp t) => !memN t E.pcl
    | .value _ => true
    | _ => false
  | _ => false
/-! States are laid out anew after each step, so that the kernel finds them so. -/
def fC {ρ : Type} (x : C) (K : C → Option ρ) : Option ρ :=
  match x with
  | .int k n => K (.int k n)
  | .bool b => K (.bool b)
  | .str x => K (.str x)
  | .sl e xs t => K (.sl e xs t)
  | .osl => K .osl
def fCs {ρ : Type} : List C → (List C → Option ρ) → Option ρ
  | [], K => K []
  | v :: r, K => fC v fun v' => fCs r fun r' => K (v' :: r')
def fL {α ρ : Type} : List α → (List α → Option ρ) → Option ρ
  | [], K => K []
  | v :: r, K => fL r fun r' => K (v :: r')
def fV0 {ρ : Type} (v : V) (K : V → Option ρ) : Option ρ :=
  match v with
  | .undef => K .undef
  | .c x => fC x fun x' => K (.c x')
  | .agg cs => fCs cs fun cs' => K (.agg cs')
  | .ptr k off => K (.ptr k off)
  | .own k w t => K (.own k w t)
  | .eptr k w i off => K (.eptr k w i off)
  | .iptr cs => fCs cs fun cs' => K (.iptr cs')
  | .aptr k off n e i => K (.aptr k off n e i)
  | .tup vs => K (.tup vs)
  | .fn f vs => K (.fn f vs)
  | .map k => K (.map k)
  | .fptr f cds => K (.fptr f cds)
  | .fpb g css => K (.fpb g css)
def fTm0 {ρ : Type} : List V → (List V → Option ρ) → Option ρ
  | [], K => K []
  | v :: r, K => fV0 v fun v' => fTm0 r fun r' => K (v' :: r')
def fV {ρ : Type} (v : V) (K : V → Option ρ) : Option ρ :=
  match v with
  | .undef => K .undef
  | .c x => fC x fun x' => K (.c x')
  | .agg cs => fCs cs fun cs' => K (.agg cs')
  | .ptr k off => K (.ptr k off)
  | .own k w t => K (.own k w t)
  | .eptr k w i off => K (.eptr k w i off)
  | .iptr cs => fCs cs fun cs' => K (.iptr cs')
  | .aptr k off n e i => K (.aptr k off n e i)
  | .tup vs => fTm0 vs fun vs' => K (.tup vs')
  | .fn f vs => fTm0 vs fun vs' => K (.fn f vs')
  | .map k => K (.map k)
  | .fptr f cds => fL cds fun cds' => K (.fptr f cds')
  | .fpb g css => K (.fpb g css)
def fTm {ρ : Type} : List V → (List V → Option ρ) → Option ρ
  | [], K => K []
  | v :: r, K => fV v fun v' => fTm r fun r' => K (v' :: r')
/-- One operation. -/
def evalOp (E : Env) (all : List Oper) (o : Oper) (st : St) (ρ : Type) (K : St → Option ρ) : Option ρ :=
  bif isEff E all o then evalE E o st ρ fun s => fTm s.tm fun tm => K { tm := tm, hp := s.hp }
  else evalP E o (opV st) st.hp ρ fun v obs =>
    bif obs.all (fun p => dead st o.dst p.1) then fTm (put st o.dst v).tm fun tm => K { tm := tm, hp := updAll st.hp obs } else none
/-- The slots that a run of operations writes. -/
def undefs (tm : List V) : List Oper → List V
  | [] => tm
  | o :: r => undefs (match o.dst with | some d => tm.set d .undef | none => tm) r
def guardIs (g : Option (Nat × Bool)) (o : Oper) : Bool := o.guard == g
def getB (st : St) (x : Operand) : Option Bool :=
  match opV st x with
  | some (.c (.bool b)) => some b
  | _ => none
def dstsOf (l : List Oper) : List Nat := l.filterMap (·.dst)
def isTmp (x : Operand) (t : Nat) : Bool :=
  match x with
  | .tmp j => Nat.beq j t
  | _ => false
def notTmps (x : Operand) (l : List Nat) : Bool :=
  match x with
  | .tmp j => !memN j l
  | _ => true
/-- Each operation of a guarded run goes by the run's guard, or by one that the run itself brings about. -/
def nest (all : List Oper) (j : Nat) (want : Bool) : List Nat → List Oper → Bool
  | _, [] => true
  | seen, o :: r =>
    (match o.guard with
     | some (j', w') => (Nat.beq j' j && (w' == want)) || (match (all[j']?).bind (·.dst) with | some t => memN t seen | none => false)
     | none => false) &&
    match o.dst with
    | some d => nest all j want (d :: seen) r
    | none => false
def noEff (E : Env) (all : List Oper) (l : List Oper) : Bool := l.all fun o => !isEff E all o
def grpOK (E : Env) (all : List Oper) (j : Nat) (want : Bool) (tj : Nat) (x y : Operand) (grp rest : List Oper) : Bool :=
  isTmp x tj && notTmps y (dstsOf grp) && !memN tj (dstsOf grp) && nest all j want [] grp && noEff E all grp && noEff E all rest
/-- A run of operations behind a guard that changes what is the call's own. -/
def grpEff (E : Env) (all : List Oper) (j : Nat) (want : Bool) (tj : Nat) (x y : Operand) (grp rest : List Oper) : Bool :=
  isTmp x tj && notTmps y (dstsOf grp) && !memN tj (dstsOf grp) && nest all j want [] grp && noEff E all rest
/-- The operations of a region, in the order of the text. 'all' is the whole region (guards name their operation by its place in it). A run of operations behind a guard ends at the 'pick' that joins it. -/
def runOps (E : Env) (all : List Oper) (ctx : Option (Nat × Bool)) : (fuel : Nat) → List Oper → St → (ρ : Type) → (St → Option ρ) → Option ρ
  | 0, _, _, _, _ => none
  | _ + 1, [], st, _, K => K st
  | m + 1, o :: os, st, ρ, K =>
    bif guardIs ctx o then evalOp E all o st ρ fun st' => runOps E all ctx m os st' ρ K
    else
      match o.guard with
      | none => none
      | some (j, want) =>
        match (o :: os).dropWhile (fun p => !guardIs ctx p), (all[j]?).bind (·.dst) with
        | p :: rest, some tj =>
          match p.op, getB st (.tmp tj) with
          | .pick x a b, some c =>
            bif grpOK E all j want tj x (bif want then b else a) ((o :: os).takeWhile fun p => !guardIs ctx p) (p :: rest) then
              (bif c == want then runOps E all (some (j, want)) m ((o :: os).takeWhile fun p => !guardIs ctx p) st Bool fun st' => getB st' (bif want then a else b)
               else getB st (bif want then b else a)).bind fun r =>
                fTm ((undefs st.tm ((o :: os).takeWhile fun p => !guardIs ctx p)).set (dstKey p.dst) (.c (.bool r))) fun tm => runOps E all ctx m rest { st with tm := tm } ρ K
            else bif grpEff E all j want tj x (bif want then b else a) ((o :: os).takeWhile fun p => !guardIs ctx p) (p :: rest) then
              bif c == want then runOps E all (some (j, want)) m ((o :: os).takeWhile fun p => !guardIs ctx p) st ρ fun st' =>
                (getB st' (bif want then a else b)).bind fun r =>
                  fTm ((undefs st'.tm ((o :: os).takeWhile fun p => !guardIs ctx p)).set (dstKey p.dst) (.c (.bool r))) fun tm => runOps E all ctx m rest { st' with tm := tm } ρ K
              else (getB st (bif want then b else a)).bind fun r =>
                fTm ((undefs st.tm ((o :: os).takeWhile fun p => !guardIs ctx p)).set (dstKey p.dst) (.c (.bool r))) fun tm => runOps E all ctx m rest { st with tm := tm } ρ K
            else none
          | _, _ => none
        | _, _ => none
inductive Ann where
  | l
  | s (a b : Ann)
  | j (live : List Nat) (a b : Ann)
  | g (label : Nat) (live : List Nat) (a b : Ann)
  | h (i : Nat)
  | q (gs : List (Nat × Nat × Nat)) (a : Ann)
def Ann.fst : Ann → Ann | .s a _ => a | .j _ a _ => a | .g _ _ a _ => a | _ => .l
def Ann.snd : Ann → Ann | .s _ b => b | .j _ _ b => b | .g _ _ _ b => b | _ => .l
def Ann.ql : Ann → List (Nat × Nat × Nat) | .q gs _ => gs | _ => []
def Ann.unq : Ann → Ann | .q _ a => a | a => a
/-- A variable that is written no more: what points to it. -/
def boxV (k : Nat) (cs : List C) (v : V) : V :=
  bif refs k v then
    match v with
    | .ptr _ off => bif Nat.ble off cs.length then .iptr (cs.drop off) else .undef
    | _ => .undef
  else v
def boxTm (k : Nat) (cs : List C) : List V → List V
  | [] => []
  | v :: r => boxV k cs v :: boxTm k cs r
/-- A slice in a box, of the variable in that slot: as the box's own array (if it is nil), or as a value; or the box as one that is written no more. -/
def ghost1 (st : St) (t off mode : Nat) : Option St :=
  match st.tm[t]? with
  | some (.ptr k 0) =>
    match st.hp k with
    | some (.box cs) =>
      bif Nat.beq mode 2 then
        bif noOsl cs then some { tm := boxTm k cs st.tm, hp := eraAll st.hp [k] } else none
      else
      match cs[off]? with
      | some (.sl e xs tight) =>
        bif Nat.beq mode 1 && tight && xs.isEmpty && Nat.blt k oslLo && Nat.blt (hk k off) pinLo then
          some { tm := cleanTm [hk k off, hk k off] st.tm, hp := upd (upd (eraAll st.hp [hk k off, hk k off]) k (.box (cs.set off .osl))) (hk k off) (.arr e [] false) }
        else none
      | some .osl =>
        match st.hp (hk k off) with
        | some (.arr e xs _) =>
          bif Nat.beq mode 0 && Nat.blt k oslLo then
            some { tm := cleanTm [hk k off] st.tm, hp := upd (eraAll st.hp [hk k off]) k (.box (cs.set off (.sl e xs false))) }
          else none
        | _ => none
      | _ => none
    | _ => none
  | _ => none
def ghosts {ρ : Type} (st : St) : List (Nat × Nat × Nat) → (St → Option ρ) → Option ρ
  | [], K => K st
  | (t, off, mode) :: r, K =>
    match ghost1 st t off mode with
    | some st' => fTm st'.tm fun tm => ghosts { tm := tm, hp := st'.hp } r K
    | none => none
def Ann.lv : Ann → List Nat | .j lv _ _ => lv | _ => []
/-- What is known of capacities is forgotten. -/
def loose : C → C
  | .sl e xs _ => .sl e xs false
  | x => x
def renKs (s : List (Nat × Nat)) : List Nat → Option (List Nat)
  | [] => some []
  | k :: r =>
    match look s k, renKs s r with
    | some j, some l => some (j :: l)
    | _, _ => none
def renCd (s : List (Nat × Nat)) : CD → Option CD
  | .b k => (look s k).map .b
  | .s => some .s
  | .v g ks => (renKs s ks).map (.v g)
def renCds (s : List (Nat × Nat)) : List CD → Option (List CD)
  | [] => some []
  | c :: r =>
    match renCd s c, renCds s r with
    | some c', some l => some (c' :: l)
    | _, _ => none
def ren1 (s : List (Nat × Nat)) : V → V
  | .ptr k off => match look s k with | some j => .ptr j off | none => .undef
  | .own k w _ => match look s k with | some j => .own j w false | none => .undef
  | .map k => match look s k with | some j => .map j | none => .undef
  | .c x => .c (loose x)
  | .agg cs => .agg (cs.map loose)
  | .iptr cs => .iptr (cs.map loose)
  | .fptr f cds => match renCds s cds with | some l => .fptr f l | none => .undef
  | _ => .undef
def renL (s : List (Nat × Nat)) : List V → List V
  | [] => []
  | v :: r => ren1 s v :: renL s r
def ren (s : List (Nat × Nat)) : V → V
  | .fn f caps => .fn f (renL s caps)
  | .tup vs => .tup (renL s vs)
  | v => ren1 s v
def cdKs : CD → List Nat
  | .b k => [k]
  | .s => []
  | .v _ ks => ks
def keys1 : V → List Nat
  | .ptr k _ => [k]
  | .own k _ _ => [k]
  | .eptr k _ _ _ => [k]
  | .aptr k _ _ _ _ => [k]
  | .map k => [k]
  | .fptr _ cds => cds.flatMap cdKs
  | _ => []
def keysL : List V → List Nat
  | [] => []
  | v :: r => keys1 v ++ keysL r
def keysV : V → List Nat
  | .tup vs => keysL vs
  | .fn _ vs => keysL vs
  | v => keys1 v
/-- A new name for a key; what a caller handed in keeps its own. -/
def addName (s : List (Nat × Nat)) (k new : Nat) : List (Nat × Nat) :=
  match look s k with
  | some _ => s
  | none =>
    bif Nat.ble oslLo k then s ++ [(k, k)]
    else bif Nat.ble oslLo new || s.any (fun p => Nat.beq p.2 new) then s else s ++ [(k, new)]
def addNames (s : List (Nat × Nat)) (new : Nat) : List Nat → List (Nat × Nat)
  | [] => s
  | k :: r => addNames (addName s k new) (new + 10000) r
/-- What a slot names that lives on. -/
def keysN : V → List Nat
  | .ptr k _ => [k]
  | .own k _ _ => [k]
  | .map k => [k]
  | .fn _ vs => keysL vs
  | .fptr _ cds => cds.flatMap cdKs
  | _ => []
/-- New names for what the live slots hold: the slot's own. What a caller handed in is live where the list says so. -/
def names (tm : List V) : List Nat → List (Nat × Nat) → List (Nat × Nat)
  | [], s => s
  | t :: ts, s =>
    names tm ts (bif Nat.ble oslLo t then addName s t t else
      match tm[t]? with
      | some v => addNames s t (keysN v)
      | none => s)
def looseO : O → O
  | .box cs => .box (cs.map loose)
  | o => o
def newHeap (hp : Heap) : List (Nat × Nat) → Heap
  | [] => emp
  | (k, t) :: r =>
    match hp k with
    | some o => upd (newHeap hp r) t (looseO o)
    | none => newHeap hp r
def normTm (s : List (Nat × Nat)) (live : List Nat) : List V → Nat → List V
  | [], _ => []
  | v :: r, i => (bif live.any (Nat.beq i) then ren s v else .undef) :: normTm s live r (i + 1)
/-- A box with slices of own arrays keeps its name, or is forgotten. -/
def okName (hp : Heap) (p : Nat × Nat) : Bool :=
  bif Nat.beq p.1 p.2 then true else
  match hp p.1 with
  | some (.box cs) => noOsl cs
  | _ => true
def names1 (hp : Heap) (tm : List V) (live : List Nat) : List (Nat × Nat) := (names tm live []).filter (okName hp)
/-- The state at a join: what is not live is forgotten, what is has its slot's name. -/
def norm (live : List Nat) (st : St) : St :=
  { tm := normTm (names1 st.hp st.tm live) live st.tm 0, hp := newHeap st.hp (names1 st.hp st.tm live) }
def fO {ρ : Type} (o : O) (K : O → Option ρ) : Option ρ :=
  match o with
  | .box cs => fL cs fun cs' => K (.box cs')
  | .arr e xs n => K (.arr e xs n)
  | .mp kk e m => K (.mp kk e m)
  | .fbox => K .fbox
  | .iter s p => K (.iter s p)
def newHeapC {ρ : Type} (hp : Heap) : List (Nat × Nat) → (Heap → Option ρ) → Option ρ
  | [], K => K emp
  | (k, t) :: r, K =>
    match hp k with
    | some o => fO (looseO o) fun o' => newHeapC hp r fun h => K (upd h t o')
    | none => newHeapC hp r K
def normC {ρ : Type} (live : List Nat) (st : St) (K : St → Option ρ) : Option ρ :=
  fL (names1 st.hp st.tm live) fun s => fTm (normTm s live st.tm 0) fun tm => newHeapC st.hp s fun hp => K { tm := tm, hp := hp }
def loopN {σ ρ : Type} (F : (σ → Option ρ) → σ → Option ρ) : Nat → σ → Option ρ
  | 0, _ => none
  | n + 1, s => F (loopN F n) s
/-- May the operations of a region be carried out in any order that its edges allow? -/
def readsOf (all : List Oper) (o : Oper) : List Nat :=
  (o.op.operands.toList.filterMap fun x => match x with | .tmp t => some t | _ => none) ++
  (match o.guard with | some (j, _) => ((all[j]?).bind (·.dst)).toList | none => [])
def isMove (o : Oper) : Bool :=
  match o.op with
  | .move x => !isNil x
  | .assign x => !isNil x
  | _ => false
def disjN (a b : List Nat) : Bool := a.all fun x => !memN x b
def isLoc (T : Tab) (o : Oper) : Bool :=
  match o.op with
  | .store t _ _ => !memN t T.fns && !(match shOf T t with | some (.sl _) => true | _ => false)
  | .call c => match c.callee with | .builtin .copy => true | _ => false
  | _ => false
/-- Operations that look at no more than the shape of what they name. -/
def shapeOp (T : Tab) (o : Oper) : Bool :=
  match o.op with
  | .indexAddr _ _ _ => true
  | .binOp _ t _ _ _ => match shOf T t with | some (.int _) => true | _ => false
  | _ => false
/-- Operations whose value names no more than their operands do. -/
def zkind (o : Oper) : Bool :=
  match o.op with
  | .move x => !isNil x
  | .assign x => !isNil x
  | .indexAddr _ _ _ => true
  | .load _ _ => true
  | .fieldAddr _ _ _ => true
  | .binOp _ _ _ _ _ => true
  | .slice _ _ _ _ _ => true
  | _ => false
def isSl (o : Oper) : Bool := match o.op with | .slice _ _ _ _ _ => true | _ => false
def zop (Z : List Nat) (o : Oper) : Bool := zkind o && o.op.operands.toList.all fun x => match x with | .tmp t => memN t Z | _ => true
def quiet (T : Tab) (Z : List Nat) (o : Oper) : Bool := shapeOp T o || (zop Z o && !isSl o)
/-- Elements are put behind a slice that is the call's own. -/
def isApp (o : Oper) : Bool :=
  match o.op with
  | .call c => match c.callee with | .builtin .append => true | _ => false
  | _ => false
/-- A value of slots that name nothing, for a slot that names nothing. -/
def zmv (E : Env) (all : List Oper) (Z : List Nat) (o : Oper) : Bool := !isEff E all o && zop Z o && o.guard.isNone && (match o.dst with | some d => memN d Z | none => false)
/-- Slots that name nothing; slots that no operation writes, with what they name. -/
abbrev ZS := List Nat × List (Nat × List Nat)
/-- A load through one such slot, a store through another one: not at the same place. -/
def apart (Z : ZS) (p q : Oper) : Bool :=
  match p.op, q.op with
  | .load _ (.tmp a), .store _ (.tmp b) _ => Z.2.any fun x => Nat.beq x.1 a && Z.2.any fun y => Nat.beq y.1 b && disjN x.2 y.2 && y.2.all fun k => !Nat.beq (k % 10000) 9999
  | _, _ => false
/-- keys of a slot's value, for slots that must name nothing -/
def indep (E : Env) (all : List Oper) (Z : ZS) (p q : Oper) : Bool :=
  disjN p.dst.toList (q.dst.toList ++ readsOf all q) && disjN q.dst.toList (readsOf all p) && disjN p.dst.toList (readsOf all p) && disjN q.dst.toList (readsOf all q) &&
  ((!isEff E all p && !isEff E all q) || (isMove p && isLoc E.T q) || (isLoc E.T p && isMove q) || (quiet E.T Z.1 p && isLoc E.T q) || (isLoc E.T p && quiet E.T Z.1 q) || (apart Z p q && isLoc E.T q) || (isLoc E.T p && apart Z q p) || (zmv E all Z.1 p && isApp q) || (isApp p && zmv E all Z.1 q))
/-- For each operation: those that must come ahead of it. -/
def befores : List Oper → List Nat → List Nat
  | [], acc => acc
  | o :: r, acc =>
    befores r (acc ++ [o.after.toList.foldl (fun s e => bif Region.binds .any e then Nat.lor s (Nat.lor (2 ^ e.on) (acc.getD e.on 0)) else s) 0])
def drawRow (E : Env) (all : List Oper) (Z : ZS) (q : Oper) (bef : Nat) : Nat → List Oper → Bool
  | _, [] => true
  | i, p :: r => (Nat.testBit bef i || indep E all Z p q) && drawRow E all Z q bef (i + 1) r
def drawRows (E : Env) (all : List Oper) (Z : ZS) (befs : List Nat) : Nat → List Oper → Bool
  | _, [] => true
  | j, q :: r => drawRow E all Z q (befs.getD j 0) 0 (all.take j) && drawRows E all Z befs (j + 1) r
def backOK : Nat → List Oper → Bool
  | _, [] => true
  | j, o :: r => o.after.toList.all (fun e => !Region.binds .any e || Nat.blt e.on j) && backOK (j + 1) r
def drawOK (E : Env) (all : List Oper) (Z : ZS) : Bool := backOK 0 all && drawRows E all Z (befores all []) 0 all
/-- Each slot is written once. -/
def flatOK (E : Env) (all : List Oper) : Bool :=
  nodupB (dstsOf all) && (dstsOf all).all (fun d => Nat.blt d 9999) && all.all fun o => isEff E all o || o.dst.isSome
/-- No slot names what the region's operations are going to make. -/
def freshB (ds : List Nat) (tm : List V) : Bool := tm.all fun v => (keysV v).all fun k => !memN (k % 10000) ds
/-- The slots of the operations that may make something. -/
def makers (all : List Oper) : List Nat := dstsOf (all.filter fun o => !isMove o)
/-- The slots that name nothing, behind each operation too. -/
def zfix (all : List Oper) (base : List Nat) : Nat → List Nat → List Nat
  | 0, D => D
  | n + 1, D => zfix all base n (D.filter fun d => all.all fun o => match o.dst with | some d' => !Nat.beq d d' || zop (D ++ base) o | none => true)
def zset (all : List Oper) (tm : List V) : ZS :=
  (let base := (List.range tm.length).filter fun t => !memN t (dstsOf all) && (keysV (tm.getD t .undef)).isEmpty
   zfix all base 8 ((dstsOf all).filter fun t => (keysV (tm.getD t .undef)).isEmpty) ++ base,
   (all.flatMap fun o => match o.op with | .load _ (.tmp a) => [a] | .store _ (.tmp b) _ => [b] | _ => []).filterMap fun a => bif memN a (dstsOf all) then none else some (a, keysV (tm.getD a .undef)))
def zOK (E : Env) (all : List Oper) (Z : ZS) (tm : List V) : Bool :=
  (Z.1.all fun t => (keysV (tm.getD t .undef)).isEmpty) && (Z.2.all fun x => !memN x.1 (dstsOf all) && (keysV (tm.getD x.1 .undef)).all fun k => memN k x.2) &&
  all.all fun o => (match o.dst with | some d => !memN d Z.1 || zop Z.1 o | none => true) && (!isEff E all o || isLoc E.T o || isApp o)
def regOK (E : Env) (all : List Oper) (draw : Bool) (st : St) : Bool :=
  bif draw then (drawOK E all ([], []) || (zOK E all (zset all st.tm) st.tm && drawOK E all (zset all st.tm))) && flatOK E all && freshB (makers all) st.tm
  else (all.all fun o => o.guard.isNone) || (flatOK E all && freshB (makers all) st.tm)
abbrev Scp := (ρ : Type) → Code → Ann → (k : St → Option ρ) → (ex : Nat → St → Option ρ) → (rt : St → Option ρ) → St → Option ρ
/-- Exits from here on are gotos. -/
def goff : Nat := 1000000
/-- A join that is held: its equation is stated by itself. -/
def holdK {ρ : Type} (an : Ann) (h : Nat) (f : St → Option ρ) : St → Option ρ :=
  match an with
  | .j _ _ _ => loopN (fun _ => f) h
  | _ => f
theorem holdK_some {ρ : Type} {an : Ann} {h : Nat} {f : St → Option ρ} {s : St} {r : ρ} (e : holdK an h f s = some r) : f s = some r := by
  unfold holdK at e
  split at e
  · cases h with
    | zero => cases e
    | succ h => exact e
  · exact e
theorem held_eq {ρ : Type} {f : St → Option ρ} {h : Nat} (hh : h = 1) (s : St) : loopN (fun _ => f) h s = f s := by
  subst hh
  rfl
def runG (E : Env) (sc : Scp) {ρ : Type} : Code → Ann → (k : St → Option ρ) → (ex : Nat → St → Option ρ) → (rt : St → Option ρ) → St → Option ρ
  | .skip, _, k, _, _, st => k st
  | .label _, _, k, _, _, st => k st
  | .region _ ops draw, _, k, _, _, st =>
    bif regOK E ops.toList draw st then runOps E ops.toList none (ops.toList.length + 1) ops.toList st ρ k else none
  | .seq a b, an, k, ex, rt, st =>
    match an with
    | .h i => sc ρ (.seq a b) (.h i) k ex rt st
    | an => ghosts st an.ql fun st => runG E sc a an.unq.fst (holdK an.unq E.hold fun s => runG E sc b an.unq.snd k ex rt s) ex rt st
  | .cond c a b, an, k, ex, rt, st =>
    match getB st c with
    | some t => bif t then runG E sc a an.fst (fun s => normC an.lv s k) ex rt st else runG E sc b an.snd (fun s => normC an.lv s k) ex rt st
    | none => none
  | .block id a, an, k, ex, rt, st =>
    bif Nat.blt id goff then runG E sc a an.fst (fun s => normC an.lv s k) (fun j s => bif Nat.beq j id then normC an.lv s k else ex j s) rt st else none
  | .loop a, an, _, ex, rt, st =>
    loopN (fun K s => runG E sc a an.fst (fun s' => normC an.lv s' K) ex rt s) E.fuel |> normC an.lv st
  | .exit id, _, _, ex, _, st => bif Nat.blt id goff then ex id st else none
  | .goto l, _, _, ex, _, st => ex (goff + l) st
  | .ret, _, _, _, rt, st => rt st
  | .scope c, an, k, ex, rt, st => sc ρ (.scope c) an k ex rt st
  | _, _, _, _, _, _ => none
/-- What a handler is asked for. -/
def occ : Code → Ann → List (Code × Ann)
  | .seq a b, an => match an with | .h i => [(.seq a b, .h i)] | an => occ a an.unq.fst ++ occ b an.unq.snd
  | .cond _ a b, an => occ a an.fst ++ occ b an.snd
  | .block _ a, an => occ a an.fst
  | .loop a, an => occ a an.fst
  | .scope c, an => [(.scope c, an)]
  | _, _ => []
def noScope : Scp := fun _ _ _ _ _ _ _ => none
def run (E : Env) {ρ : Type} (c : Code) (an : Ann) (k : St → Option ρ) (ex : Nat → St → Option ρ) (rt : St → Option ρ) (st : St) : Option ρ := runG E noScope c an k ex rt st
/-! Words for the generated texts. -/
abbrev wr (k : IntKind) (n : Int) : Int := k.wrap n
def bodyOf (f : Func) : Code := match f.body with | some c => c | none => .skip
def cA : Code → Code | .seq a _ => a | .cond _ a _ => a | .block _ a => a | .loop a => a | .scope a => a | c => c
def cB : Code → Code | .seq _ b => b | .cond _ _ b => b | c => c
def rSl (e : Sh) (st : St) (t : Nat) : Option (List e.den) :=
  match (st.tm[t]? : Option V) with
  | some v => elemsAs e st.hp v
  | none => none
/-- A result that is an own array, whole. -/
def rOwn (e : Sh) (st : St) (t : Nat) : Option (List e.den) :=
  match (st.tm[t]? : Option V) with
  | some (.own k none b) => elemsAs e st.hp (.own k none b)
  | _ => none
/-- A result that is an own array, whole, and nil just where it is empty. -/
def rOwnN (e : Sh) (st : St) (t : Nat) : Option (List e.den) :=
  match (st.tm[t]? : Option V) with
  | some (.own k none b) =>
    match st.hp k with
    | some (.arr _ _ true) => elemsAs e st.hp (.own k none b)
    | _ => none
  | _ => none
def rBox (s : Sh) (st : St) (t : Nat) : Option s.den :=
  match (st.tm[t]? : Option V) with
  | some (.ptr k off) =>
    match st.hp k with
    | some (.box cs) => bif decide (off + s.nc ≤ cs.length) then ofC s ((cs.drop off).take s.nc) else none
    | _ => none
  | _ => none
def aPtr (s : Sh) (v : V) : Option s.den :=
  match v with
  | .iptr cs => ofC s (cs.take s.nc)
  | _ => none
def isFns : List (Option Nat) → List V → Bool
  | none :: r, _ :: vs => isFns r vs
  | some g :: r, .fn f _ :: vs => Nat.beq f g && isFns r vs
  | [], [] => true
  | _, _ => false
/-- How a result is read. -/
inductive RK where
  | own (e : Sh) (t : Nat)
  | sl (e : Sh) (t : Nat)
  | c (s : Sh) (t : Nat)
  | box (s : Sh) (t : Nat)
  | lay (e : Sh) (t : Nat)
  | ownN (e : Sh) (t : Nat)
/-- Which of the call's own arrays go out as such, and which are laid down. -/
def RK.ownK (st : St) : RK → List Nat
  | .own _ t => match (st.tm[t]? : Option V) with | some (.own k _ _) => [k] | _ => []
  | .ownN _ t => match (st.tm[t]? : Option V) with | some (.own k _ _) => [k] | _ => []
  | _ => []
def RK.slK (st : St) : RK → List Nat
  | .sl _ t => match (st.tm[t]? : Option V) with | some (.own k _ _) => [k] | _ => []
  | _ => []
def rkOK (st : St) (rs : List RK) : Bool :=
  nodupB (rs.flatMap (RK.ownK st)) && (rs.flatMap (RK.slK st)).all fun k => !memN k (rs.flatMap (RK.ownK st))
@[reducible] def RK.den : RK → Type
  | .own e _ => List e.den
  | .sl e _ => List e.den
  | .c s _ => s.den
  | .box s _ => s.den
  | .lay e _ => List e.den
  | .ownN e _ => List e.den
@[reducible] def rksDen : List RK → Type
  | [] => Unit
  | [a] => a.den
  | a :: b :: r => a.den × rksDen (b :: r)
/-- A datum by value. -/
def valOf (s : Sh) : V → Option s.den
  | .c y => bif s.agg then none else ofC s [y]
  | .agg cs => bif s.agg then ofC s cs else none
  | _ => none
def RK.get (st : St) : (k : RK) → Option k.den
  | .own e t => rOwn e st t
  | .sl e t => rSl e st t
  | .c s t =>
    match (st.tm[t]? : Option V) with
    | some v => valOf s v
    | none => none
  | .box s t => rBox s st t
  | .lay _ _ => none
  | .ownN e t => rOwnN e st t
def rtL (st : St) : (rs : List RK) → Option (rksDen rs)
  | [] => some ()
  | [a] => a.get st
  | a :: b :: r => (a.get st).bind fun x => (rtL st (b :: r)).bind fun y => some (x, y)
def rtG (rs : List RK) (st : St) : Option (rksDen rs) := bif rkOK st rs then rtL st rs else none
/-- A datum that comes back by value. -/
def mk1 (s : Sh) (x : s.den) : Ret1 :=
  bif s.agg then .agg (cells s x) else
  match cells s x with
  | [c] => .val c
  | _ => .agg []
def RK.ret : (k : RK) → k.den → Ret1
  | .own e _, xs => .fresh e xs false
  | .sl e _, xs => .val (.sl e xs false)
  | .c s _, x => mk1 s x
  | .box s _, x => mk1 s x
  | .lay e _, xs => .lay e xs
  | .ownN e _, xs => .fresh e xs true
def rets : (rs : List RK) → rksDen rs → Ret
  | [], _ => []
  | [a], x => [a.ret x]
  | a :: b :: r, x => a.ret x.1 :: rets (b :: r) x.2
/-- How a parameter is read. -/
inductive PK where
  | c (s : Sh)
  | p (s : Sh)
  | f (g : FuncId) (caps : List Sh)
@[reducible] def capsDen : List Sh → Type
  | [] => Unit
  | s :: r => s.den × capsDen r
@[reducible] def PK.den : PK → Type
  | .c s => s.den
  | .p s => s.den
  | .f _ caps => capsDen caps
def capsV : (l : List Sh) → capsDen l → List V
  | [], _ => []
  | s :: r, x => .iptr (cells s x.1) :: capsV r x.2
def PK.val : (k : PK) → k.den → V
  | .c s, x =>
    bif s.agg then .agg (cells s x) else
    match cells s x with
    | [z] => .c z
    | _ => .undef
  | .p s, x => .iptr (cells s x)
  | .f g caps, x => .fn g (capsV caps x)
def capsArg : (l : List Sh) → List V → Option (capsDen l)
  | [], [] => some ()
  | s :: r, v :: vs => (aPtr s v).bind fun x => (capsArg r vs).bind fun y => some (x, y)
  | _, _ => none
def PK.arg : (k : PK) → V → Option k.den
  | .c s, v => valOf s v
  | .p s, v => aPtr s v
  | .f g caps, v =>
    match v with
    | .fn g' vs => bif Nat.beq g' g then capsArg caps vs else none
    | _ => none
@[reducible] def pksDen : List PK → Type
  | [] => Unit
  | a :: r => a.den × pksDen r
def pksV : (l : List PK) → pksDen l → List V
  | [], _ => []
  | k :: r, x => k.val x.1 :: pksV r x.2
def pksArg : (l : List PK) → List V → Option (pksDen l)
  | [], [] => some ()
  | k :: r, v :: vs => (k.arg v).bind fun x => (pksArg r vs).bind fun y => some (x, y)
  | _, _ => none
/-- A callee, by what it computes. -/
def phiOf (pks : List PK) (rks : List RK) (S : pksDen pks → Option (rksDen rks)) (vs : List V) (ρ : Type) (K : Ret → Option ρ) : Option ρ :=
  (pksArg pks vs).bind fun xs => (S xs).bind fun r => K (rets rks r)
/-- A frame as it begins. -/
def st0 (pks : List PK) (xs : pksDen pks) (n : Nat) : St := { tm := pksV pks xs ++ List.replicate (n - pks.length) .undef, hp := emp }
def rksOK (T : Tab) : List ResultVar → List RK → Bool
  | [], [] => true
  | .tmp t :: r, .own _ t' :: r' => Nat.beq t t' && rksOK T r r'
  | .tmp t :: r, .ownN _ t' :: r' => Nat.beq t t' && rksOK T r r'
  | .tmp t :: r, .sl _ t' :: r' => Nat.beq t t' && rksOK T r r'
  | .tmp t :: r, .c _ t' :: r' => Nat.beq t t' && rksOK T r r'
  | .cell t ty :: r, .box s t' :: r' => Nat.beq t t' && decide (shOf T ty = some s) && rksOK T r r'
  | _, _ => false
/-! Functions that write what they are handed. -/
/-- How a parameter is read, where some are written. -/
inductive QK where
  | pl (k : PK)
  | oa (e : Sh)
  | ob (s : Sh)
  | of (g : FuncId) (caps : List Sh)
  | fp (g : FuncId) (caps : List Sh)
  | sf (f : FuncId) (cds : List CD)
@[reducible] def QK.den : QK → Type
  | .pl k => k.den
  | .oa e => List e.den
  | .ob s => s.den
  | .of _ caps => capsDen caps
  | .fp _ caps => capsDen caps
  | .sf _ _ => Unit
def QK.flag : QK → Bool
  | .pl _ => false
  | .sf _ _ => false
  | _ => true
/-- How many things are handed in. -/
def QK.cnt : QK → Nat
  | .pl _ => 0
  | .oa _ => 1
  | .ob _ => 1
  | .of _ caps => caps.length
  | .fp _ caps => caps.length
  | .sf _ _ => 0
/-- A variable, whole. -/
def boxOf (s : Sh) : V → Option s.den
  | .iptr cs => ofC s cs
  | _ => none
def boxesOf : (l : List Sh) → List V → Option (capsDen l)
  | [], [] => some ()
  | s :: r, v :: vs => (boxOf s v).bind fun x => (boxesOf r vs).bind fun y => some (x, y)
  | _, _ => none
def QK.arg : (k : QK) → V → Option k.den
  | .pl k, v => k.arg v
  | .oa e, v =>
    match v with
    | .c (.sl e' xs _) => castL e' e xs
    | _ => none
  | .ob s, v => boxOf s v
  | .of g caps, v =>
    match v with
    | .fn g' vs => bif Nat.beq g' g then boxesOf caps vs else none
    | _ => none
  | .fp g caps, v =>
    match v with
    | .fpb g' css => bif Nat.beq g' g then boxesOf caps (css.map .iptr) else none
    | _ => none
  | .sf f cds, v =>
    match v with
    | .fptr f' cds' => bif Nat.beq f' f && decide (cds' = cds) then some () else none
    | _ => none
def pinBs (n : Nat) : List Sh → List CD
  | [] => []
  | _ :: r => .b (pinLo + n) :: pinBs (n + 1) r
def ptrs (n : Nat) : List Sh → List V
  | [] => []
  | _ :: r => .ptr (pinLo + n) 0 :: ptrs (n + 1) r
def QK.val (n : Nat) : (k : QK) → k.den → V
  | .pl k, x => k.val x
  | .oa _, _ => .own (pinLo + n) none false
  | .ob _, _ => .ptr (pinLo + n) 0
  | .of g caps, _ => .fn g (ptrs n caps)
  | .fp g caps, _ => .fptr g (pinBs n caps)
  | .sf f cds, _ => .fptr f cds
def boxes (n : Nat) : (l : List Sh) → capsDen l → List (Nat × O)
  | [], _ => []
  | s :: r, x => (pinLo + n, .box (cells s x.1)) :: boxes (n + 1) r x.2
def QK.objs (n : Nat) : (k : QK) → k.den → List (Nat × O)
  | .pl _, _ => []
  | .oa e, xs => [(pinLo + n, .arr e xs false)]
  | .ob s, x => [(pinLo + n, .box (cells s x))]
  | .of _ caps, x => boxes n caps x
  | .fp _ caps, x => boxes n caps x
  | .sf _ _, _ => []
@[reducible] def qksDen : List QK → Type
  | [] => Unit
  | a :: r => a.den × qksDen r
def qksV (n : Nat) : (l : List QK) → qksDen l → List V
  | [], _ => []
  | k :: r, x => k.val n x.1 :: qksV (n + k.cnt) r x.2
def qksH (n : Nat) : (l : List QK) → qksDen l → List (Nat × O)
  | [], _ => []
  | k :: r, x => k.objs n x.1 ++ qksH (n + k.cnt) r x.2
def qksArg : (l : List QK) → List V → Option (qksDen l)
  | [], [] => some ()
  | k :: r, v :: vs => (k.arg v).bind fun x => (qksArg r vs).bind fun y => some (x, y)
  | _, _ => none
def st1 (qks : List QK) (xs : qksDen qks) (n : Nat) : St := { tm := qksV 0 qks xs ++ List.replicate (n - qks.length) .undef, hp := updAll emp (qksH 0 qks xs) }
/-- What is read back. -/
inductive OD where
  | a (e : Sh)
  | b (s : Sh)
@[reducible] def OD.den : OD → Type
  | .a e => List e.den
  | .b s => s.den
@[reducible] def odsDen : List OD → Type
  | [] => Unit
  | d :: r => d.den × odsDen r
def QK.ods : QK → List OD
  | .pl _ => []
  | .oa e => [.a e]
  | .ob s => [.b s]
  | .of _ caps => caps.map .b
  | .fp _ caps => caps.map .b
  | .sf _ _ => []
def OD.get : (d : OD) → O → Option d.den
  | .a e, .arr e' ys _ => castL e' e ys
  | .b s, .box cs => ofC s cs
  | _, _ => none
def odsGet (H : Heap) (n : Nat) : (l : List OD) → Option (odsDen l)
  | [] => some ()
  | d :: r =>
    match H (pinLo + n) with
    | some ob => (d.get ob).bind fun x => (odsGet H (n + 1) r).bind fun y => some (x, y)
    | none => none
def OD.out : (d : OD) → d.den → Out
  | .a e, ys => .arr e ys
  | .b s, x => .box (cells s x)
def outsOf : (l : List OD) → odsDen l → List Out
  | [], _ => []
  | d :: r, x => d.out x.1 :: outsOf r x.2
/-- The results, and what is read back. -/
def rtIO (rs : List RK) (ods : List OD) (st : St) : Option (rksDen rs × odsDen ods) :=
  bif ((rs.flatMap (RK.ownK st)) ++ (rs.flatMap (RK.slK st))).all (fun k => Nat.blt k pinLo) then
    (rtG rs st).bind fun x => (odsGet st.hp 0 ods).bind fun y => some (x, y)
  else none
end Go.Vi
/-
  Vi: what the interpreter's states say of a frame and a world.
-/
set_option linter.unusedVariables false
set_option linter.unusedSimpArgs false
namespace Go.Vi
theorem fC_eq {ρ : Type} (v : C) (K : C → Option ρ) : fC v K = K v := by
  cases v <;> rfl
theorem fCs_eq {ρ : Type} : ∀ (l : List C) (K : List C → Option ρ), fCs l K = K l
  | [], _ => rfl
  | v :: r, K => by simp only [fCs, fC_eq, fCs_eq r]
theorem fV0_eq {ρ : Type} (v : V) (K : V → Option ρ) : fV0 v K = K v := by
  cases v <;> simp only [fV0, fC_eq, fCs_eq]
theorem fTm0_eq {ρ : Type} : ∀ (l : List V) (K : List V → Option ρ), fTm0 l K = K l
  | [], _ => rfl
  | v :: r, K => by simp only [fTm0, fV0_eq, fTm0_eq r]
theorem fL_eq {α ρ : Type} : ∀ (l : List α) (K : List α → Option ρ), fL l K = K l
  | [], _ => rfl
  | v :: r, K => by simp only [fL, fL_eq r]
theorem fV_eq {ρ : Type} (v : V) (K : V → Option ρ) : fV v K = K v := by
  cases v <;> simp only [fV, fC_eq, fCs_eq, fTm0_eq, fL_eq]
theorem fTm_eq {ρ : Type} : ∀ (l : List V) (K : List V → Option ρ), fTm l K = K l
  | [], _ => rfl
  | v :: r, K => by simp only [fTm, fV_eq, fTm_eq r]
theorem fO_eq {ρ : Type} (o : O) (K : O → Option ρ) : fO o K = K o := by
  cases o with
  | box cs => simp only [fO, fL_eq]
  | _ => rfl
theorem newHeapC_eq {ρ : Type} (hp : Heap) : ∀ (s : List (Nat × Nat)) (K : Heap → Option ρ), newHeapC hp s K = K (newHeap hp s)
  | [], _ => rfl
  | (k, t) :: r, K => by
    simp only [newHeapC, newHeap]
    cases hp k with
    | none => exact newHeapC_eq hp r K
    | some o => simp only [fO_eq, newHeapC_eq hp r]
theorem normC_eq {ρ : Type} (live : List Nat) (st : St) (K : St → Option ρ) : normC live st K = K (norm live st) := by
  simp only [normC, fL_eq, fTm_eq, newHeapC_eq]
  rfl
def All2 {α β : Type} (R : α → β → Prop) : List α → List β → Prop
  | [], [] => True
  | a :: as, b :: bs => R a b ∧ All2 R as bs
  | _, _ => False
theorem All2.length {α β : Type} {R : α → β → Prop} : ∀ {as : List α} {bs : List β}, All2 R as bs → as.length = bs.length
  | [], [], _ => rfl
  | _ :: _, _ :: _, h => by simp [All2.length h.2]
  | [], _ :: _, h => h.elim
  | _ :: _, [], h => h.elim
theorem All2.mono {α β : Type} {R S : α → β → Prop} (f : ∀ a b, R a b → S a b) : ∀ {as : List α} {bs : List β}, All2 R as bs → All2 S as bs
  | [], [], _ => trivial
  | _ :: _, _ :: _, h => ⟨f _ _ h.1, All2.mono f h.2⟩
  | [], _ :: _, h => h.elim
  | _ :: _, [], h => h.elim
theorem All2.get {α β : Type} {R : α → β → Prop} : ∀ {as : List α} {bs : List β}, All2 R as bs → ∀ {i : Nat} {a : α}, as[i]? = some a → ∃ b, bs[i]? = some b ∧ R a b
  | [], [], _, i, a, hi => by simp at hi
  | x :: _, y :: _, h, 0, a, hi => by
    simp at hi
    subst hi
    exact ⟨y, by simp, h.1⟩
  | _ :: _, _ :: _, h, i + 1, a, hi => by
    simp at hi
    obtain ⟨b, hb, hr⟩ := All2.get h.2 hi
    exact ⟨b, by simpa using hb, hr⟩
  | [], _ :: _, h, _, _, _ => h.elim
  | _ :: _, [], h, _, _, _ => h.elim
theorem All2.of_get {α β : Type} {R : α → β → Prop} : ∀ {as : List α} {bs : List β}, as.length = bs.length → (∀ (i : Nat) (a : α) (b : β), as[i]? = some a → bs[i]? = some b → R a b) → All2 R as bs
  | [], [], _, _ => trivial
  | a :: as, b :: bs, hl, h => ⟨h 0 a b (by simp) (by simp), All2.of_get (by simpa using hl) fun i x y hx hy => h (i + 1) x y (by simpa using hx) (by simpa using hy)⟩
  | [], _ :: _, hl, _ => by simp at hl
  | _ :: _, [], hl, _ => by simp at hl
theorem All2.append {α β : Type} {R : α → β → Prop} : ∀ {as : List α} {bs : List β} {as' : List α} {bs' : List β}, All2 R as bs → All2 R as' bs' → All2 R (as ++ as') (bs ++ bs')
  | [], [], _, _, _, h' => h'
  | _ :: _, _ :: _, _, _, h, h' => ⟨h.1, All2.append h.2 h'⟩
  | [], _ :: _, _, _, h, _ => h.elim
  | _ :: _, [], _, _, h, _ => h.elim
theorem All2.take {α β : Type} {R : α → β → Prop} : ∀ (n : Nat) {as : List α} {bs : List β}, All2 R as bs → All2 R (as.take n) (bs.take n)
  | 0, _, _, _ => by simp [All2]
  | _ + 1, [], [], _ => trivial
  | n + 1, _ :: _, _ :: _, h => ⟨h.1, All2.take n h.2⟩
  | _ + 1, [], _ :: _, h => h.elim
  | _ + 1, _ :: _, [], h => h.elim
theorem All2.drop {α β : Type} {R : α → β → Prop} : ∀ (n : Nat) {as : List α} {bs : List β}, All2 R as bs → All2 R (as.drop n) (bs.drop n)
  | 0, _, _, h => by simpa using h
  | _ + 1, [], [], _ => trivial
  | n + 1, _ :: _, _ :: _, h => All2.drop n h.2
  | _ + 1, [], _ :: _, h => h.elim
  | _ + 1, _ :: _, [], h => h.elim
theorem All2.one {α β : Type} {R : α → β → Prop} {a : α} {bs : List β} (h : All2 R [a] bs) : ∃ b, bs = [b] ∧ R a b := by
  match bs, h with
  | [b], h => exact ⟨b, rfl, h.1⟩
/-! ## Data in memory -/
/-- A row of elements of n cells each at an address, in a block of which A holds. -/
def RowsAt (w : World) (A : Nat → Prop) (n : Nat) {α : Type} (P : α → List Value → Prop) (xs : List α) (a : Option Addr) : Prop :=
  xs = [] ∨ ∃ b o cur et fz, a = some ⟨b, o, none⟩ ∧ A b ∧ w.heap[b]? = some (.cells cur et fz) ∧ o + xs.length * n ≤ cur.size ∧
    ∀ i x, xs[i]? = some x → P x ((cur.toList.drop (o + i * n)).take n)
def VRs (w : World) (A : Nat → Prop) : (s : Sh) → s.den → List Value → Prop
  | .int k, n, vs => vs = [.int k n]
  | .bool, b, vs => vs = [.bool b]
  | .str, s, vs => vs = [.string s]
  | .unit, _, vs => vs = []
  | .pair a b, x, vs => VRs w A a x.1 (vs.take a.nc) ∧ VRs w A b x.2 (vs.drop a.nc)
  | .sl e, xs, vs => ∃ a cap, vs = [.slice a xs.length cap] ∧ xs.length ≤ cap ∧ RowsAt w A e.nc (fun x us => VRs w A e x us) xs a
/-- One cell. -/
def CR (w : World) (A : Nat → Prop) : C → Value → Prop
  | .int k n, v => v = .int k n
  | .bool b, v => v = .bool b
  | .str s, v => v = .string s
  | .sl e xs t, v => ∃ a cap, v = .slice a xs.length cap ∧ xs.length ≤ cap ∧ (t = true → cap = xs.length) ∧ RowsAt w A e.nc (fun x us => VRs w A e x us) xs a
  | .osl, v => v.oneCell' = true
theorem RowsAt.mono {w w' : World} {A A' : Nat → Prop} {n : Nat} {α : Type} {P P' : α → List Value → Prop} {xs : List α} {a : Option Addr}
    (hA : ∀ b, A b → A' b ∧ w'.heap[b]? = w.heap[b]?) (hP : ∀ x us, P x us → P' x us) (h : RowsAt w A n P xs a) : RowsAt w' A' n P' xs a := by
  rcases h with h | ⟨b, o, cur, et, fz, ha, hb, hc, hl, hx⟩
  · exact .inl h
  · exact .inr ⟨b, o, cur, et, fz, ha, (hA b hb).1, (hA b hb).2.trans hc, hl, fun i x hi => hP _ _ (hx i x hi)⟩
theorem VRs.mono {w w' : World} {A A' : Nat → Prop} (hA : ∀ b, A b → A' b ∧ w'.heap[b]? = w.heap[b]?) : ∀ (s : Sh) (x : s.den) (vs : List Value), VRs w A s x vs → VRs w' A' s x vs
  | .int _, _, _, h => h
  | .bool, _, _, h => h
  | .str, _, _, h => h
  | .unit, _, _, h => h
  | .pair a b, x, vs, h => ⟨VRs.mono hA a x.1 _ h.1, VRs.mono hA b x.2 _ h.2⟩
  | .sl e, xs, vs, ⟨a, cap, h1, h2, h3⟩ => ⟨a, cap, h1, h2, h3.mono hA fun x us hx => VRs.mono hA e x us hx⟩
theorem CR.mono {w w' : World} {A A' : Nat → Prop} (hA : ∀ b, A b → A' b ∧ w'.heap[b]? = w.heap[b]?) : ∀ (c : C) (v : Value), CR w A c v → CR w' A' c v
  | .int _ _, _, h => h
  | .bool _, _, h => h
  | .str _, _, h => h
  | .sl e _ _, _, ⟨a, cap, h1, h2, h3, h4⟩ => ⟨a, cap, h1, h2, h3, h4.mono hA fun x us hx => VRs.mono hA e x us hx⟩
  | .osl, _, h => h
theorem VRs.length {w : World} {A : Nat → Prop} : ∀ (s : Sh) (x : s.den) (vs : List Value), VRs w A s x vs → vs.length = s.nc
  | .int _, _, _, h => by simp [show _ = _ from h, Sh.nc]
  | .bool, _, _, h => by simp [show _ = _ from h, Sh.nc]
  | .str, _, _, h => by simp [show _ = _ from h, Sh.nc]
  | .unit, _, _, h => by simp [show _ = _ from h, Sh.nc]
  | .pair a b, x, vs, h => by
    have h1 := VRs.length a x.1 _ h.1
    have h2 := VRs.length b x.2 _ h.2
    simp only [List.length_take, List.length_drop] at h1 h2
    simp only [Sh.nc]
    omega
  | .sl e, xs, vs, ⟨a, cap, h1, _⟩ => by simp [h1, Sh.nc]
theorem cells_length : ∀ (s : Sh) (x : s.den), (cells s x).length = s.nc
  | .int _, _ => rfl
  | .bool, _ => rfl
  | .str, _ => rfl
  | .unit, _ => rfl
  | .pair a b, x => by simp [cells, Sh.nc, cells_length a, cells_length b]
  | .sl _, _ => rfl
theorem CR.of_VRs {w : World} {A : Nat → Prop} : ∀ (s : Sh) (x : s.den) (vs : List Value), VRs w A s x vs → All2 (CR w A) (cells s x) vs
  | .int _, _, _, h => by rw [show _ = _ from h]; exact ⟨rfl, trivial⟩
  | .bool, _, _, h => by rw [show _ = _ from h]; exact ⟨rfl, trivial⟩
  | .str, _, _, h => by rw [show _ = _ from h]; exact ⟨rfl, trivial⟩
  | .unit, _, _, h => by rw [show _ = _ from h]; trivial
  | .pair a b, x, vs, h => by
    have h1 := CR.of_VRs a x.1 _ h.1
    have h2 := CR.of_VRs b x.2 _ h.2
    have := h1.append h2
    rwa [List.take_append_drop] at this
  | .sl e, xs, vs, ⟨a, cap, h1, h2, h3⟩ => by
    rw [h1]
    exact ⟨⟨a, cap, rfl, h2, by simp, h3⟩, trivial⟩
theorem VRs.of_ofC {w : World} {A : Nat → Prop} : ∀ (s : Sh) (cs : List C) (x : s.den) (vs : List Value), ofC s cs = some x → All2 (CR w A) cs vs → VRs w A s x vs
  | .int k, cs, x, vs, h, hv => by
    match cs, h, hv with
    | [.int k' n], h, hv =>
      simp only [ofC] at h
      split at h
      · rename_i hk
        obtain ⟨v, rfl, hr⟩ := hv.one
        cases h
        subst hk
        simpa [CR, VRs] using hr
      · cases h
  | .bool, cs, x, vs, h, hv => by
    match cs, h, hv with
    | [.bool b], h, hv =>
      obtain ⟨v, rfl, hr⟩ := hv.one
      cases h
      simpa [CR, VRs] using hr
  | .str, cs, x, vs, h, hv => by
    match cs, h, hv with
    | [.str b], h, hv =>
      obtain ⟨v, rfl, hr⟩ := hv.one
      cases h
      simpa [CR, VRs] using hr
  | .unit, cs, x, vs, h, hv => by
    match cs, vs, h, hv with
    | [], [], h, hv => rfl
  | .pair a b, cs, x, vs, h, hv => by
    simp only [ofC] at h
    split at h
    · rename_i x1 x2 h1 h2
      cases h
      exact ⟨VRs.of_ofC a _ x1 _ h1 (hv.take _), VRs.of_ofC b _ x2 _ h2 (hv.drop _)⟩
    · cases h
  | .sl e, cs, x, vs, h, hv => by
    match cs, h, hv with
    | [.sl e' xs t], h, hv =>
      simp only [ofC] at h
      split at h
      · rename_i he
        obtain ⟨v, rfl, hr⟩ := hv.one
        cases h
        subst he
        obtain ⟨a, cap, hv, h2, _, h4⟩ := hr
        exact ⟨a, cap, by simp [hv], h2, h4⟩
      · cases h
theorem CR.oneCell {w : World} {A : Nat → Prop} : ∀ {c : C} {v : Value}, CR w A c v → v.oneCell' = true
  | .int _ _, v, h => by rw [show v = _ from h]; rfl
  | .bool _, v, h => by rw [show v = _ from h]; rfl
  | .str _, v, h => by rw [show v = _ from h]; rfl
  | .sl _ _ _, v, ⟨a, cap, h, _⟩ => by rw [h]; rfl
  | .osl, v, h => h
theorem All2.oneCell {w : World} {A : Nat → Prop} : ∀ {cs : List C} {vs : List Value}, All2 (CR w A) cs vs → ∀ v ∈ vs, v.oneCell' = true
  | [], [], _, v, hv => by simp at hv
  | _ :: _, _ :: _, h, v, hv => by
    rcases List.mem_cons.1 hv with rfl | hv
    · exact h.1.oneCell
    · exact All2.oneCell h.2 v hv
  | [], _ :: _, h, _, _ => h.elim
  | _ :: _, [], h, _, _ => h.elim
/-! ## What is the call's own -/
inductive Info where
  | emp
  | at (b c : Nat)
abbrev Gam := Nat → Option Info
/-- An own array's slice. -/
def OwnSl (i : Info) (n len : Nat) (nilE : Bool) (win : Option (Nat × Nat)) (t : Bool) (v : Value) : Prop :=
  match i with
  | .emp => ∃ a, v = .slice a 0 0 ∧ (nilE = true → a = none) ∧ len = 0 ∧ (∀ p l, win = some (p, l) → p = 0 ∧ l = 0)
  | .at b c =>
    match win with
    | none => v = .slice (some ⟨b, 0, none⟩) len c ∧ len ≤ c ∧ (t = true → c = len)
    | some (p, l) => ∃ o cap, v = .slice (some ⟨b, o, none⟩) l cap ∧ p + l ≤ len ∧ l ≤ cap ∧ p + cap ≤ c ∧ (t = true → cap = l) ∧ (0 < cap → o = p * n) ∧ (p = 0 → o = 0)
theorem osl_pin : oslLo ≤ pinLo := by decide
theorem lt_of_blt {m n : Nat} (h : Nat.blt m n = true) : m < n := Nat.le_of_ble_eq_true h
theorem hk_lo (k off : Nat) : oslLo ≤ hk k off := by unfold hk; omega
theorem hk_mod (k off : Nat) : hk k off % 10000 = 9999 := by
  have : oslLo = 50000 * 10000 := by decide
  unfold hk
  omega
theorem hk_inj {k off k' off' : Nat} (h : hk k off = hk k' off') : k = k' ∧ off = off' := by
  unfold hk at h
  have main : ∀ {s s' o o' : Nat}, o ≤ s → s < s' → s * s + o < s' * s' + o' := by
    intro s s' o o' h1 h2
    have h3 : (s + 1) * (s + 1) ≤ s' * s' := Nat.mul_le_mul h2 h2
    have h4 : (s + 1) * (s + 1) = s * s + s + s + 1 := by rw [Nat.add_mul, Nat.mul_add, Nat.mul_one, Nat.one_mul]; omega
    omega
  have e : k + off = k' + off' := by
    rcases Nat.lt_trichotomy (k + off) (k' + off') with h1 | h1 | h1
    · have := main (o := off) (o' := off') (by omega) h1; omega
    · exact h1
    · have := main (o := off') (o' := off) (by omega) h1; omega
  rw [e] at h
  omega
/-- A slice in a box, of an own array. -/
def LinkR (w : World) (H : Heap) (kk b off : Nat) (i : Info) : Prop :=
  ∃ cur et fz u e xs nilE, w.heap[b]? = some (.cells cur et fz) ∧ cur[off]? = some u ∧ H kk = some (.arr e xs nilE) ∧ OwnSl i e.nc xs.length nilE none false u
theorem LinkR.mono {w w' : World} {H H' : Heap} {kk b off : Nat} {i : Info} (h : LinkR w H kk b off i) (hb : w'.heap[b]? = w.heap[b]?) (hH : H' kk = H kk) : LinkR w' H' kk b off i := by
  obtain ⟨cur, et, fz, u, e, xs, nilE, h1, h2, h3, h4⟩ := h
  exact ⟨cur, et, fz, u, e, xs, nilE, hb.trans h1, h2, hH.trans h3, h4⟩
/-- A box without such slices. -/
def NoOsl (ob : O) : Prop := ∀ (cs : List C) (off : Nat), ob = .box cs → cs[off]? ≠ some C.osl
theorem noOsl_spec {cs : List C} (h : noOsl cs = true) (off : Nat) : cs[off]? ≠ some C.osl := fun e => by
  have := List.all_eq_true.1 h _ (List.mem_of_getElem? e)
  cases this
theorem NoOsl.box {cs : List C} (h : noOsl cs = true) : NoOsl (.box cs) := fun cs' off e => by
  cases e
  exact noOsl_spec h off
theorem NoOsl.arr {e : Sh} {xs : List e.den} {n : Bool} : NoOsl (.arr e xs n) := fun _ _ e => by cases e
theorem noOsl_app {a b : List C} : noOsl (a ++ b) = (noOsl a && noOsl b) := by simp [noOsl, List.all_append]
theorem noOsl_cells : ∀ (s : Sh) (x : s.den), noOsl (cells s x) = true
  | .int _, _ => rfl
  | .bool, _ => rfl
  | .str, _ => rfl
  | .unit, _ => rfl
  | .pair a b, x => by rw [cells, noOsl_app, noOsl_cells a, noOsl_cells b]; rfl
  | .sl _, _ => rfl
theorem noOsl_zcells : ∀ s : Sh, noOsl (zcells s) = true
  | .int _ => rfl
  | .bool => rfl
  | .str => rfl
  | .unit => rfl
  | .pair a b => by rw [zcells, noOsl_app, noOsl_zcells a, noOsl_zcells b]; rfl
  | .sl _ => rfl
/-- A pointer to an own box. -/
def PtrR (γ : Gam) (k : Nat) (u : Value) : Prop := ∃ b c, γ k = some (.at b c) ∧ u = .pointer (some ⟨b, 0, none⟩)
/-- A function's variable, which nobody writes any more. -/
def FboxR (w : World) (A : Nat → Prop) (b : Nat) (f : FuncId) (us : List Value) : Prop := A b ∧ ∃ et fz, w.heap[b]? = some (.cells #[.func (.func f) #[] us.toArray] et fz)
def CDR (γ : Gam) (w : World) (A : Nat → Prop) (b : Nat) : CD → Value → Prop
  | .b k, u => PtrR γ k u
  | .s, u => u = .pointer (some ⟨b, 0, none⟩)
  | .v g ks, u => ∃ b' us, u = .pointer (some ⟨b', 0, none⟩) ∧ FboxR w A b' g us ∧ All2 (PtrR γ) ks us
def VR1 (γ : Gam) (w : World) (A : Nat → Prop) (H : Heap) : V → Value → Prop
  | .undef, _ => True
  | .c x, v => CR w A x v
  | .agg cs, v => ∃ vs : List Value, v = .agg vs.toArray ∧ All2 (CR w A) cs vs
  | .ptr k off, v => ∃ b c, γ k = some (.at b c) ∧ v = .pointer (some ⟨b, off, none⟩)
  | .own k win t, v => ∃ i e xs nilE, γ k = some i ∧ H k = some (.arr e xs nilE) ∧ OwnSl i e.nc xs.length nilE win t v
  | .eptr k win i off, v => ∃ b c e xs nilE, γ k = some (.at b c) ∧ H k = some (.arr e xs nilE) ∧ 0 ≤ i ∧ i < (view win xs).length ∧
      v = .pointer (some ⟨b, (wo win + i.toNat) * e.nc + off, none⟩)
  | .iptr cs, v => ∃ b o cur et fz, v = .pointer (some ⟨b, o, none⟩) ∧ A b ∧ w.heap[b]? = some (.cells cur et fz) ∧ o + cs.length ≤ cur.size ∧ All2 (CR w A) cs ((cur.toList.drop o).take cs.length)
  | .aptr k off n e i, v => ∃ b c, γ k = some (.at b c) ∧ 0 ≤ i ∧ i < n ∧ v = .pointer (some ⟨b, off + i.toNat * e.nc, none⟩)
  | .map k, v => ∃ b c, γ k = some (.at b c) ∧ v = .map (some b)
  | .fptr f cds, v => ∃ b us, v = .pointer (some ⟨b, 0, none⟩) ∧ FboxR w A b f us ∧ All2 (CDR γ w A b) cds us
  | _, _ => False
def VR (γ : Gam) (w : World) (A : Nat → Prop) (H : Heap) : V → Value → Prop
  | .tup vs, v => ∃ us : List Value, v = .tuple us.toArray ∧ All2 (VR1 γ w A H) vs us
  | .fn f caps, v => ∃ us : List Value, v = .func (.func f) #[] us.toArray ∧ All2 (VR1 γ w A H) caps us
  | x, v => VR1 γ w A H x v
def entR (w : World) (A : Nat → Prop) (kk : IntKind) (e : Sh) (p : Int × e.den) (en : MapEntry) : Prop :=
  en.key = .int kk p.1 ∧ (if e.agg = true then ∃ vs : List Value, en.val = .agg vs.toArray ∧ VRs w A e p.2 vs else VRs w A e p.2 [en.val])
def objR (w : World) (A : Nat → Prop) : O → Info → Prop
  | .box cs, .at b _ => ∃ cur et, w.heap[b]? = some (.cells cur et (0, 0)) ∧ All2 (CR w A) cs cur.toList
  | .arr _ xs _, .emp => xs = []
  | .arr e xs nilE, .at b c => (nilE = true → xs ≠ []) ∧ xs.length ≤ c ∧ ∃ cur et, w.heap[b]? = some (.cells cur et (0, 0)) ∧ c * e.nc ≤ cur.size ∧
      ∀ i x, xs[i]? = some x → VRs w A e x ((cur.toList.drop (i * e.nc)).take e.nc)
  | .mp kk e m, .at b _ => ∃ es clock, w.heap[b]? = some (.map es clock) ∧ All2 (entR w A kk e) m es.toList
  | .fbox, .at b _ => ∃ v et, w.heap[b]? = some (.cells #[v] et (0, 0))
  | .iter s pos, .at b _ => w.heap[b]? = some (.stringIter s pos)
  | _, _ => False
theorem opV_global {st : St} {g : Nat} {v : V} (h : opV st (.global g) = some v) : ∃ cs, v = .iptr cs := by
  replace h : (match (globs[g]? : Option (List (IntKind × Int))) with | some ns => some (V.iptr (ns.map fun p => .int p.1 p.2)) | none => none) = some v := h
  split at h
  · cases h; exact ⟨_, rfl⟩
  · cases h
/-- The package's tables lie where they lay. -/
def GlobOK (w : World) (A0 : Nat → Prop) : Prop :=
  ∀ g ns, (globs[g]? : Option (List (IntKind × Int))) = some ns → g < w.heap.size ∧ A0 g ∧ ∃ cur et fz, w.heap[g]? = some (.cells cur et fz) ∧ cur.toList = ns.map fun p => .int p.1 p.2
theorem GlobOK.mono {w w' : World} {A A' : Nat → Prop} (h : GlobOK w A) (hw : w.heap.size ≤ w'.heap.size) (hA : ∀ b, A b → A' b ∧ w'.heap[b]? = w.heap[b]?) : GlobOK w' A' := fun g ns hg => by
  obtain ⟨h1, h2, cur, et, fz, h3, h4⟩ := h g ns hg
  exact ⟨by omega, (hA g h2).1, cur, et, fz, (hA g h2).2.trans h3, h4⟩
/-- A call's surroundings: how many blocks there were as it began, which of them it may write, which of them hold the data that it was handed, and the world then. -/
structure Cx where
  B : Nat
  M : Nat → Prop
  A0 : Nat → Prop
  w0 : World
  ma : ∀ b, M b → A0 b
  pin : Nat → Option Info := fun _ => none
  pinlo : ∀ k i, pin k = some i → pinLo ≤ k := by intro k i h; cases h
  ds : List Deferred := []
  glob : B = w0.heap.size ∧ GlobOK w0 A0
  gM : ∀ g ns, (globs[g]? : Option (List (IntKind × Int))) = some ns → ¬ M g
/-- The blocks that hold data, and nothing of the call's own. -/
def Av (x : Cx) (γ : Gam) (w : World) (b : Nat) : Prop := b < w.heap.size ∧ (b < x.B → x.A0 b) ∧ ∀ k c, γ k ≠ some (.at b c)
/-- The world, and what of it is the call's own. B: how many blocks there were as the call began; M: those of them that it may write. -/
structure Inv (x : Cx) (γ : Gam) (H : Heap) (w : World) : Prop where
  size : x.B ≤ w.heap.size
  os : w.os = x.w0.os
  tape : w.tape = x.w0.tape
  output : w.output = x.w0.output
  blk : ∀ b, b < x.B → ¬ x.M b → w.heap[b]? = x.w0.heap[b]?
  own : ∀ k i, γ k = some i → ∃ ob, H k = some ob ∧ objR w (Av x γ w) ob i
  rng : ∀ k b c, γ k = some (.at b c) → (x.B ≤ b ∨ x.M b) ∧ b < w.heap.size
  inj : ∀ k k' b c c', γ k = some (.at b c) → γ k' = some (.at b c') → k = k'
  pin : ∀ k i, x.pin k = some i → H k ≠ none → γ k = some i
  lnk : ∀ k cs off b c ob, H k = some (.box cs) → cs[off]? = some C.osl → γ k = some (.at b c) → H (hk k off) = some ob → ∃ i, γ (hk k off) = some i ∧ LinkR w H (hk k off) b off i
/-- The package's tables, at any time. -/
theorem Inv.globs {x : Cx} {γ : Gam} {H : Heap} {w : World} (h : Inv x γ H w) : GlobOK w (Av x γ w) := fun g ns hg => by
  obtain ⟨h1, h2, cur, et, fz, h3, h4⟩ := x.glob.2 g ns hg
  have hB := x.glob.1
  have hs := h.size
  refine ⟨by omega, ⟨by omega, fun _ => h2, fun k c hk => ?_⟩, cur, et, fz, (h.blk g (by omega) (x.gM g ns hg)).trans h3, h4⟩
  rcases (h.rng k g c hk).1 with h5 | h5
  · omega
  · exact x.gM g ns hg h5
structure RS (x : Cx) (γ : Gam) (st : St) (a : Act) (w : World) : Prop where
  inv : Inv x γ st.hp w
  len : st.tm.length = a.tmps.size
  tm : ∀ t v, st.tm[t]? = some v → VR γ w (Av x γ w) st.hp v (a.tmps.getD t undef)
  nod : a.defers = x.ds
theorem FboxR.mono {w w' : World} {A A' : Nat → Prop} (hA : ∀ b, A b → A' b ∧ w'.heap[b]? = w.heap[b]?) {b : Nat} {f : FuncId} {us : List Value} (h : FboxR w A b f us) : FboxR w' A' b f us := by
  obtain ⟨h1, et, fz, h2⟩ := h
  exact ⟨(hA b h1).1, et, fz, (hA b h1).2.trans h2⟩
theorem CDR.mono {γ : Gam} {w w' : World} {A A' : Nat → Prop} (hA : ∀ b, A b → A' b ∧ w'.heap[b]? = w.heap[b]?) {b : Nat} : ∀ (c : CD) (u : Value), CDR γ w A b c u → CDR γ w' A' b c u
  | .b _, _, h => h
  | .s, _, h => h
  | .v g ks, _, ⟨b', us, h1, h2, h3⟩ => ⟨b', us, h1, h2.mono hA, h3⟩
theorem VR1.mono {γ : Gam} {w w' : World} {A A' : Nat → Prop} {H : Heap} (hA : ∀ b, A b → A' b ∧ w'.heap[b]? = w.heap[b]?) : ∀ (x : V) (v : Value), VR1 γ w A H x v → VR1 γ w' A' H x v
  | .undef, _, _ => trivial
  | .c x, v, h => CR.mono hA x v h
  | .agg _, _, ⟨vs, h1, h2⟩ => ⟨vs, h1, h2.mono (CR.mono hA)⟩
  | .ptr _ _, _, h => h
  | .own _ _ _, _, h => h
  | .eptr _ _ _ _, _, h => h
  | .iptr _, _, ⟨b, o, cur, et, fz, h1, h2, h3, h4, h5⟩ => ⟨b, o, cur, et, fz, h1, (hA b h2).1, (hA b h2).2.trans h3, h4, h5.mono (CR.mono hA)⟩
  | .aptr _ _ _ _ _, _, h => h
  | .map _, _, h => h
  | .tup _, _, h => h
  | .fn _ _, _, h => h
  | .fpb _ _, _, h => h
  | .fptr f cds, _, ⟨b, us, h1, h2, h3⟩ => ⟨b, us, h1, h2.mono hA, h3.mono (CDR.mono hA)⟩
theorem VR.mono {γ : Gam} {w w' : World} {A A' : Nat → Prop} {H : Heap} (hA : ∀ b, A b → A' b ∧ w'.heap[b]? = w.heap[b]?) (x : V) (v : Value) (h : VR γ w A H x v) : VR γ w' A' H x v := by
  cases x with
  | tup vs => obtain ⟨us, h1, h2⟩ := h; exact ⟨us, h1, h2.mono (VR1.mono hA)⟩
  | fn f caps => obtain ⟨us, h1, h2⟩ := h; exact ⟨us, h1, h2.mono (VR1.mono hA)⟩
  | _ => simp only [VR] at h ⊢; exact VR1.mono hA _ _ h
theorem entR.mono {w w' : World} {A A' : Nat → Prop} {kk : IntKind} {e : Sh} (hA : ∀ b, A b → A' b ∧ w'.heap[b]? = w.heap[b]?) (p : Int × e.den) (en : MapEntry) (h : entR w A kk e p en) : entR w' A' kk e p en := by
  refine ⟨h.1, ?_⟩
  have h2 := h.2
  split
  · rename_i he
    rw [if_pos he] at h2
    obtain ⟨vs, h3, h4⟩ := h2
    exact ⟨vs, h3, VRs.mono hA _ _ _ h4⟩
  · rename_i he
    rw [if_neg he] at h2
    exact VRs.mono hA _ _ _ h2
/-- What an own thing reads as does not turn if its own block and the others' data do not. -/
theorem objR.mono {w w' : World} {A A' : Nat → Prop} (hA : ∀ b, A b → A' b ∧ w'.heap[b]? = w.heap[b]?) : ∀ (ob : O) (i : Info), (∀ b c, i = .at b c → w'.heap[b]? = w.heap[b]?) → objR w A ob i → objR w' A' ob i
  | .box _, .at b c, hb, ⟨cur, et, h1, h2⟩ => ⟨cur, et, (hb b c rfl).trans h1, h2.mono (CR.mono hA)⟩
  | .arr _ _ _, .emp, _, h => h
  | .arr e _ _, .at b c, hb, ⟨h0, h1, cur, et, h2, h3, h4⟩ => ⟨h0, h1, cur, et, (hb b c rfl).trans h2, h3, fun i x hi => VRs.mono hA e x _ (h4 i x hi)⟩
  | .mp _ _ _, .at b c, hb, ⟨es, clock, h1, h2⟩ => ⟨es, clock, (hb b c rfl).trans h1, h2.mono (entR.mono hA)⟩
  | .box _, .emp, _, h => h.elim
  | .mp _ _ _, .emp, _, h => h.elim
  | .fbox, .at b c, hb, ⟨v, et, h1⟩ => ⟨v, et, (hb b c rfl).trans h1⟩
  | .fbox, .emp, _, h => h.elim
  | .iter _ _, .at b c, hb, h => (hb b c rfl).trans h
  | .iter _ _, .emp, _, h => h.elim
/-! ### The world grows -/
structure Grows (w w' : World) : Prop where
  size : w.heap.size ≤ w'.heap.size
  os : w'.os = w.os
  tape : w'.tape = w.tape
  output : w'.output = w.output
  blk : ∀ b, b < w.heap.size → w'.heap[b]? = w.heap[b]?
theorem Grows.refl (w : World) : Grows w w := ⟨Nat.le_refl _, rfl, rfl, rfl, fun _ _ => rfl⟩
theorem Grows.of_below {w w' : World} (h : RowKit.Below w.heap.size w w') : Grows w w' := ⟨h.size, h.os, h.tape, h.output, h.block⟩
theorem Grows.alloc (w : World) (o : Obj) : Grows w (w.alloc o) :=
  ⟨by simp, rfl, rfl, rfl, fun b hb => RowKit.Below.heap_alloc w o b hb⟩
theorem Grows.drew (w : World) : Grows w { w with drawn := w.drawn + 1 } := ⟨Nat.le_refl _, rfl, rfl, rfl, fun _ _ => rfl⟩
theorem Grows.trans {a b c : World} (h : Grows a b) (k : Grows b c) : Grows a c :=
  ⟨Nat.le_trans h.size k.size, k.os.trans h.os, k.tape.trans h.tape, k.output.trans h.output, fun i hi => (k.blk i (Nat.lt_of_lt_of_le hi h.size)).trans (h.blk i hi)⟩
theorem Av.grows {x : Cx} {γ : Gam} {w w' : World} (h : Grows w w') (b : Nat) (hb : Av x γ w b) : Av x γ w' b ∧ w'.heap[b]? = w.heap[b]? :=
  ⟨⟨Nat.lt_of_lt_of_le hb.1 h.size, hb.2⟩, h.blk b hb.1⟩
theorem Inv.grows {x : Cx} {γ : Gam} {H : Heap} {w w' : World} (h : Inv x γ H w) (g : Grows w w') : Inv x γ H w' where
  size := Nat.le_trans h.size g.size
  os := g.os.trans h.os
  tape := g.tape.trans h.tape
  output := g.output.trans h.output
  blk := fun b hb hm => (g.blk b (Nat.lt_of_lt_of_le hb h.size)).trans (h.blk b hb hm)
  own := fun k i hk => by
    obtain ⟨ob, h1, h2⟩ := h.own k i hk
    exact ⟨ob, h1, objR.mono (Av.grows g) ob i (fun b c hi => g.blk b (h.rng k b c (hi ▸ hk)).2) h2⟩
  rng := fun k b c hk => ⟨(h.rng k b c hk).1, Nat.lt_of_lt_of_le (h.rng k b c hk).2 g.size⟩
  inj := h.inj
  pin := h.pin
  lnk := fun k cs off b c ob h1 h2 h3 h4 => by
    obtain ⟨i, e1, e2⟩ := h.lnk k cs off b c ob h1 h2 h3 h4
    exact ⟨i, e1, e2.mono (g.blk b (h.rng k b c h3).2) rfl⟩
theorem RS.grows {x : Cx} {γ : Gam} {st : St} {a : Act} {w w' : World} (h : RS x γ st a w) (g : Grows w w') : RS x γ st a w' where
  inv := h.inv.grows g
  len := h.len
  tm := fun t v hv => VR.mono (Av.grows g) v _ (h.tm t v hv)
  nod := h.nod
/-! ### Keys come and go -/
def gset (γ : Gam) (k : Nat) (i : Info) : Gam := fun j => if j = k then some i else γ j
def gdel (γ : Gam) (ks : List Nat) : Gam := fun j => if j ∈ ks then none else γ j
theorem refs1_key {k : Nat} : ∀ {x : V} {j : Nat}, refs1 k x = false → (match x with | .ptr j' _ => j' = j | .own j' _ _ => j' = j | .eptr j' _ _ _ => j' = j | .aptr j' _ _ _ _ => j' = j | .map j' => j' = j | _ => False) → j ≠ k := by
  intro x j h hx hjk
  subst hjk
  cases x <;> simp_all [refs1]
theorem PtrR.key {γ γ' : Gam} {k : Nat} {u : Value} (hg : γ' k = γ k) (h : PtrR γ k u) : PtrR γ' k u := by
  obtain ⟨b, c, h1, h2⟩ := h
  exact ⟨b, c, hg.trans h1, h2⟩
theorem PtrR.keys {γ γ' : Gam} : ∀ {ks : List Nat} {us : List Value}, (∀ k ∈ ks, γ' k = γ k) → All2 (PtrR γ) ks us → All2 (PtrR γ') ks us
  | [], [], _, _ => trivial
  | k :: ks, u :: us, hg, h => ⟨h.1.key (hg k (by simp)), PtrR.keys (fun j hj => hg j (by simp [hj])) h.2⟩
  | [], _ :: _, _, h => h.elim
  | _ :: _, [], _, h => h.elim
theorem CDR.keys {γ γ' : Gam} {w : World} {A : Nat → Prop} {b : Nat} : ∀ {cds : List CD} {us : List Value}, (∀ k, cdsRef k cds = true → γ' k = γ k) → All2 (CDR γ w A b) cds us → All2 (CDR γ' w A b) cds us
  | [], [], _, _ => trivial
  | c :: cds, u :: us, hg, h => by
    refine ⟨?_, CDR.keys (fun k hk => hg k (by simp [cdsRef, hk])) h.2⟩
    have h1 := h.1
    cases c with
    | b k => exact PtrR.key (hg k (by simp [cdsRef, cdRef])) h1
    | s => exact h1
    | v g ks =>
      obtain ⟨b', us', e1, e2, e3⟩ := h1
      exact ⟨b', us', e1, e2, PtrR.keys (fun k hk => hg k (by
        have : memN k ks = true := List.any_eq_true.2 ⟨k, hk, Nat.beq_refl k⟩
        simp [cdsRef, cdRef, this])) e3⟩
  | [], _ :: _, _, h => h.elim
  | _ :: _, [], _, h => h.elim
/-- A value that does not name a key does not mind what the key stands for. -/
theorem VR1.key {γ γ' : Gam} {w : World} {A : Nat → Prop} {H H' : Heap} {ks : List Nat} (hg : ∀ j, j ∉ ks → γ' j = γ j) (hH : ∀ j, j ∉ ks → H' j = H j) :
    ∀ (x : V) (v : Value), (∀ k ∈ ks, refs1 k x = false) → VR1 γ w A H x v → VR1 γ' w A H' x v := by
  intro x v hr h
  have nk : ∀ j, (match x with | .ptr j' _ => j' = j | .own j' _ _ => j' = j | .eptr j' _ _ _ => j' = j | .aptr j' _ _ _ _ => j' = j | .map j' => j' = j | _ => False) → j ∉ ks :=
    fun j hj hm => refs1_key (hr j hm) hj rfl
  cases x with
  | ptr k off =>
    have := nk k rfl
    obtain ⟨b, c, h1, h2⟩ := h
    exact ⟨b, c, (hg k this).trans h1, h2⟩
  | own k win t =>
    have := nk k rfl
    obtain ⟨i, e, xs, nilE, h1, h2, h3⟩ := h
    exact ⟨i, e, xs, nilE, (hg k this).trans h1, (hH k this).trans h2, h3⟩
  | eptr k win i off =>
    have := nk k rfl
    obtain ⟨b, c, e, xs, nilE, h1, h2, h3⟩ := h
    exact ⟨b, c, e, xs, nilE, (hg k this).trans h1, (hH k this).trans h2, h3⟩
  | aptr k off n e i =>
    have := nk k rfl
    obtain ⟨b, c, h1, h2⟩ := h
    exact ⟨b, c, (hg k this).trans h1, h2⟩
  | map k =>
    have := nk k rfl
    obtain ⟨b, c, h1, h2⟩ := h
    exact ⟨b, c, (hg k this).trans h1, h2⟩
  | undef => trivial
  | c x => exact h
  | agg cs => exact h
  | iptr cs => exact h
  | tup vs => exact h
  | fn f vs => exact h
  | fpb g css => exact h
  | fptr f cds =>
    obtain ⟨b, us, h1, h2, h3⟩ := h
    exact ⟨b, us, h1, h2, CDR.keys (fun k hk => hg k fun hm => by
      have := hr k hm
      simp only [refs1] at this
      rw [hk] at this
      cases this) h3⟩
theorem refsAny_false {k : Nat} : ∀ {vs : List V}, refsAny k vs = false → ∀ v ∈ vs, refs1 k v = false
  | [], _, v, hv => by simp at hv
  | x :: r, h, v, hv => by
    simp only [refsAny, Bool.or_eq_false_iff] at h
    rcases List.mem_cons.1 hv with rfl | hv
    · exact h.1
    · exact refsAny_false h.2 v hv
theorem All2.key {γ γ' : Gam} {w : World} {A : Nat → Prop} {H H' : Heap} {ks : List Nat} (hg : ∀ j, j ∉ ks → γ' j = γ j) (hH : ∀ j, j ∉ ks → H' j = H j) :
    ∀ {xs : List V} {vs : List Value}, (∀ k ∈ ks, refsAny k xs = false) → All2 (VR1 γ w A H) xs vs → All2 (VR1 γ' w A H') xs vs
  | [], [], _, _ => trivial
  | x :: xs, v :: vs, hr, h =>
    ⟨VR1.key hg hH x v (fun k hk => refsAny_false (hr k hk) x (by simp)) h.1,
     All2.key hg hH (fun k hk => by have := hr k hk; simp only [refsAny, Bool.or_eq_false_iff] at this; exact this.2) h.2⟩
  | [], _ :: _, _, h => h.elim
  | _ :: _, [], _, h => h.elim
theorem VR.key {γ γ' : Gam} {w : World} {A : Nat → Prop} {H H' : Heap} {ks : List Nat} (hg : ∀ j, j ∉ ks → γ' j = γ j) (hH : ∀ j, j ∉ ks → H' j = H j)
    (x : V) (v : Value) (hr : ∀ k ∈ ks, refs k x = false) (h : VR γ w A H x v) : VR γ' w A H' x v := by
  cases x with
  | tup vs => obtain ⟨us, h1, h2⟩ := h; exact ⟨us, h1, h2.key hg hH hr⟩
  | fn f caps => obtain ⟨us, h1, h2⟩ := h; exact ⟨us, h1, h2.key hg hH hr⟩
  | _ => simp only [VR] at h ⊢; exact VR1.key hg hH _ _ hr h
/-! ### A new thing under a key that nobody names -/
theorem Av.set {x : Cx} {γ : Gam} {w : World} {k : Nat} {i : Info} (hi : ∀ b c, i = .at b c → w.heap.size ≤ b) {w' : World} (g : Grows w w') (b : Nat) (hb : Av x γ w b) :
    Av x (gset γ k i) w' b ∧ w'.heap[b]? = w.heap[b]? := by
  refine ⟨⟨Nat.lt_of_lt_of_le hb.1 g.size, hb.2.1, fun j c hj => ?_⟩, g.blk b hb.1⟩
  unfold gset at hj
  split at hj
  · cases hj
    have := hi b c rfl
    have := hb.1
    omega
  · exact hb.2.2 j c hj
theorem Inv.set {x : Cx} {γ : Gam} {H : Heap} {w w' : World} {k : Nat} {i : Info} {ob : O} (h : Inv x γ H w) (g : Grows w w') (hlo : k < oslLo) (hno : NoOsl ob)
    (hi : ∀ b c, i = .at b c → w.heap.size ≤ b ∧ b < w'.heap.size) (hob : objR w' (Av x (gset γ k i) w') ob i) : Inv x (gset γ k i) (upd H k ob) w' where
  size := Nat.le_trans h.size g.size
  os := g.os.trans h.os
  tape := g.tape.trans h.tape
  output := g.output.trans h.output
  blk := fun b hb hm => (g.blk b (Nat.lt_of_lt_of_le hb h.size)).trans (h.blk b hb hm)
  own := fun j i' hj => by
    unfold gset at hj
    split at hj
    · rename_i hjk
      subst hjk
      cases hj
      exact ⟨ob, by simp [upd], hob⟩
    · rename_i hjk
      obtain ⟨ob', h1, h2⟩ := h.own j i' hj
      refine ⟨ob', ?_, objR.mono (Av.set (fun b c hb => (hi b c hb).1) g) ob' i' (fun b c hb => g.blk b (h.rng j b c (hb ▸ hj)).2) h2⟩
      have : Nat.beq j k = false := by
        cases hb : Nat.beq j k
        · rfl
        · exact absurd (Nat.eq_of_beq_eq_true hb) hjk
      simp [upd, this, h1]
  rng := fun j b c hj => by
    unfold gset at hj
    split at hj
    · cases hj
      have h0 := hi b c rfl
      have h1 := h.size
      exact ⟨.inl (by omega), h0.2⟩
    · exact ⟨(h.rng j b c hj).1, Nat.lt_of_lt_of_le (h.rng j b c hj).2 g.size⟩
  inj := fun j j' b c c' hj hj' => by
    unfold gset at hj hj'
    split at hj <;> split at hj'
    · rename_i a1 a2
      exact a1.trans a2.symm
    · cases hj
      have h1 := hi b c rfl
      have h2 := (h.rng j' b c' hj').2
      omega
    · cases hj'
      have h1 := hi b c' rfl
      have h2 := (h.rng j b c hj).2
      omega
    · exact h.inj j j' b c c' hj hj'
  pin := fun j i' hp hH => by
    have hjk : j ≠ k := fun e => by
      have := x.pinlo j i' hp
      have := osl_pin
      omega
    have hb : Nat.beq j k = false := by
      cases hb : Nat.beq j k
      · rfl
      · exact absurd (Nat.eq_of_beq_eq_true hb) hjk
    simp only [gset, hjk, if_false]
    simp only [upd, hb, cond_false] at hH
    exact h.pin j i' hp hH
  lnk := fun j cs off b c ob' h1 h2 h3 h4 => by
    have hne : hk j off ≠ k := fun e => by have := hk_lo j off; omega
    have hb2 : Nat.beq (hk j off) k = false := by
      cases hb : Nat.beq (hk j off) k
      · rfl
      · exact absurd (Nat.eq_of_beq_eq_true hb) hne
    unfold gset at h3
    simp only [upd, hb2, cond_false] at h4
    by_cases hjk : j = k
    · subst hjk
      simp only [upd, Nat.beq_refl, cond_true] at h1
      cases h1
      exact absurd h2 (hno cs off rfl)
    · rw [if_neg hjk] at h3
      have hb : Nat.beq j k = false := by
        cases hb : Nat.beq j k
        · rfl
        · exact absurd (Nat.eq_of_beq_eq_true hb) hjk
      simp only [upd, hb, cond_false] at h1
      obtain ⟨i', e1, e2⟩ := h.lnk j cs off b c ob' h1 h2 h3 h4
      exact ⟨i', by unfold gset; rw [if_neg hne]; exact e1, e2.mono (g.blk b (h.rng j b c h3).2) (by simp only [upd, hb2, cond_false])⟩
theorem VR.set {x : Cx} {γ : Gam} {H : Heap} {w w' : World} {k : Nat} {i : Info} {ob : O} (g : Grows w w') (hi : ∀ b c, i = .at b c → w.heap.size ≤ b)
    (y : V) (v : Value) (hr : refs k y = false) (h : VR γ w (Av x γ w) H y v) : VR (gset γ k i) w' (Av x (gset γ k i) w') (upd H k ob) y v := by
  have h1 := VR.mono (Av.set (x := x) (k := k) (i := i) hi g) y v h
  refine VR.key (ks := [k]) ?_ ?_ y v (by simpa using hr) h1
  · intro j hj
    simp only [List.mem_singleton] at hj
    simp [gset, hj]
  · intro j hj
    simp only [List.mem_singleton] at hj
    have : Nat.beq j k = false := by
      cases hb : Nat.beq j k
      · rfl
      · exact absurd (Nat.eq_of_beq_eq_true hb) hj
    simp [upd, this]
/-! ### Forgetting -/
theorem Av.del {x : Cx} {γ γ' : Gam} {w : World} (hs : ∀ k i, γ' k = some i → ∃ k', γ k' = some i) (b : Nat) (hb : Av x γ w b) : Av x γ' w b ∧ w.heap[b]? = w.heap[b]? :=
  ⟨⟨hb.1, hb.2.1, fun k c hk => by obtain ⟨k', hk'⟩ := hs k _ hk; exact hb.2.2 k' c hk'⟩, rfl⟩
end Go.Vi
/-
  Vi: what the table of types says of the program's types; reading and writing rows of cells.
-/
set_option linter.unusedVariables false
set_option linter.unusedSimpArgs false
namespace Go.Vi
def isAggD : TypeDesc → Bool
  | .struct _ => true
  | .array _ _ => true
  | _ => false
/-- Zero cells. -/
def zeroB : List C → List Value → Bool
  | [], [] => true
  | .int k n :: r, .int k' n' :: r' => decide (k = k') && n == n' && zeroB r r'
  | .bool b :: r, .bool b' :: r' => b == b' && zeroB r r'
  | .str s :: r, .string s' :: r' => decide (s = s') && zeroB r r'
  | .sl _ [] _ :: r, .slice none 0 0 :: r' => zeroB r r'
  | _, _ => false
theorem zeroB_all2 {w : World} {A : Nat → Prop} : ∀ {cs : List C} {vs : List Value}, zeroB cs vs = true → All2 (CR w A) cs vs
  | [], [], _ => trivial
  | .int k n :: r, v :: r', h => by
    cases v <;> simp [zeroB] at h
    obtain ⟨⟨rfl, rfl⟩, h⟩ := h
    exact ⟨rfl, zeroB_all2 h⟩
  | .bool b :: r, v :: r', h => by
    cases v <;> simp [zeroB] at h
    obtain ⟨rfl, h⟩ := h
    exact ⟨rfl, zeroB_all2 h⟩
  | .str b :: r, v :: r', h => by
    cases v <;> simp [zeroB] at h
    obtain ⟨rfl, h⟩ := h
    exact ⟨rfl, zeroB_all2 h⟩
  | .sl e xs t :: r, v :: r', h => by
    cases xs with
    | cons x xs => simp [zeroB] at h
    | nil =>
      unfold zeroB at h
      split at h <;> simp_all
      all_goals
        rename_i h1 h2
        obtain ⟨⟨rfl, h3, rfl⟩, rfl⟩ := h1
        exact ⟨⟨none, 0, by simp, Nat.le_refl _, fun _ => rfl, .inl rfl⟩, zeroB_all2 h⟩
  | [], _ :: _, h => by simp [zeroB] at h
  | .int _ _ :: _, [], h => by simp [zeroB] at h
  | .bool _ :: _, [], h => by simp [zeroB] at h
  | .str _ :: _, [], h => by simp [zeroB] at h
  | .sl _ _ _ :: _, [], h => by simp [zeroB] at h
def isAggV : Value → Bool
  | .agg _ => true
  | _ => false
structure Base (P : Program) (t : TypeId) (s : Sh) : Prop where
  zag : ∀ i z, P.info? t = some i → i.zero = some z → isAggV z = s.agg
  ex : ∃ i d z, P.info? t = some i ∧ P.underlying t = some d ∧ i.size = s.nc ∧ i.bytes ≤ 4096 ∧ i.zero = some z ∧ zeroB (cells s (zero s)) z.cells.toList = true ∧ isAggD d = s.agg
def baseB (P : Program) (t : TypeId) (s : Sh) : Bool :=
  match P.info? t, P.underlying t with
  | some i, some d =>
    match i.zero with
    | some z => isAggV z == s.agg && Nat.beq i.size s.nc && Nat.ble i.bytes 4096 && zeroB (cells s (zero s)) z.cells.toList && isAggD d == s.agg
    | none => false
  | _, _ => false
theorem baseB_base {P : Program} {t : TypeId} {s : Sh} (h : baseB P t s = true) : Base P t s := by
  unfold baseB at h
  split at h
  · rename_i i d hi hd
    split at h
    · rename_i z hz
      simp only [Bool.and_eq_true, beq_iff_eq] at h
      refine ⟨fun i' z' hi' hz' => ?_, ⟨i, d, z, hi, hd, Nat.eq_of_beq_eq_true h.1.1.1.2, Nat.le_of_ble_eq_true h.1.1.2, hz, h.1.2, h.2⟩⟩
      rw [hi] at hi'
      cases hi'
      rw [hz] at hz'
      cases hz'
      exact h.1.1.1.1
    · cases h
  · cases h
structure ShOK (P : Program) (t : TypeId) (s : Sh) : Prop where
  base : Base P t s
  sl : ∀ e, s = .sl e → ∃ et, P.underlying t = some (.slice et) ∧ Base P et e ∧ 0 < e.nc
  int : ∀ k, s = .int k → P.underlying t = some (.int k)
  bool : s = .bool → P.underlying t = some .bool
  str : s = .str → P.underlying t = some .string
  elt : ∀ k, s = .sl (.int k) → ∃ et, P.underlying t = some (.slice et) ∧ P.underlying et = some (.int k)
def descB (s : Sh) (d : TypeDesc) (P : Program) : Bool :=
  match s, d with
  | .sl e, .slice et => baseB P et e && Nat.ble 1 e.nc && (match e with | .int k => (match P.underlying et with | some (.int k') => decide (k = k') | _ => false) | _ => true)
  | .sl _, _ => false
  | .int k, .int k' => decide (k = k')
  | .int _, _ => false
  | .bool, .bool => true
  | .bool, _ => false
  | .str, .string => true
  | .str, _ => false
  | _, _ => true
def shB (P : Program) (p : Nat × Sh) : Bool :=
  baseB P p.1 p.2 && (match P.underlying p.1 with | some d => descB p.2 d P | none => false)
theorem shB_ok {P : Program} {t : TypeId} {s : Sh} (h : shB P (t, s) = true) : ShOK P t s := by
  simp only [shB, Bool.and_eq_true] at h
  obtain ⟨h1, h2⟩ := h
  refine ⟨baseB_base h1, ?_, ?_, ?_, ?_, ?_⟩
  · rintro e rfl
    split at h2
    · rename_i d hd
      unfold descB at h2
      split at h2 <;> simp_all
      exact ⟨baseB_base h2.1.1, h2.1.2⟩
    · cases h2
  · rintro k rfl
    split at h2
    · rename_i d hd
      unfold descB at h2
      split at h2 <;> simp_all
    · cases h2
  · rintro rfl
    split at h2
    · rename_i d hd
      unfold descB at h2
      split at h2 <;> simp_all
    · cases h2
  · rintro rfl
    split at h2
    · rename_i d hd
      unfold descB at h2
      split at h2 <;> simp_all
    · cases h2
  · rintro k rfl
    split at h2
    · rename_i d hd
      cases d with
      | slice et =>
        simp only [descB, Bool.and_eq_true] at h2
        refine ⟨et, hd, ?_⟩
        have h3 := h2.2
        split at h3
        · rename_i k' hk
          rw [hk, of_decide_eq_true h3]
        · cases h3
      | _ => cases h2
    · cases h2
/-- The fields of a struct. -/
structure FldOK (P : Program) (t : TypeId) (fs : List Sh) : Prop where
  ex : ∃ fields : Array Field, P.underlying t = some (.struct fields) ∧ fields.size = fs.length ∧
    ∀ j s, fs[j]? = some s → ∃ f, fields[j]? = some f ∧ f.offset = fieldOff fs j ∧ Base P f.type s ∧ 0 < s.nc
def fldsB (P : Program) (fs : List Sh) : Nat → List Field → List Sh → Bool
  | _, [], [] => true
  | j, f :: r, s :: r' => Nat.beq f.offset (fieldOff fs j) && baseB P f.type s && Nat.ble 1 s.nc && fldsB P fs (j + 1) r r'
  | _, _, _ => false
theorem fldsB_get {P : Program} {fs : List Sh} : ∀ {j : Nat} {r : List Field} {r' : List Sh}, fldsB P fs j r r' = true → r.length = r'.length ∧
    ∀ i s, r'[i]? = some s → ∃ f, r[i]? = some f ∧ f.offset = fieldOff fs (j + i) ∧ Base P f.type s ∧ 0 < s.nc
  | j, [], [], _ => ⟨rfl, fun i s h => by simp at h⟩
  | j, f :: r, s :: r', h => by
    simp only [fldsB, Bool.and_eq_true] at h
    obtain ⟨⟨⟨h1, h2⟩, h3⟩, h4⟩ := h
    obtain ⟨h5, h6⟩ := fldsB_get h4
    refine ⟨by simp [h5], fun i s' hi => ?_⟩
    cases i with
    | zero =>
      simp at hi
      subst hi
      exact ⟨f, by simp, Nat.eq_of_beq_eq_true h1, baseB_base h2, by have := Nat.le_of_ble_eq_true h3; omega⟩
    | succ i =>
      simp at hi
      obtain ⟨f', hf, ho, hb⟩ := h6 i s' hi
      exact ⟨f', by simpa using hf, by rw [ho]; congr 1; omega, hb⟩
  | _, [], _ :: _, h => by simp [fldsB] at h
  | _, _ :: _, [], h => by simp [fldsB] at h
def fldB (P : Program) (p : Nat × List Sh) : Bool :=
  match P.underlying p.1 with
  | some (.struct fields) => fldsB P p.2 0 fields.toList p.2
  | _ => false
theorem fldB_ok {P : Program} {t : TypeId} {fs : List Sh} (h : fldB P (t, fs) = true) : FldOK P t fs := by
  unfold fldB at h
  split at h
  · rename_i fields hd
    obtain ⟨h1, h2⟩ := fldsB_get h
    exact ⟨⟨fields, hd, by simpa using h1, fun j s hj => by obtain ⟨f, hf, ho, hb⟩ := h2 j s hj; exact ⟨f, by simpa using hf, by simpa using ho, hb⟩⟩⟩
  · cases h
def arrB (P : Program) (p : Nat × (Nat × Sh)) : Bool :=
  match P.underlying p.1 with
  | some (.array n et) => Nat.beq n p.2.1 && baseB P et p.2.2 && Nat.ble 1 p.2.2.nc
  | _ => false
def ArrOK (P : Program) (t : TypeId) (n : Nat) (e : Sh) : Prop := ∃ et, P.underlying t = some (.array n et) ∧ Base P et e ∧ 0 < e.nc
theorem arrB_ok {P : Program} {t : TypeId} {n : Nat} {e : Sh} (h : arrB P (t, (n, e)) = true) : ArrOK P t n e := by
  unfold arrB at h
  split at h
  · rename_i m et hd
    simp only [Bool.and_eq_true] at h
    obtain ⟨⟨h1, h2⟩, h3⟩ := h
    have := Nat.eq_of_beq_eq_true h1
    subst this
    exact ⟨et, hd, baseB_base h2, by have := Nat.le_of_ble_eq_true h3; omega⟩
  · cases h
def MapOK (P : Program) (t : TypeId) (kk : IntKind) (e : Sh) : Prop := ∃ kt et, P.underlying t = some (.map kt et) ∧ P.underlying kt = some (.int kk) ∧ Base P et e
def mapB (P : Program) (p : Nat × (IntKind × Sh)) : Bool :=
  match P.underlying p.1 with
  | some (.map kt et) => (match P.underlying kt with | some (.int k) => decide (k = p.2.1) | _ => false) && baseB P et p.2.2
  | _ => false
theorem mapB_ok {P : Program} {t : TypeId} {kk : IntKind} {e : Sh} (h : mapB P (t, (kk, e)) = true) : MapOK P t kk e := by
  unfold mapB at h
  split at h
  · rename_i kt et hd
    simp only [Bool.and_eq_true] at h
    obtain ⟨h1, h2⟩ := h
    split at h1
    · rename_i k hk
      have := of_decide_eq_true h1
      subst this
      exact ⟨kt, et, hd, hk, baseB_base h2⟩
    · cases h1
  · cases h
theorem memN_mem {d : Nat} {l : List Nat} (h : memN d l = true) : d ∈ l := by
  obtain ⟨x, hx, he⟩ := List.any_eq_true.1 h
  rw [Nat.eq_of_beq_eq_true he]
  exact hx
/-- A function that gives back what it is handed. -/
def IdC (P : Program) (g : FuncId) : Prop := (∀ args w, (callFunc g args).run P w = .ok (.enter g args) w) ∧ ∀ u w, Calls P g #[u] w fun e w' => e = .returned u ∧ w' = w
/-- A function that deletes elements of a slice of numbers, in place. -/
def DelC (P : Program) (g : FuncId) : Prop := (∀ args w, (callFunc g args).run P w = .ok (.enter g args) w) ∧
  ∀ (b cap i j : Nat) (zs : List Int) (w : World) (cur : Array Value) (et : TypeId), w.heap[b]? = some (.cells cur et (0, 0)) → cap ≤ cur.size → (∀ (t : Nat) z, zs[t]? = some z → cur.toList[t]? = some (.int .i64 z)) →
    zs.length ≤ cap → zs.length ≤ lim → i < j → j ≤ zs.length →
    Calls P g #[.slice (some ⟨b, 0, none⟩) zs.length cap, .int .i64 i, .int .i64 j] w fun e w' => e = .returned (.slice (some ⟨b, 0, none⟩) (zs.length - (j - i)) cap) ∧
      (w'.heap.size = w.heap.size ∧ w'.os = w.os ∧ w'.tape = w.tape ∧ w'.output = w.output ∧ ∀ q, q ≠ b → w'.heap[q]? = w.heap[q]?) ∧
      ∃ cur', w'.heap[b]? = some (.cells cur' et (0, 0)) ∧ cur'.size = cur.size ∧ ∀ (t : Nat) z, (zs.take i ++ zs.drop j)[t]? = some z → cur'.toList[t]? = some (.int .i64 z)
/-- The type of a function: one cell. -/
structure FnTy (P : Program) (t : TypeId) : Prop where
  ex : ∃ i d z v, P.info? t = some i ∧ P.underlying t = some d ∧ i.size = 1 ∧ i.zero = some z ∧ z.cells = #[v] ∧ isAggD d = false
def fnB (P : Program) (t : TypeId) : Bool :=
  match P.info? t, P.underlying t with
  | some i, some d =>
    match i.zero with
    | some z => Nat.beq i.size 1 && Nat.beq z.cells.size 1 && !isAggD d
    | none => false
  | _, _ => false
theorem fnB_ok {P : Program} {t : TypeId} (h : fnB P t = true) : FnTy P t := by
  unfold fnB at h
  split at h
  · rename_i i d hi hd
    split at h
    · rename_i z hz
      simp only [Bool.and_eq_true, Bool.not_eq_true'] at h
      have h2 : z.cells.size = 1 := Nat.eq_of_beq_eq_true h.1.2
      refine ⟨i, d, z, z.cells[0]'(by omega), hi, hd, Nat.eq_of_beq_eq_true h.1.1, hz, ?_, h.2⟩
      apply Array.ext
      · simp [h2]
      · intro j h3 h4
        have : j = 0 := by omega
        subst this
        simp
    · cases h
  · cases h
structure TabOK (P : Program) (T : Tab) : Prop where
  sh : ∀ t s, look T.sh t = some s → ShOK P t s
  flds : ∀ t fs, look T.flds t = some fs → FldOK P t fs
  arrs : ∀ t n e, look T.arrs t = some (n, e) → ArrOK P t n e
  maps : ∀ t kk e, look T.maps t = some (kk, e) → MapOK P t kk e
  idf : ∀ g ∈ T.idf, IdC P g
  del : ∀ g ∈ T.del, DelC P g
  fns : ∀ t ∈ T.fns, FnTy P t
theorem look_mem {α : Type} : ∀ {l : List (Nat × α)} {n : Nat} {x : α}, look l n = some x → (n, x) ∈ l
  | [], _, _, h => by simp [look] at h
  | (k, v) :: r, n, x, h => by
    simp only [look] at h
    cases hb : Nat.beq k n with
    | true =>
      rw [hb] at h
      simp at h
      subst h
      have := Nat.eq_of_beq_eq_true hb
      subst this
      simp
    | false =>
      rw [hb] at h
      exact List.mem_cons_of_mem _ (look_mem (by simpa using h))
def tabB (P : Program) (T : Tab) : Bool := T.sh.all (shB P) && T.flds.all (fldB P) && T.arrs.all (arrB P) && T.maps.all (mapB P) && T.fns.all (fnB P)
theorem tabB_ok {P : Program} {T : Tab} (h : tabB P T = true) (hid : ∀ g ∈ T.idf, IdC P g) (hdel : ∀ g ∈ T.del, DelC P g) : TabOK P T := by
  simp only [tabB, Bool.and_eq_true, List.all_eq_true] at h
  obtain ⟨⟨⟨⟨h1, h2⟩, h3⟩, h4⟩, h5⟩ := h
  exact ⟨fun t s hl => shB_ok (h1 _ (look_mem hl)), fun t s hl => fldB_ok (h2 _ (look_mem hl)), fun t n e hl => arrB_ok (h3 _ (look_mem hl)), fun t k e hl => mapB_ok (h4 _ (look_mem hl)), hid, hdel, fun t ht => fnB_ok (h5 t ht)⟩
/-! ## Cells -/
section
variable {P : Program} {w : World}
theorem add_eq (b o j : Nat) : (⟨b, o, none⟩ : Addr).add j = ⟨b, o + j, none⟩ := by
  unfold Addr.add
  split
  · rename_i h; subst h; rfl
  · rfl
theorem cell_row {b : Nat} {cur : Array Value} {et : TypeId} {fz : Nat × Nat} (h : w.heap[b]? = some (.cells cur et fz)) (o : Nat) : w.cell? ⟨b, o, none⟩ = cur.toList[o]? := by
  simp [World.cell?, h]
theorem run_cells {b o : Nat} {cur : Array Value} {et : TypeId} {fz : Nat × Nat} (h : w.heap[b]? = some (.cells cur et fz)) (n : Nat) (hn : o + n ≤ cur.size) :
    (loadCells ⟨b, o, none⟩ n).run P w = .ok ((cur.toList.drop o).take n).toArray w := by
  have hl : ((cur.toList.drop o).take n).length = n := by simp; omega
  have := run_loadCells_list (P := P) w ⟨b, o, none⟩ ((cur.toList.drop o).take n) (fun j v hj => by
    rw [add_eq, cell_row h]
    rw [List.getElem?_take] at hj
    split at hj
    · simpa using hj
    · cases hj)
  rwa [hl] at this
theorem run_isAgg {t : TypeId} {d : TypeDesc} (hu : P.underlying t = some d) : (isAgg t).run P w = .ok (isAggD d) w := by
  simp only [isAgg, Sem.run_bind, run_underlying hu, Result.andThen_ok]
  cases d <;> rfl
theorem run_sizeOf' {t : TypeId} {i : TypeInfo} (hi : P.info? t = some i) : (sizeOf t).run P w = .ok i.size w := by
  simp [sizeOf, typeInfo, hi]
/-- A variable of a type whose shape is known is read. -/
theorem run_load_shape {t : TypeId} {s : Sh} (hs : Base P t s) {b o : Nat} {cur : Array Value} {et : TypeId} {fz : Nat × Nat} (h : w.heap[b]? = some (.cells cur et fz)) (hn : o + s.nc ≤ cur.size)
    (hone : s.agg = false → s.nc = 1) :
    (Instr.loadAt t (.pointer (some ⟨b, o, none⟩))).run P w = .ok (if s.agg = true then .agg ((cur.toList.drop o).take s.nc).toArray else (cur.toList.getD o undef)) w := by
  obtain ⟨i, d, z, hi, hd, hsz, hby, hz, hzz, ha⟩ := hs.ex
  simp only [Instr.loadAt, Instr.sureAddr, loadVar, Sem.run_bind, Sem.run_pure, Result.andThen_ok, run_isAgg hd, ha]
  by_cases hag : s.agg = true
  · simp only [hag, if_true, Sem.run_bind, run_sizeOf' hi, Result.andThen_ok, hsz, run_cells h _ hn, Sem.run_pure]
  · have h1 := hone (by simpa using hag)
    have hlt : o < cur.size := by omega
    simp only [hag, if_false, Bool.false_eq_true, run_load, cell_row h]
    have : cur.toList[o]? = some (cur.toList.getD o undef) := by
      simp [List.getD, hlt]
    rw [this]
theorem mkV_VR {γ : Gam} {A : Nat → Prop} {H : Heap} {s : Sh} {cs : List C} {v : V} {vs : List Value} (hm : mkV s cs = some v) (hv : All2 (CR w A) cs vs) :
    VR γ w A H v (if s.agg = true then .agg vs.toArray else vs.getD 0 undef) := by
  unfold mkV at hm
  cases ha : s.agg with
  | true =>
    rw [ha] at hm
    simp only [cond_true, Option.some.injEq] at hm
    subst hm
    exact ⟨vs, by simp, hv⟩
  | false =>
    rw [ha] at hm
    simp only [cond_false] at hm
    split at hm
    · rename_i c
      cases hm
      obtain ⟨u, rfl, hu⟩ := hv.one
      simpa [VR, VR1] using hu
    · cases hm
theorem nc_one : ∀ {s : Sh}, s.agg = false → s.nc = 1
  | .int _, _ => rfl
  | .bool, _ => rfl
  | .str, _ => rfl
  | .sl _, _ => rfl
  | .unit, h => by simp [Sh.agg] at h
  | .pair _ _, h => by simp [Sh.agg] at h
theorem cellsOf_VR {γ : Gam} {A : Nat → Prop} {H : Heap} {v : V} {cs : List C} {u : Value} (hc : cellsOf v = some cs) (hv : VR γ w A H v u) : All2 (CR w A) cs u.cells.toList := by
  cases v <;> simp only [cellsOf, Option.some.injEq, reduceCtorEq] at hc
  · subst hc
    have h1 : CR w A _ u := hv
    have : u.cells = #[u] := by
      have := h1.oneCell
      cases u <;> simp_all [Value.cells, Value.oneCell']
    rw [this]
    exact ⟨h1, trivial⟩
  · subst hc
    obtain ⟨vs, rfl, h2⟩ := hv
    simpa [Value.cells] using h2
/-- A new variable. -/
theorem run_newVar (t : TypeId) (v : Value) : (newVar t v).run P w = .ok ⟨w.heap.size, 0, none⟩ (w.alloc (.cells v.cells t)) := by
  simp only [newVar, newRow, Sem.run_bind, run_newObj, Result.andThen_ok, Sem.run_pure]
  rfl
end
end Go.Vi
/-
  Vi: operations: what an operation may come to; calls.
-/
set_option linter.unusedVariables false
set_option linter.unusedSimpArgs false
namespace Go.Vi
/-- An operation comes to a value. -/
def OpTo (P : Program) (o : Oper) (a : Act) (w : World) (R : Value → World → Prop) : Prop :=
  (∃ u w', (execOp a.eval o).run P w = .ok (.value u) w' ∧ R u w') ∨
  (∃ w', (execOp a.eval o).run P w = .ok .skip w' ∧ R undef w') ∨
  (∃ f args w1, (execOp a.eval o).run P w = .ok (.enter f args) w1 ∧ Calls P f args w1 fun
    | .returned u, w' => R u w'
    | _, _ => False)
theorem OpTo.mono {P : Program} {o : Oper} {a : Act} {w : World} {R R' : Value → World → Prop} (h : OpTo P o a w R) (f : ∀ u w', R u w' → R' u w') : OpTo P o a w R' := by
  rcases h with ⟨u, w', h1, h2⟩ | ⟨w', h1, h2⟩ | ⟨g, args, w1, h1, h2⟩
  · exact .inl ⟨u, w', h1, f _ _ h2⟩
  · exact .inr (.inl ⟨w', h1, f _ _ h2⟩)
  · refine .inr (.inr ⟨g, args, w1, h1, h2.mono ?_⟩)
    intro e w' he
    cases e <;> simp_all
theorem OpTo.wp {P : Program} {o : Oper} {a : Act} {w : World} {next : Act → World → Prop} {Q : Exit → Act → World → Prop} (h : OpTo P o a w fun u w' => next (a.put o.dst u) w') : o.wp P a w next Q := by
  unfold Oper.wp
  rcases h with ⟨u, w', h1, h2⟩ | ⟨w', h1, h2⟩ | ⟨g, args, w1, h1, h2⟩
  · rw [h1]; exact h2
  · rw [h1]; exact h2
  · rw [h1]
    refine h2.mono ?_
    intro e w' he
    cases e <;> simp_all
/-- What an operation leaves: its value, the new things, and all that was. -/
def Res (x : Cx) (γ : Gam) (H : Heap) (w : World) (v : V) (obs : List (Nat × O)) (u : Value) (w' : World) : Prop :=
  (∀ p ∈ obs, p.1 < oslLo) → ∃ γ', Inv x γ' (updAll H obs) w' ∧ VR γ' w' (Av x γ' w') (updAll H obs) v u ∧
    ∀ y uu, (∀ p ∈ obs, refs p.1 y = false) → VR γ w (Av x γ w) H y uu → VR γ' w' (Av x γ' w') (updAll H obs) y uu
theorem Res.same {x : Cx} {γ : Gam} {H : Heap} {w : World} {v : V} {u : Value} (hi : Inv x γ H w) (hv : VR γ w (Av x γ w) H v u) : Res x γ H w v [] u w :=
  fun _ => ⟨γ, hi, hv, fun y uu _ h => h⟩
theorem Res.new {x : Cx} {γ : Gam} {H : Heap} {w w' : World} {v : V} {u : Value} {k : Nat} {ob : O} {i : Info} (hi : Inv x γ H w) (g : Grows w w')
    (hn : ∀ b c, i = .at b c → w.heap.size ≤ b ∧ b < w'.heap.size) (hno : NoOsl ob) (hob : objR w' (Av x (gset γ k i) w') ob i)
    (hv : VR (gset γ k i) w' (Av x (gset γ k i) w') (upd H k ob) v u) : Res x γ H w v [(k, ob)] u w' :=
  fun hlo => ⟨gset γ k i, hi.set g (hlo (k, ob) (by simp)) hno hn hob, hv, fun y uu hr h => VR.set g (fun b c hb => (hn b c hb).1) y uu (hr (k, ob) (by simp)) h⟩
theorem dead_spec {st : St} {dst : Option Tmp} {k : Nat} (h : dead st dst k = true) : k < oslLo ∧ noRef k (put st dst .undef).tm = true := by
  unfold dead at h
  rw [Bool.and_eq_true] at h
  exact ⟨Nat.le_of_ble_eq_true h.1, h.2⟩
theorem noRef_get {k : Nat} : ∀ {tm : List V}, noRef k tm = true → ∀ {t : Nat} {y : V}, tm[t]? = some y → refs k y = false
  | [], _, t, y, h => by simp at h
  | v :: r, hn, 0, y, h => by
    simp only [noRef, Bool.and_eq_true, Bool.not_eq_true'] at hn
    simp at h
    subst h
    exact hn.1
  | v :: r, hn, t + 1, y, h => by
    simp only [noRef, Bool.and_eq_true, Bool.not_eq_true'] at hn
    exact noRef_get hn.2 (by simpa using h)
theorem put_size (a : Act) (d : Option Tmp) (u : Value) : (a.put d u).tmps.size = a.tmps.size := by
  cases d <;> simp [Act.put]
theorem put_defers (a : Act) (d : Option Tmp) (u : Value) : (a.put d u).defers = a.defers := by
  cases d <;> rfl
theorem put_getD (a : Act) (d t : Nat) (u : Value) : (a.put (some d) u).tmps.getD t undef = if t = d ∧ d < a.tmps.size then u else a.tmps.getD t undef := by
  simp only [Act.put, Array.getD_eq_getD_getElem?, Array.getElem?_setIfInBounds]
  by_cases h : d = t
  · subst h
    by_cases h2 : d < a.tmps.size <;> simp [h2]
  · have : ¬ (t = d) := fun e => h e.symm
    simp [h, this]
/-- A step of a region. -/
theorem RS.step {x : Cx} {γ : Gam} {st : St} {a : Act} {w w' : World} {v : V} {obs : List (Nat × O)} {u : Value} {dst : Option Tmp} (h : RS x γ st a w)
    (hd : obs.all (fun p => dead st dst p.1) = true) (hr : Res x γ st.hp w v obs u w') :
    ∃ γ', RS x γ' { tm := (put st dst v).tm, hp := updAll st.hp obs } (a.put dst u) w' := by
  have hdead0 : ∀ p ∈ obs, dead st dst p.1 = true := List.all_eq_true.1 hd
  obtain ⟨γ', h1, h2, h3⟩ := hr fun p hp => (dead_spec (hdead0 p hp)).1
  have hdead : ∀ p ∈ obs, noRef p.1 (put st dst .undef).tm = true := fun p hp => (dead_spec (hdead0 p hp)).2
  refine ⟨γ', ⟨h1, ?_, ?_, ?_⟩⟩
  · rw [put_size, ← h.len]
    cases dst <;> simp [put]
  · intro t y hy
    cases dst with
    | none =>
      simp only [put] at hy
      refine h3 y _ (fun p hp => ?_) (h.tm t y hy)
      have := hdead p hp
      exact noRef_get (by simpa [put] using this) hy
    | some d =>
      rw [put_getD]
      simp only [put, List.getElem?_set] at hy
      split at hy
      · rename_i hdt
        split at hy
        · rename_i hlt
          cases hy
          rw [if_pos ⟨hdt.symm, by rw [← h.len]; exact hlt⟩]
          exact h2
        · cases hy
      · rename_i hdt
        rw [if_neg (fun e => hdt e.1.symm)]
        refine h3 y _ (fun p hp => ?_) (h.tm t y hy)
        have := hdead p hp
        refine noRef_get (tm := st.tm.set d .undef) (by simpa [put] using this) (t := t) ?_
        rw [List.getElem?_set, if_neg hdt]
        exact hy
  · rw [put_defers]; exact h.nod
/-! ## Calls -/
def noGam : Gam := fun _ => none
/-- What comes back. -/
def RetR1 (w w' : World) (A1 : Nat → Prop) : Ret1 → Info → Value → Prop
  | .val c, _, u => CR w' A1 c u
  | .agg cs, _, u => ∃ vs : List Value, u = .agg vs.toArray ∧ All2 (CR w' A1) cs vs
  | .fresh e xs nilE, i, u => objR w' A1 (.arr e xs nilE) i ∧ OwnSl i e.nc xs.length nilE none false u ∧ ∀ b c, i = .at b c → w.heap.size ≤ b ∧ b < w'.heap.size
  | .lay e xs, _, u => CR w' (fun b => A1 b ∧ w.heap.size ≤ b) (.sl e xs false) u
def RetRs (w w' : World) (A1 : Nat → Prop) : List Ret1 → List Info → List Value → Prop
  | [], [], [] => True
  | r :: rs, i :: is, u :: us => RetR1 w w' A1 r i u ∧ (∀ b c, i = .at b c → ∀ j ∈ is, ∀ c', j ≠ .at b c') ∧ RetRs w w' A1 rs is us
  | _, _, _ => False
def newA (w w' : World) (A0 : Nat → Prop) (is : List Info) (b : Nat) : Prop := b < w'.heap.size ∧ (b < w.heap.size → A0 b) ∧ ∀ i ∈ is, ∀ c, i ≠ .at b c
def retVal : List Value → Value
  | [u] => u
  | us => .tuple us.toArray
def RetR (w w' : World) (A0 : Nat → Prop) (ret : Ret) (u : Value) : Prop :=
  ∃ is us, u = retVal us ∧ RetRs w w' (newA w w' A0 is) ret is us
/-- The contract of a function that only reads: called with these it gives that. -/
def FC (P : Program) (g : FuncId) (vs : List V) (ret : Ret) : Prop :=
  ∀ (w : World) (A0 : Nat → Prop) (args : List Value), (∀ b, A0 b → b < w.heap.size) → All2 (VR noGam w A0 emp) vs args → GlobOK w A0 →
    Calls P g args.toArray w fun
      | .returned u, w' => Grows w w' ∧ RetR w w' A0 ret u
      | _, _ => False
def PhiOK (P : Program) (phi : Phi) : Prop :=
  ∀ g vs ρ (K : Ret → Option ρ) r, phi g vs ρ K = some r → ∃ ret, K ret = some r ∧ FC P g vs ret ∧ ∀ args w, (callFunc g args).run P w = .ok (.enter g args) w
/-- Values without slices do not mind where data lies. -/
theorem VRs.noSl {w w' : World} {A A' : Nat → Prop} : ∀ (s : Sh) (x : s.den) (vs : List Value), s.hasSl = false → VRs w A s x vs → VRs w' A' s x vs
  | .int _, _, _, _, h => h
  | .bool, _, _, _, h => h
  | .str, _, _, _, h => h
  | .unit, _, _, _, h => h
  | .pair a b, x, vs, hs, h => by
    simp only [Sh.hasSl, Bool.or_eq_false_iff] at hs
    exact ⟨VRs.noSl a x.1 _ hs.1 h.1, VRs.noSl b x.2 _ hs.2 h.2⟩
  | .sl e, _, _, hs, _ => by simp [Sh.hasSl] at hs
theorem CR.noSl {w w' : World} {A A' : Nat → Prop} : ∀ (c : C) (v : Value), c.isSl = false → CR w A c v → CR w' A' c v
  | .int _ _, _, _, h => h
  | .bool _, _, _, h => h
  | .str _, _, _, h => h
  | .sl _ _ _, _, hs, _ => by simp [C.isSl] at hs
theorem All2.noSl {w w' : World} {A A' : Nat → Prop} : ∀ {cs : List C} {vs : List Value}, cs.any C.isSl = false → All2 (CR w A) cs vs → All2 (CR w' A') cs vs
  | [], [], _, _ => trivial
  | c :: cs, v :: vs, hs, h => by
    simp only [List.any_cons, Bool.or_eq_false_iff] at hs
    exact ⟨CR.noSl c v hs.1 h.1, All2.noSl hs.2 h.2⟩
  | [], _ :: _, _, h => h.elim
  | _ :: _, [], _, h => h.elim
theorem RetR1.noSl {w w' : World} {A A' : Nat → Prop} (hA : ∀ b, w.heap.size ≤ b → A b → A' b) : ∀ (r : Ret1) (i : Info) (u : Value), r.hasSl = false → RetR1 w w' A r i u → RetR1 w w' A' r i u
  | .val c, _, _, hs, h => CR.noSl c _ hs h
  | .agg cs, _, _, hs, ⟨vs, h1, h2⟩ => ⟨vs, h1, All2.noSl hs h2⟩
  | .fresh e xs nilE, i, u, hs, ⟨h1, h2, h3⟩ => by
    refine ⟨?_, h2, h3⟩
    cases i with
    | emp => exact h1
    | «at» b c =>
      obtain ⟨g0, g1, cur, et, g2, g3, g4⟩ := h1
      exact ⟨g0, g1, cur, et, g2, g3, fun i x hx => VRs.noSl e x _ hs (g4 i x hx)⟩
  | .lay e xs, i, u, hs, h => CR.mono (fun b hb => ⟨⟨hA b hb.2 hb.1, hb.2⟩, rfl⟩) (.sl e xs false) u h
theorem RetR1.mono {w w' : World} {A A' : Nat → Prop} (hA : ∀ b, A b → A' b) (r : Ret1) (i : Info) (u : Value) (h : RetR1 w w' A r i u) : RetR1 w w' A' r i u := by
  have hA' : ∀ b, A b → A' b ∧ w'.heap[b]? = w'.heap[b]? := fun b hb => ⟨hA b hb, rfl⟩
  cases r with
  | val c => exact CR.mono hA' c u h
  | agg cs => obtain ⟨vs, h1, h2⟩ := h; exact ⟨vs, h1, h2.mono (CR.mono hA')⟩
  | fresh e xs nilE => exact ⟨objR.mono hA' _ i (fun _ _ _ => rfl) h.1, h.2⟩
  | lay e xs => exact CR.mono (fun b hb => ⟨⟨hA b hb.1, hb.2⟩, rfl⟩) (.sl e xs false) u h
theorem RetRs.map {w w' : World} {A A' : Nat → Prop} : ∀ {rs : List Ret1} {is : List Info} {us : List Value}, (∀ r ∈ rs, ∀ i u, RetR1 w w' A r i u → RetR1 w w' A' r i u) → RetRs w w' A rs is us → RetRs w w' A' rs is us
  | [], [], [], _, _ => trivial
  | r :: rs, i :: is, u :: us, f, h => ⟨f r (by simp) i u h.1, h.2.1, RetRs.map (fun r' hr => f r' (by simp [hr])) h.2.2⟩
  | [], [], _ :: _, _, h => h.elim
  | [], _ :: _, _, _, h => h.elim
  | _ :: _, [], _, _, h => h.elim
  | _ :: _, _ :: _, [], _, h => h.elim
/-! ### Many new things at once -/
abbrev Ent := Nat × O × Info
def gAll (γ : Gam) : List Ent → Gam
  | [] => γ
  | (k, _, i) :: r => gset (gAll γ r) k i
def obsOf : List Ent → List (Nat × O)
  | [] => []
  | (k, o, _) :: r => (k, o) :: obsOf r
theorem beq_false {j k : Nat} (h : j ≠ k) : Nat.beq j k = false := by
  cases hb : Nat.beq j k
  · rfl
  · exact absurd (Nat.eq_of_beq_eq_true hb) h
theorem gAll_cases {γ : Gam} {H : Heap} : ∀ (L : List Ent) (j : Nat), (∃ p ∈ L, p.1 = j ∧ gAll γ L j = some p.2.2 ∧ updAll H (obsOf L) j = some p.2.1) ∨
    ((∀ p ∈ L, p.1 ≠ j) ∧ gAll γ L j = γ j ∧ updAll H (obsOf L) j = H j)
  | [], j => .inr ⟨by simp, rfl, rfl⟩
  | (k, o, i) :: r, j => by
    by_cases h : j = k
    · subst h
      exact .inl ⟨(j, o, i), by simp, rfl, by simp [gAll, gset], by simp [updAll, obsOf, upd]⟩
    · rcases gAll_cases (γ := γ) (H := H) r j with ⟨p, hp, h1, h2, h3⟩ | ⟨h1, h2, h3⟩
      · exact .inl ⟨p, by simp [hp], h1, by simp [gAll, gset, h, h2], by simp [updAll, obsOf, upd, beq_false h, h3]⟩
      · refine .inr ⟨?_, by simp [gAll, gset, h, h2], by simp [updAll, obsOf, upd, beq_false h, h3]⟩
        intro p hp
        rcases List.mem_cons.1 hp with rfl | hp
        · exact fun e => h e.symm
        · exact h1 p hp
/-- The new things: each in a block of its own, its data in blocks of which A holds. -/
structure News (x : Cx) (γ : Gam) (w w' : World) (L : List Ent) : Prop where
  rng : ∀ p ∈ L, ∀ b c, p.2.2 = .at b c → w.heap.size ≤ b ∧ b < w'.heap.size
  dis : L.Pairwise fun p q => p.1 ≠ q.1 ∧ ∀ b c c', p.2.2 = .at b c → q.2.2 ≠ .at b c'
theorem pair_eq {α : Type} {R : α → α → Prop} : ∀ {l : List α}, l.Pairwise R → ∀ {p q : α}, p ∈ l → q ∈ l → p = q ∨ R p q ∨ R q p
  | [], _, p, q, hp, _ => by simp at hp
  | a :: l, h, p, q, hp, hq => by
    rw [List.pairwise_cons] at h
    rcases List.mem_cons.1 hp with h1 | h1 <;> rcases List.mem_cons.1 hq with h2 | h2
    · exact .inl (h1.trans h2.symm)
    · exact .inr (.inl (h1 ▸ h.1 q h2))
    · exact .inr (.inr (h2 ▸ h.1 p h1))
    · exact pair_eq h.2 h1 h2
theorem News.at_ {x : Cx} {γ : Gam} {H : Heap} {w w' : World} {L : List Ent} (h : News x γ w w' L) {p : Ent} (hp : p ∈ L) : gAll γ L p.1 = some p.2.2 ∧ updAll H (obsOf L) p.1 = some p.2.1 := by
  rcases gAll_cases (γ := γ) (H := H) L p.1 with ⟨q, hq, h1, h2, h3⟩ | ⟨h1, _, _⟩
  · rcases pair_eq h.dis hp hq with rfl | h4 | h4
    · exact ⟨h2, h3⟩
    · exact absurd h1.symm h4.1
    · exact absurd h1 h4.1
  · exact absurd rfl (h1 p hp)
/-- The blocks that hold data behind it all. -/
theorem News.av {x : Cx} {γ : Gam} {w w' : World} {L : List Ent} (h : News x γ w w' L) (g : Grows w w') (hB : x.B ≤ w.heap.size) (b : Nat) (hb : newA w w' (Av x γ w) (L.map (·.2.2)) b)
    (hold : ∀ k c, γ k = some (.at b c) → b < w.heap.size) : Av x (gAll γ L) w' b := by
  refine ⟨hb.1, fun hlt => (hb.2.1 (by omega)).2.1 hlt, fun k c hk => ?_⟩
  rcases gAll_cases (γ := γ) (H := emp) L k with ⟨p, hp, h1, h2, _⟩ | ⟨_, h2, _⟩
  · rw [h2] at hk
    exact hb.2.2 p.2.2 (List.mem_map.2 ⟨p, hp, rfl⟩) c (by simpa using hk)
  · rw [h2] at hk
    exact (hb.2.1 (hold k c hk)).2.2 k c hk
theorem Inv.news {x : Cx} {γ : Gam} {H : Heap} {w w' : World} {L : List Ent} (hi : Inv x γ H w) (g : Grows w w') (h : News x γ w w' L) (hlo : ∀ p ∈ L, p.1 < oslLo) (hno : ∀ p ∈ L, NoOsl p.2.1)
    (hob : ∀ p ∈ L, objR w' (newA w w' (Av x γ w) (L.map (·.2.2))) p.2.1 p.2.2) :
    Inv x (gAll γ L) (updAll H (obsOf L)) w' ∧
    (∀ y uu, (∀ p ∈ obsOf L, refs p.1 y = false) → VR γ w (Av x γ w) H y uu → VR (gAll γ L) w' (Av x (gAll γ L) w') (updAll H (obsOf L)) y uu) := by
  have hav : ∀ b, newA w w' (Av x γ w) (L.map (·.2.2)) b → Av x (gAll γ L) w' b ∧ w'.heap[b]? = w'.heap[b]? := fun b hb =>
    ⟨h.av g hi.size b hb (fun k c hk => (hi.rng k b c hk).2), rfl⟩
  have hold : ∀ b, Av x γ w b → Av x (gAll γ L) w' b ∧ w'.heap[b]? = w.heap[b]? := fun b hb => by
    refine ⟨(hav b ⟨Nat.lt_of_lt_of_le hb.1 g.size, fun _ => hb, fun i hm c hic => ?_⟩).1, g.blk b hb.1⟩
    obtain ⟨p, hp, rfl⟩ := List.mem_map.1 hm
    have := (h.rng p hp b c hic).1
    have := hb.1
    omega
  refine ⟨⟨Nat.le_trans hi.size g.size, g.os.trans hi.os, g.tape.trans hi.tape, g.output.trans hi.output,
    fun b hb hm => (g.blk b (Nat.lt_of_lt_of_le hb hi.size)).trans (hi.blk b hb hm), ?_, ?_, ?_, ?pin, ?lnk⟩, ?_⟩
  case lnk =>
    intro k cs off b c ob h1 h2 h3 h4
    rcases gAll_cases (γ := γ) (H := H) L (hk k off) with ⟨p, hpm, g1, _, _⟩ | ⟨_, g2, g3⟩
    · have := hlo p hpm
      have := hk_lo k off
      omega
    · rw [g3] at h4
      rcases gAll_cases (γ := γ) (H := H) L k with ⟨p, hpm, e1, e2, e3⟩ | ⟨_, e2, e3⟩
      · rw [e3] at h1
        exact absurd h2 (hno p hpm cs off (by simpa using h1))
      · rw [e2] at h3
        rw [e3] at h1
        obtain ⟨i, f1, f2⟩ := hi.lnk k cs off b c ob h1 h2 h3 h4
        exact ⟨i, g2.trans f1, f2.mono (g.blk b (hi.rng k b c h3).2) g3⟩
  case pin =>
    intro k i hp hH
    rcases gAll_cases (γ := γ) (H := H) L k with ⟨p, hpm, h1, h2, h3⟩ | ⟨h1, h2, h3⟩
    · have := x.pinlo k i hp
      have := hlo p hpm
      have := osl_pin
      omega
    · rw [h3] at hH
      rw [h2]
      exact hi.pin k i hp hH
  · intro k i hk
    rcases gAll_cases (γ := γ) (H := H) L k with ⟨p, hp, h1, h2, h3⟩ | ⟨h1, h2, h3⟩
    · rw [h2] at hk
      cases hk
      exact ⟨_, h3, objR.mono hav _ _ (fun _ _ _ => rfl) (hob p hp)⟩
    · rw [h2] at hk
      obtain ⟨ob, h4, h5⟩ := hi.own k i hk
      exact ⟨ob, h3.trans h4, objR.mono hold ob i (fun b c hb => g.blk b (hi.rng k b c (hb ▸ hk)).2) h5⟩
  · intro k b c hk
    rcases gAll_cases (γ := γ) (H := H) L k with ⟨p, hp, h1, h2, h3⟩ | ⟨h1, h2, h3⟩
    · rw [h2] at hk
      have h4 := h.rng p hp b c (by simpa using hk)
      have := hi.size
      exact ⟨.inl (by omega), h4.2⟩
    · rw [h2] at hk
      exact ⟨(hi.rng k b c hk).1, Nat.lt_of_lt_of_le (hi.rng k b c hk).2 g.size⟩
  · intro k k' b c c' hk hk'
    rcases gAll_cases (γ := γ) (H := H) L k with ⟨p, hp, h1, h2, h3⟩ | ⟨h1, h2, h3⟩ <;> rcases gAll_cases (γ := γ) (H := H) L k' with ⟨q, hq, g1, g2, g3⟩ | ⟨g1, g2, g3⟩
    · rw [h2] at hk
      rw [g2] at hk'
      rcases pair_eq h.dis hp hq with rfl | h4 | h4
      · exact h1.symm.trans g1
      · exact absurd (by simpa using hk') (h4.2 b c c' (by simpa using hk))
      · exact absurd (by simpa using hk) (h4.2 b c' c (by simpa using hk'))
    · rw [h2] at hk
      rw [g2] at hk'
      have h4 := (h.rng p hp b c (by simpa using hk)).1
      have h5 := (hi.rng k' b c' hk').2
      omega
    · rw [h2] at hk
      rw [g2] at hk'
      have h4 := (h.rng q hq b c' (by simpa using hk')).1
      have h5 := (hi.rng k b c hk).2
      omega
    · rw [h2] at hk
      rw [g2] at hk'
      exact hi.inj k k' b c c' hk hk'
  · intro y uu hr hv
    have keys : ∀ j, j ∉ L.map (·.1) → (∀ p ∈ L, p.1 ≠ j) := fun j hj p hp e => hj (List.mem_map.2 ⟨p, hp, e⟩)
    have hmem : ∀ (M : List Ent) (k : Nat), k ∈ M.map (·.1) → ∃ o, (k, o) ∈ obsOf M := by
      intro M
      induction M with
      | nil => intro k hk; simp at hk
      | cons a M ih =>
        intro k hk
        obtain ⟨k0, o0, i0⟩ := a
        simp only [List.map_cons, List.mem_cons] at hk
        rcases hk with rfl | hk
        · exact ⟨o0, by simp [obsOf]⟩
        · obtain ⟨o, ho⟩ := ih k hk
          exact ⟨o, by simp [obsOf, ho]⟩
    refine VR.key (ks := L.map (·.1)) ?_ ?_ y uu ?_ (VR.mono hold y uu hv)
    · intro j hj
      rcases gAll_cases (γ := γ) (H := H) L j with ⟨p, hp, h1, _⟩ | ⟨_, h2, _⟩
      · exact absurd h1 (keys j hj p hp)
      · exact h2
    · intro j hj
      rcases gAll_cases (γ := γ) (H := H) L j with ⟨p, hp, h1, _⟩ | ⟨_, _, h2⟩
      · exact absurd h1 (keys j hj p hp)
      · exact h2
    · intro k hk
      obtain ⟨o, ho⟩ := hmem L k hk
      exact hr _ ho
theorem obsOf_mem : ∀ {L : List Ent} {p : Ent}, p ∈ L → (p.1, p.2.1) ∈ obsOf L
  | [], p, h => by cases h
  | (k, o, i) :: L, p, h => by
    simp only [obsOf, List.mem_cons]
    rcases List.mem_cons.1 h with rfl | h
    · exact .inl rfl
    · exact .inr (obsOf_mem h)
/-! ### What a call gives back, in the caller -/
def ret1L (key : Nat) (r : Ret1) (i : Info) : List Ent :=
  match r with
  | .fresh e xs nilE => [(key, .arr e xs nilE, i)]
  | _ => []
def retL (key : Nat) : List Ret1 → List Info → List Ent
  | r :: rs, i :: is => ret1L (key + 10000) r i ++ retL (key + 10000) rs is
  | _, _ => []
theorem obsOf_append : ∀ (a b : List Ent), obsOf (a ++ b) = obsOf a ++ obsOf b
  | [], _ => rfl
  | (k, o, i) :: a, b => by simp [obsOf, obsOf_append a b]
theorem obsOf_ret1L (key : Nat) (r : Ret1) (i : Info) : obsOf (ret1L key r i) = retO key r := by
  cases r <;> rfl
theorem obsOf_retL : ∀ (key : Nat) (rs : List Ret1) (is : List Info), rs.length = is.length → obsOf (retL key rs is) = retOs key rs
  | _, [], [], _ => rfl
  | key, r :: rs, i :: is, h => by simp [retL, retOs, obsOf_append, obsOf_ret1L, obsOf_retL (key + 10000) rs is (by simpa using h)]
  | _, [], _ :: _, h => by simp at h
  | _, _ :: _, [], h => by simp at h
theorem RetRs.lengths {w w' : World} {A : Nat → Prop} : ∀ {rs : List Ret1} {is : List Info} {us : List Value}, RetRs w w' A rs is us → rs.length = is.length ∧ rs.length = us.length
  | [], [], [], _ => ⟨rfl, rfl⟩
  | r :: rs, i :: is, u :: us, h => by
    have := RetRs.lengths h.2.2
    simp [← this.1, ← this.2]
  | [], [], _ :: _, h => h.elim
  | [], _ :: _, _, h => h.elim
  | _ :: _, [], _, h => h.elim
  | _ :: _, _ :: _, [], h => h.elim
theorem ret1L_arr {key : Nat} {r : Ret1} {i : Info} {p : Ent} (h : p ∈ ret1L key r i) : NoOsl p.2.1 := by
  cases r <;> simp [ret1L] at h
  subst h
  exact NoOsl.arr
theorem retL_arr : ∀ {key : Nat} {rs : List Ret1} {is : List Info} {p : Ent}, p ∈ retL key rs is → NoOsl p.2.1
  | key, r :: rs, i :: is, p, h => by
    simp only [retL, List.mem_append] at h
    rcases h with h | h
    · exact ret1L_arr h
    · exact retL_arr h
  | _, [], _, p, h => by simp [retL] at h
  | _, _ :: _, [], p, h => by simp [retL] at h
theorem retL_mem : ∀ {key : Nat} {rs : List Ret1} {is : List Info} {p : Ent}, p ∈ retL key rs is → key + 10000 ≤ p.1 ∧ p.2.2 ∈ is
  | key, r :: rs, i :: is, p, h => by
    simp only [retL, List.mem_append] at h
    rcases h with h | h
    · cases r <;> simp [ret1L] at h
      subst h
      simp
    · have := retL_mem h
      exact ⟨by omega, by simp [this.2]⟩
  | _, [], _, p, h => by simp [retL] at h
  | _, _ :: _, [], p, h => by simp [retL] at h
theorem RetRs.rng {x : Cx} {γ : Gam} {w w' : World} {A : Nat → Prop} : ∀ {rs : List Ret1} {is : List Info} {us : List Value} {key : Nat}, RetRs w w' A rs is us →
    (∀ p ∈ retL key rs is, (∀ b c, p.2.2 = .at b c → w.heap.size ≤ b ∧ b < w'.heap.size) ∧ objR w' A p.2.1 p.2.2)
  | [], [], [], key, _, p, hp => by simp [retL] at hp
  | r :: rs, i :: is, u :: us, key, h, p, hp => by
    simp only [retL, List.mem_append] at hp
    rcases hp with hp | hp
    · cases r <;> simp [ret1L] at hp
      subst hp
      exact ⟨h.1.2.2, h.1.1⟩
    · exact RetRs.rng (x := x) (γ := γ) h.2.2 p hp
  | [], [], _ :: _, _, h, _, _ => h.elim
  | [], _ :: _, _, _, h, _, _ => h.elim
  | _ :: _, [], _, _, h, _, _ => h.elim
  | _ :: _, _ :: _, [], _, h, _, _ => h.elim
theorem RetRs.dis {w w' : World} {A : Nat → Prop} : ∀ {rs : List Ret1} {is : List Info} {us : List Value} {key : Nat}, RetRs w w' A rs is us →
    (retL key rs is).Pairwise fun p q => p.1 ≠ q.1 ∧ ∀ b c c', p.2.2 = .at b c → q.2.2 ≠ .at b c'
  | [], [], [], key, _ => by simp [retL]
  | r :: rs, i :: is, u :: us, key, h => by
    simp only [retL]
    have ih := RetRs.dis (key := key + 10000) h.2.2
    cases r with
    | fresh e xs nilE =>
      simp only [ret1L, List.singleton_append, List.pairwise_cons]
      refine ⟨fun q hq => ?_, ih⟩
      have := retL_mem hq
      exact ⟨by show key + 10000 ≠ q.1; omega, fun b c c' hb => h.2.1 b c hb _ this.2 c'⟩
    | val c => simpa [ret1L] using ih
    | agg cs => simpa [ret1L] using ih
    | lay e xs => simpa [ret1L] using ih
  | [], [], _ :: _, _, h => h.elim
  | [], _ :: _, _, _, h => h.elim
  | _ :: _, [], _, _, h => h.elim
  | _ :: _, _ :: _, [], _, h => h.elim
theorem ret1_VR {x : Cx} {γ : Gam} {H : Heap} {w w' : World} {A : Nat → Prop} {L : List Ent} {r : Ret1} {i : Info} {u : Value} {key : Nat} (hn : News x γ w w' L) (hA : ∀ b, A b → Av x (gAll γ L) w' b)
    (h : RetR1 w w' A r i u) (hm : ∀ p ∈ ret1L key r i, p ∈ L) : VR1 (gAll γ L) w' (Av x (gAll γ L) w') (updAll H (obsOf L)) (retV key r) u := by
  have hA' : ∀ b, A b → Av x (gAll γ L) w' b ∧ w'.heap[b]? = w'.heap[b]? := fun b hb => ⟨hA b hb, rfl⟩
  cases r with
  | val c => exact CR.mono hA' c u h
  | agg cs =>
    obtain ⟨vs, h1, h2⟩ := h
    exact ⟨vs, h1, h2.mono (CR.mono hA')⟩
  | fresh e xs nilE =>
    have hp := hm (key, .arr e xs nilE, i) (by simp [ret1L])
    have h1 := hn.at_ (H := H) hp
    exact ⟨i, e, xs, nilE, h1.1, h1.2, h.2.1⟩
  | lay e xs => exact CR.mono (fun b hb => ⟨hA b hb.1, rfl⟩) (.sl e xs false) u h
theorem RetRs.VRs {x : Cx} {γ : Gam} {H : Heap} {w w' : World} {A : Nat → Prop} {L : List Ent} (hn : News x γ w w' L) (hA : ∀ b, A b → Av x (gAll γ L) w' b) :
    ∀ {rs : List Ret1} {is : List Info} {us : List Value} {key : Nat}, RetRs w w' A rs is us → (∀ p ∈ retL key rs is, p ∈ L) →
      All2 (VR1 (gAll γ L) w' (Av x (gAll γ L) w') (updAll H (obsOf L))) (retVs key rs) us
  | [], [], [], key, _, _ => trivial
  | r :: rs, i :: is, u :: us, key, h, hm =>
    ⟨ret1_VR hn hA h.1 (fun p hp => hm p (by simp [retL, hp])), RetRs.VRs hn hA h.2.2 (fun p hp => hm p (by simp [retL, hp]))⟩
  | [], [], _ :: _, _, h, _ => h.elim
  | [], _ :: _, _, _, h, _ => h.elim
  | _ :: _, [], _, _, h, _ => h.elim
  | _ :: _, _ :: _, [], _, h, _ => h.elim
theorem Res.call {x : Cx} {γ : Gam} {H : Heap} {w w' : World} {A0 : Nat → Prop} {ret : Ret} {u : Value} {key : Nat} (hi : Inv x γ H w) (g : Grows w w')
    (hA0 : (∀ b, b < w.heap.size → A0 b → Av x γ w b) ∨ ret.any Ret1.hasSl = false) (h : RetR w w' A0 ret u) : Res x γ H w (retAll key ret).1 (retAll key ret).2 u w' := by
  intro hlo
  obtain ⟨is, us, rfl, h0⟩ := h
  have h1 : RetRs w w' (newA w w' (Av x γ w) is) ret is us := by
    rcases hA0 with hA0 | hA0
    · exact h0.map fun r hr i u hx => hx.mono fun b hb => ⟨hb.1, fun hlt => hA0 b hlt (hb.2.1 hlt), hb.2.2⟩
    · refine h0.map fun r hr i u hx => RetR1.noSl (fun b hlt hb => ⟨hb.1, fun h => absurd h (by omega), hb.2.2⟩) r i u ?_ hx
      cases hs : r.hasSl
      · rfl
      · have : ret.any Ret1.hasSl = true := List.any_eq_true.2 ⟨r, hr, hs⟩
        rw [hA0] at this
        cases this
  have hlen := h1.lengths
  have main : ∀ (L : List Ent), (∀ p ∈ obsOf L, p.1 < oslLo) → News x γ w w' L → (∀ p ∈ L, objR w' (newA w w' (Av x γ w) is) p.2.1 p.2.2) → (∀ p ∈ L, p.2.2 ∈ is) → (∀ p ∈ L, NoOsl p.2.1) →
      (Inv x (gAll γ L) (updAll H (obsOf L)) w' ∧ (∀ y uu, (∀ p ∈ obsOf L, refs p.1 y = false) → VR γ w (Av x γ w) H y uu → VR (gAll γ L) w' (Av x (gAll γ L) w') (updAll H (obsOf L)) y uu)) ∧
      ∀ b, newA w w' (Av x γ w) is b → Av x (gAll γ L) w' b := by
    intro L hlo hn hob hsub hno
    have hw : ∀ b, newA w w' (Av x γ w) is b → newA w w' (Av x γ w) (L.map (·.2.2)) b := fun b hb => ⟨hb.1, hb.2.1, fun i hm => by
      obtain ⟨p, hp, rfl⟩ := List.mem_map.1 hm
      exact hb.2.2 _ (hsub p hp)⟩
    refine ⟨hi.news g hn (fun p hp => hlo _ (obsOf_mem hp)) hno fun p hp => objR.mono (fun b hb => ⟨hw b hb, rfl⟩) _ _ (fun _ _ _ => rfl) (hob p hp), fun b hb => ?_⟩
    exact hn.av g hi.size b (hw b hb) (fun k c hk => (hi.rng k b c hk).2)
  match ret, is, us, h1, hlen with
  | [r], [i], [u], h1, _ =>
    have hn : News x γ w w' (ret1L key r i) := by
      refine ⟨fun p hp => ?_, ?_⟩
      · cases r <;> simp [ret1L] at hp
        subst hp
        exact h1.1.2.2
      · cases r <;> simp [ret1L]
    obtain ⟨⟨h2, h3⟩, h4⟩ := main (ret1L key r i) (by rw [obsOf_ret1L]; exact hlo) hn (fun p hp => by
      cases r <;> simp [ret1L] at hp
      subst hp
      exact h1.1.1) (fun p hp => by
      cases r <;> simp [ret1L] at hp
      subst hp
      simp) (fun p hp => ret1L_arr hp)
    have hv := ret1_VR (H := H) (key := key) hn h4 h1.1 (fun p hp => hp)
    rw [obsOf_ret1L] at h2 h3 hv
    refine ⟨_, h2, ?_, h3⟩
    have : (retAll key [r]).1 = retV key r := rfl
    rw [this]
    cases r <;> exact hv
  | [], [], [], h1, _ =>
    exact ⟨γ, hi.grows g, ⟨[], rfl, trivial⟩, fun y uu _ hv => VR.mono (Av.grows g) y uu hv⟩
  | r :: r' :: rs, i :: i' :: is, u :: u' :: us, h1, hlen =>
    have hn : News x γ w w' (retL key (r :: r' :: rs) (i :: i' :: is)) := ⟨fun p hp => (RetRs.rng (x := x) (γ := γ) h1 p hp).1, h1.dis⟩
    obtain ⟨⟨h2, h3⟩, h4⟩ := main _ (by rw [obsOf_retL _ _ _ hlen.1]; exact hlo) hn (fun p hp => (RetRs.rng (x := x) (γ := γ) h1 p hp).2) (fun p hp => (retL_mem hp).2) (fun p hp => retL_arr hp)
    have hv := RetRs.VRs (H := H) (key := key) hn h4 h1 (fun p hp => hp)
    rw [obsOf_retL _ _ _ hlen.1] at h2 h3 hv
    exact ⟨_, h2, ⟨_, rfl, hv⟩, h3⟩
end Go.Vi
/-
  Vi: '==' on structs of numbers and bools.
-/
set_option linter.unusedVariables false
set_option linter.unusedSimpArgs false
namespace Go.Vi
def eqFs (f : TypeId → Sh → Bool) : Nat → List Field → Sh → Bool
  | off, [a], s => Nat.beq a.offset off && decide (a.name ≠ "_") && f a.type s
  | off, a :: b :: r, .pair s s' => Nat.beq a.offset off && decide (a.name ≠ "_") && f a.type s && eqFs f (off + s.nc) (b :: r) s'
  | _, _, _ => false
/-- A place of an array, as a field. -/
def fieldAt (e : TypeId) (c i : Nat) : Field := { name := "x", type := e, offset := i * c, embedded := false, tag := "", pkgPath := "", byteOffset := 0 }
def eqB (P : Program) : Nat → TypeId → Sh → Bool
  | 0, _, _ => false
  | n + 1, t, s =>
    baseB P t s &&
    match P.underlying t, s with
    | some (.int _), .int _ => true
    | some .bool, .bool => true
    | some (.struct fs), .pair a b => !P.stoodInHeld t && Nat.ble 2 fs.size && eqFs (eqB P n) 0 fs.toList (.pair a b)
    | some (.array k e), .pair a b => (P.info? e).isSome && eqFs (eqB P n) 0 ((List.range k).map (fieldAt e (P.cellsOf e))) (.pair a b)
    | _, _ => false
theorem eqCs_append : ∀ {a b c d : List C} {r : Bool}, a.length = b.length → eqCs (a ++ c) (b ++ d) = some r → ∃ p q, eqCs a b = some p ∧ eqCs c d = some q ∧ r = (p && q)
  | [], [], c, d, r, _, h => ⟨true, r, rfl, by simpa using h, by simp⟩
  | x :: a, y :: b, c, d, r, hl, h => by
    have hl' : a.length = b.length := by simpa using hl
    cases x with
    | int k m =>
      cases y <;> simp only [List.cons_append, eqCs] at h
      all_goals first | (cases h; done) | skip
      rename_i k' m'
      split at h
      · rename_i hk
        simp only [Option.map_eq_some_iff] at h
        obtain ⟨r', h1, rfl⟩ := h
        obtain ⟨p, q, h2, h3, rfl⟩ := eqCs_append hl' h1
        exact ⟨(m == m') && p, q, by simp [eqCs, hk, h2], h3, by simp [Bool.and_assoc]⟩
      · cases h
    | bool m =>
      cases y <;> simp only [List.cons_append, eqCs] at h
      all_goals first | (cases h; done) | skip
      rename_i m'
      simp only [Option.map_eq_some_iff] at h
      obtain ⟨r', h1, rfl⟩ := h
      obtain ⟨p, q, h2, h3, rfl⟩ := eqCs_append hl' h1
      exact ⟨(m == m') && p, q, by simp [eqCs, h2], h3, by simp [Bool.and_assoc]⟩
    | str m => simp [eqCs] at h
    | sl e xs t => simp [eqCs] at h
    | osl => simp [eqCs] at h
  | [], _ :: _, _, _, _, hl, _ => by simp at hl
  | _ :: _, [], _, _, _, hl, _ => by simp at hl
theorem ofC_length : ∀ {s : Sh} {cs : List C}, (ofC s cs).isSome = true → cs.length = s.nc
  | .int k, cs, h => by
    match cs, h with
    | [.int _ _], _ => rfl
  | .bool, cs, h => by
    match cs, h with
    | [.bool _], _ => rfl
  | .str, cs, h => by
    match cs, h with
    | [.str _], _ => rfl
  | .unit, cs, h => by
    match cs, h with
    | [], _ => rfl
  | .sl e, cs, h => by
    match cs, h with
    | [.sl _ _ _], _ => rfl
  | .pair a b, cs, h => by
    simp only [ofC] at h
    split at h
    · rename_i x y h1 h2
      have l1 := ofC_length (s := a) (cs := cs.take a.nc) (by simp [h1])
      have l2 := ofC_length (s := b) (cs := cs.drop a.nc) (by simp [h2])
      simp only [List.length_take, List.length_drop] at l1 l2
      simp only [Sh.nc]
      omega
    · cases h
theorem ofC_pair {a b : Sh} {cs : List C} (h : (ofC (.pair a b) cs).isSome = true) : (ofC a (cs.take a.nc)).isSome = true ∧ (ofC b (cs.drop a.nc)).isSome = true := by
  simp only [ofC] at h
  split at h
  · rename_i x y h1 h2
    exact ⟨by simp [h1], by simp [h2]⟩
  · cases h
section
variable {P : Program} {w : World} {A : Nat → Prop}
/-- The value that is made of cells. -/
def mkVal (s : Sh) (vs : List Value) : Value := if s.agg = true then .agg vs.toArray else vs.getD 0 undef
theorem run_part {t : TypeId} {s : Sh} (hb : Base P t s) {vs : List Value} {off : Nat} (hl : off + s.nc ≤ vs.length) :
    (part t vs.toArray off).run P w = .ok (mkVal s ((vs.drop off).take s.nc)) w := by
  obtain ⟨i, d, z, hi, hd, hsz, hby, hz, hzz, ha⟩ := hb.ex
  unfold part mkVal
  simp only [Sem.run_bind, run_isAgg hd, Result.andThen_ok, ha]
  by_cases hag : s.agg = true
  · simp only [hag, if_true, Sem.run_bind, run_sizeOf' hi, Result.andThen_ok, Sem.run_pure, hsz]
    congr 2
    simp [List.extract_eq_take_drop]
  · have h1 := nc_one (by simpa using hag)
    have hlt : off < vs.length := by omega
    simp only [hag, Bool.false_eq_true, if_false]
    have : vs.toArray[off]? = some vs[off] := by simp [hlt]
    simp only [this, Sem.run_pure, h1]
    congr 1
    simp [List.getD, List.getElem?_take, List.getElem?_drop, hlt]
theorem eqFs_run {f : TypeId → Sh → Bool} {d : Nat} (hf : ∀ t s, f t s = true → Base P t s ∧ ∀ (cs cs' : List C) (vs vs' : List Value) (b : Bool), All2 (CR w A) cs vs → All2 (CR w A) cs' vs' → (ofC s cs).isSome = true → (ofC s cs').isSome = true →
      eqCs cs cs' = some b → (Op.equalIn d t (mkVal s vs) (mkVal s vs')).run P w = .ok b w) {us us' : List Value} {n : Nat} :
    ∀ (fs : List Field) (off : Nat) (s : Sh), eqFs f off fs s = true → ∀ (cs cs' : List C) (b : Bool), All2 (CR w A) cs ((us.drop off).take s.nc) → All2 (CR w A) cs' ((us'.drop off).take s.nc) → (ofC s cs).isSome = true → (ofC s cs').isSome = true →
      off + s.nc = us.length → off + s.nc = us'.length → eqCs cs cs' = some b → (Op.eqFields d us.toArray us'.toArray fs).run P w = .ok b w
  | [], off, s, h, _, _, _, _, _, _, _, _, _, _ => by simp [eqFs] at h
  | [a], off, s, h, cs, cs', b, h1, h2, hl, hl', hs, hs', hb => by
    simp only [eqFs, Bool.and_eq_true, decide_eq_true_eq] at h
    obtain ⟨⟨h3, h4⟩, h5⟩ := h
    obtain ⟨hba, hrun⟩ := hf _ _ h5
    have ho := Nat.eq_of_beq_eq_true h3
    have p1 := run_part (w := w) hba (vs := us) (off := off) (by omega)
    have p2 := run_part (w := w) hba (vs := us') (off := off) (by omega)
    have p3 := hrun cs cs' _ _ b h1 h2 hl hl' hb
    rw [Op.eqFields, if_pos h4, ho, Sem.run_bind, p1, Result.andThen_ok, Sem.run_bind, p2, Result.andThen_ok, Sem.run_bind, p3, Result.andThen_ok]
    cases b <;> simp [Op.eqFields]
  | a :: a' :: r, off, s, h, cs, cs', b, h1, h2, hl, hl', hs, hs', hb => by
    cases s with
    | pair s s' =>
      simp only [eqFs, Bool.and_eq_true, decide_eq_true_eq] at h
      obtain ⟨⟨⟨h3, h4⟩, h5⟩, h6⟩ := h
      obtain ⟨hba, hrun⟩ := hf _ _ h5
      have ho := Nat.eq_of_beq_eq_true h3
      obtain ⟨o1, o2⟩ := ofC_pair hl
      obtain ⟨o1', o2'⟩ := ofC_pair hl'
      have hl := ofC_length hl
      have hl' := ofC_length hl'
      simp only [Sh.nc] at hl hl' hs hs' h1 h2
      rw [← List.take_append_drop s.nc cs, ← List.take_append_drop s.nc cs'] at hb
      obtain ⟨p, q, hp, hq, rfl⟩ := eqCs_append (by simp; omega) hb
      have t1 := h1.take s.nc
      have t2 := h2.take s.nc
      rw [List.take_take, Nat.min_eq_left (by omega)] at t1 t2
      have d1 := h1.drop s.nc
      have d2 := h2.drop s.nc
      rw [List.drop_take, List.drop_drop, Nat.add_sub_cancel_left] at d1 d2
      have r1 := hrun _ _ _ _ p t1 t2 o1 o1' hp
      have r2 := eqFs_run hf (n := n) (a' :: r) (off + s.nc) s' h6 (cs.drop s.nc) (cs'.drop s.nc) q d1 d2 o2 o2' (by omega) (by omega) hq
      have p1 := run_part (w := w) hba (vs := us) (off := off) (by omega)
      have p2 := run_part (w := w) hba (vs := us') (off := off) (by omega)
      rw [Op.eqFields, if_pos h4, ho, Sem.run_bind, p1, Result.andThen_ok, Sem.run_bind, p2, Result.andThen_ok, Sem.run_bind, r1, Result.andThen_ok]
      cases p
      · simp
      · simp [r2]
    | _ => simp [eqFs] at h
theorem eqItems_fields (d : Nat) (e : TypeId) (c : Nat) (xs ys : Array Value) : ∀ (is : List Nat), Op.eqItems d e c xs ys is = Op.eqFields d xs ys (is.map (fieldAt e c))
  | [] => rfl
  | i :: is => by
    rw [List.map_cons, Op.eqFields, if_pos (by simp [fieldAt]), Op.eqItems, eqItems_fields d e c xs ys is]
    rfl
theorem eqB_run : ∀ (n : Nat) (t : TypeId) (s : Sh), eqB P n t s = true → Base P t s ∧ ∀ (d : Nat) (cs cs' : List C) (vs vs' : List Value) (b : Bool), All2 (CR w A) cs vs → All2 (CR w A) cs' vs' → (ofC s cs).isSome = true → (ofC s cs').isSome = true →
      eqCs cs cs' = some b → (Op.equalIn (n + d) t (mkVal s vs) (mkVal s vs')).run P w = .ok b w
  | 0, _, _, h => by simp [eqB] at h
  | n + 1, t, s, h => by
    simp only [eqB, Bool.and_eq_true] at h
    obtain ⟨h1, h2⟩ := h
    refine ⟨baseB_base h1, ?_⟩
    intro d cs cs' vs vs' b hv hv' hl hl' hb
    split at h2
    · rename_i k k' hu
      match cs, cs', hl, hl' with
      | [.int _ _], [.int _ _], _, _ =>
        obtain ⟨u, rfl, hu1⟩ := hv.one
        obtain ⟨u', rfl, hu2⟩ := hv'.one
        simp [eqCs] at hb
        obtain ⟨rfl, rfl⟩ := hb
        rw [show u = _ from hu1, show u' = _ from hu2, show n + 1 + d = (n + d) + 1 by omega]
        simp only [mkVal, Sh.agg, Bool.false_eq_true, if_false, List.getD_cons_zero]
        first
          | exact run_equalIn_int w _ t _ _ _ _ hu
          | simp [Op.equalIn, run_underlying hu]
    · rename_i hu
      match cs, cs', hl, hl' with
      | [.bool _], [.bool _], _, _ =>
        obtain ⟨u, rfl, hu1⟩ := hv.one
        obtain ⟨u', rfl, hu2⟩ := hv'.one
        simp [eqCs] at hb
        all_goals
          rw [show u = _ from hu1, show u' = _ from hu2, show n + 1 + d = (n + d) + 1 by omega]
          simp only [mkVal, Sh.agg, Bool.false_eq_true, if_false, List.getD_cons_zero]
          first
            | (subst hb; exact run_equalIn_bool w _ t _ _ hu)
            | simp [Op.equalIn, run_underlying hu]
    · rename_i fs sa sb hu
      simp only [Bool.and_eq_true, Bool.not_eq_true'] at h2
      obtain ⟨⟨h3, h4⟩, h5⟩ := h2
      have hfo : P.fieldsOf t = fs := by simp [Program.fieldsOf, hu]
      have hl1 := hv.length
      have hl2 := hv'.length
      have hl3 := ofC_length hl
      have hl4 := ofC_length hl'
      rw [show n + 1 + d = (n + d) + 1 by omega]
      simp only [mkVal, Sh.agg, if_true]
      rw [run_equalIn_struct w (n + d) t _ _ (by rw [hfo]; exact hu) h3, hfo]
      refine eqFs_run (A := A) (n := 0) (f := eqB P n) (fun t s hts => ?_) fs.toList 0 (.pair sa sb) h5 cs cs' b ?_ ?_ hl hl' (by omega) (by omega) hb
      · have := eqB_run n t s hts
        exact ⟨this.1, fun cs cs' vs vs' b => this.2 d cs cs' vs vs' b⟩
      · rw [List.drop_zero, List.take_of_length_le (by omega)]; exact hv
      · rw [List.drop_zero, List.take_of_length_le (by omega)]; exact hv'
    · rename_i k e sa sb hu
      simp only [Bool.and_eq_true] at h2
      obtain ⟨h3, h5⟩ := h2
      obtain ⟨i, hi⟩ := Option.isSome_iff_exists.1 h3
      have hl1 := hv.length
      have hl2 := hv'.length
      have hl3 := ofC_length hl
      have hl4 := ofC_length hl'
      rw [show n + 1 + d = (n + d) + 1 by omega]
      simp only [mkVal, Sh.agg, if_true]
      rw [run_equalIn_array w (n + d) _ _ hu hi, eqItems_fields]
      refine eqFs_run (A := A) (n := 0) (f := eqB P n) (fun t s hts => ?_) _ 0 (.pair sa sb) h5 cs cs' b ?_ ?_ hl hl' (by omega) (by omega) hb
      · have := eqB_run n t s hts
        exact ⟨this.1, fun cs cs' vs vs' b => this.2 d cs cs' vs vs' b⟩
      · rw [List.drop_zero, List.take_of_length_le (by omega)]; exact hv
      · rw [List.drop_zero, List.take_of_length_le (by omega)]; exact hv'
    · cases h2
end
end Go.Vi
/-
  Vi: strings.
-/
set_option linter.unusedVariables false
set_option linter.unusedSimpArgs false
namespace Go.Vi
theorem heap_alloc_new (w : World) (o : Obj) : (w.alloc o).heap[w.heap.size]? = some o := by
  show (w.heap.push o)[w.heap.size]? = _
  simp
theorem strApp_eq (a b : ByteArray) : strApp a b = a ++ b := by
  apply ByteArray.ext
  rw [ByteArray.data_append]
  simp [strApp]
theorem strEq_eq (a b : ByteArray) : strEq a b = (a.toList == b.toList) := by
  rw [ByteArray.toList_eq, ByteArray.toList_eq]
  rfl
theorem strBytes_length (s : ByteArray) : (strBytes s).length = s.size := by
  rw [strBytes, List.length_map, Array.length_toList]
  rfl
theorem strCut_eq (s : ByteArray) (lo hi : Option Int) : s.extract (loN lo) (hiN hi s.size) = strCut lo hi s := by
  apply ByteArray.ext
  apply Array.ext'
  rw [ByteArray.data_extract]
  have hs : s.data.toList.length = s.size := by rw [Array.length_toList]; rfl
  have key : ∀ (l : List UInt8) (a b : Nat), (l.drop a).take (b - a) = (l.take b).drop a := fun l a b => by rw [List.drop_take]
  unfold strCut
  cases hi with
  | none =>
    rw [Array.toList_extract]
    show (s.data.toList.drop (loN lo)).take (s.size - loN lo) = (s.data.toList).drop (loN lo)
    rw [key, List.take_of_length_le (by omega)]
  | some h =>
    rw [Array.toList_extract]
    show (s.data.toList.drop (loN lo)).take (h.toNat - loN lo) = ((s.data.toList).take h.toNat).drop (loN lo)
    rw [key]
theorem str_get {s : ByteArray} {n : Nat} {x : Int} (h : (strBytes s)[n]? = some x) : ∃ hn : n < s.size, x = ((s[n]'hn).toNat : Int) := by
  have hn : n < s.size := by
    rw [← strBytes_length]
    exact (List.getElem?_eq_some_iff.1 h).1
  refine ⟨hn, ?_⟩
  simp only [strBytes, List.getElem?_map, Option.map_eq_some_iff] at h
  obtain ⟨b, h1, h2⟩ := h
  rw [← h2]
  congr 2
  have h3 : s.data[n]? = some b := by rw [← Array.getElem?_toList]; exact h1
  have h4 : s.data[n]? = some (s[n]'hn) := by
    have : s.data.size = s.size := rfl
    rw [Array.getElem?_eq_getElem (by omega)]
    rfl
  rw [h3] at h4
  exact Option.some.inj h4
variable {w : World}
theorem rowsC_len {e : Sh} : ∀ {n : Nat} {cs : List C} {xs : List e.den}, rowsC e n cs = some xs → xs.length = n
  | 0, cs, xs, h => by cases h; rfl
  | n + 1, cs, xs, h => by
    simp only [rowsC] at h
    split at h
    · rename_i y l h1 h2
      cases h
      simp [rowsC_len h2]
    · cases h
theorem rowsC_VRs {A : Nat → Prop} {e : Sh} : ∀ {n : Nat} {cs : List C} {vs : List Value} {xs : List e.den}, rowsC e n cs = some xs → All2 (CR w A) cs vs → ∀ (i : Nat) (y : e.den), xs[i]? = some y → VRs w A e y ((vs.drop (i * e.nc)).take e.nc)
  | 0, cs, vs, xs, h, hv, i, y, hy => by cases h; simp at hy
  | n + 1, cs, vs, xs, h, hv, i, y, hy => by
    simp only [rowsC] at h
    split at h
    · rename_i z l h1 h2
      cases h
      cases i with
      | zero =>
        cases hy
        simpa using VRs.of_ofC e _ _ _ h1 (hv.take e.nc)
      | succ i =>
        have := rowsC_VRs h2 (hv.drop e.nc) i y (by simpa using hy)
        rw [List.drop_drop] at this
        rwa [show (i + 1) * e.nc = e.nc + i * e.nc by rw [Nat.add_mul]; omega]
    · cases h
end Go.Vi
