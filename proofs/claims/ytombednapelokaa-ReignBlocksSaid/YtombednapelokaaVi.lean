/-
  Vi: a value interpreter for Go.Code on typed pure data, in continuation style: the definitions.
-/
import Derived.WalkKit
namespace Go.Vi

/-- The shapes of data: what a cell, or a row of cells, reads as. -/
inductive Sh where
  | int (k : IntKind)
  | bool
  | str
  | sl (e : Sh)
  | unit
  | pair (a b : Sh)
  deriving DecidableEq

@[reducible] def Sh.den : Sh → Type
  | .int _ => Int
  | .bool => Bool
  | .str => ByteArray
  | .sl e => List e.den
  | .unit => Unit
  | .pair a b => a.den × b.den

/-- How many cells. -/
def Sh.nc : Sh → Nat
  | .unit => 0
  | .pair a b => a.nc + b.nc
  | _ => 1

def Sh.agg : Sh → Bool
  | .unit => true
  | .pair _ _ => true
  | _ => false

def Sh.hasSl : Sh → Bool
  | .sl _ => true
  | .pair a b => a.hasSl || b.hasSl
  | _ => false

/-- One cell. -/
inductive C where
  | int (k : IntKind) (n : Int)
  | bool (b : Bool)
  | str (s : ByteArray)
  | sl (e : Sh) (xs : List e.den) (tight : Bool)

def zero : (s : Sh) → s.den
  | .int _ => (0 : Int)
  | .bool => false
  | .str => ByteArray.empty
  | .sl _ => []
  | .unit => ()
  | .pair a b => (zero a, zero b)

def cells : (s : Sh) → s.den → List C
  | .int k, n => [.int k n]
  | .bool, b => [.bool b]
  | .str, s => [.str s]
  | .sl e, xs => [.sl e xs false]
  | .unit, _ => []
  | .pair a b, x => cells a x.1 ++ cells b x.2

def ofC : (s : Sh) → List C → Option s.den
  | .int k, [.int k' n] => if k' = k then some n else none
  | .bool, [.bool b] => some b
  | .str, [.str s] => some s
  | .sl e, [.sl e' xs _] => if h : e' = e then some (h ▸ xs) else none
  | .unit, [] => some ()
  | .pair a b, cs =>
    match ofC a (cs.take a.nc), ofC b (cs.drop a.nc) with
    | some x, some y => some (x, y)
    | _, _ => none
  | _, _ => none

/-- What a slot of a frame holds. -/
inductive V where
  | undef
  | c (x : C)
  | agg (cs : List C)
  | ptr (k off : Nat)
  | own (k : Nat) (win : Option (Nat × Nat)) (tight : Bool)
  | eptr (k : Nat) (win : Option (Nat × Nat)) (i : Int) (off : Nat)
  | iptr (cs : List C)
  | aptr (k off n : Nat) (e : Sh) (i : Int)
  | tup (vs : List V)
  | fn (f : FuncId) (caps : List V)
  | map (k : Nat)

def V.flat : V → Bool
  | .tup _ => false
  | .fn _ _ => false
  | .undef => false
  | _ => true

def V.isUndef : V → Bool
  | .undef => true
  | _ => false

/-- What the call itself has made, under the slot that made it. -/
inductive O where
  | box (cs : List C)
  | arr (e : Sh) (xs : List e.den) (nilE : Bool)
  | mp (kk : IntKind) (e : Sh) (m : List (Int × e.den))

abbrev Heap := Nat → Option O

structure St where
  tm : List V
  hp : Heap

def emp : Heap := fun _ => none
def upd (h : Heap) (k : Nat) (o : O) : Heap := fun j => bif Nat.beq j k then some o else h j
def era (h : Heap) (k : Nat) : Heap := fun j => bif Nat.beq j k then none else h j

/-- What a call gives back. -/
inductive Ret1 where
  | val (c : C)
  | agg (cs : List C)
  | fresh (e : Sh) (xs : List e.den) (nilE : Bool)

abbrev Ret := List Ret1

structure Tab where
  sh : List (Nat × Sh)
  flds : List (Nat × List Sh)
  arrs : List (Nat × (Nat × Sh))
  maps : List (Nat × (IntKind × Sh))
  eqs : List (Nat × Sh)
  idf : List Nat := []
  del : List Nat := []
  lits : List Nat := []

abbrev Phi := FuncId → List V → (ρ : Type) → (Ret → Option ρ) → Option ρ

/-- What a callee leaves in what it was handed to be written. -/
inductive Out where
  | box (cs : List C)
  | arr (e : Sh) (xs : List e.den)

/-- Callees that write what they are handed: it reads back behind the call. -/
abbrev Phio := FuncId → List V → (ρ : Type) → (Ret → List Out → Option ρ) → Option ρ

structure Env where
  T : Tab
  phi : Phi
  eff : FuncId → Bool
  fuel : Nat
  phio : Phio := fun _ _ _ _ => none
  iop : FuncId → Option (List Bool) := fun _ => none
  hold : Nat := 1

def look {α : Type} : List (Nat × α) → Nat → Option α
  | [], _ => none
  | (k, v) :: r, n => bif Nat.beq k n then some v else look r n

def memN (d : Nat) (l : List Nat) : Bool := l.any (Nat.beq d)
def nodupB : List Nat → Bool
  | [] => true
  | d :: r => !memN d r && nodupB r

def hset (st : St) (k : Nat) (o : O) : St := { st with hp := upd st.hp k o }

/-- Does a value name something of the call's own under this key? -/
def refs1 (k : Nat) : V → Bool
  | .ptr j _ => Nat.beq j k
  | .own j _ _ => Nat.beq j k
  | .eptr j _ _ _ => Nat.beq j k
  | .aptr j _ _ _ _ => Nat.beq j k
  | .map j => Nat.beq j k
  | _ => false
def refsAny (k : Nat) : List V → Bool
  | [] => false
  | v :: r => refs1 k v || refsAny k r
def refs (k : Nat) : V → Bool
  | .tup vs => refsAny k vs
  | .fn _ vs => refsAny k vs
  | v => refs1 k v

def anyRefs (ks : List Nat) (v : V) : Bool := ks.any fun k => refs k v
def cleanTm (ks : List Nat) : List V → List V
  | [] => []
  | v :: r => (bif anyRefs ks v then .undef else v) :: cleanTm ks r
def eraAll (h : Heap) : List Nat → Heap
  | [] => h
  | k :: ks => era (eraAll h ks) k
/-- These are no more the call's own. -/
def drop (st : St) (ks : List Nat) : St :=
  match ks with
  | [] => st
  | _ => { tm := cleanTm ks st.tm, hp := eraAll st.hp ks }
def noRef (k : Nat) : List V → Bool
  | [] => true
  | v :: r => !refs k v && noRef k r
def put (st : St) (dst : Option Tmp) (v : V) : St :=
  match dst with
  | some d => { st with tm := st.tm.set d v }
  | none => st

/-- Keys from here on stand for what a caller has handed in to be written. -/
def pinLo : Nat := 1000000000

/-- No slot but the one that is written names this key. -/
def dead (st : St) (dst : Option Tmp) (k : Nat) : Bool := Nat.blt k pinLo && noRef k (put st dst .undef).tm

def wo (win : Option (Nat × Nat)) : Nat :=
  match win with
  | none => 0
  | some (o, _) => o

def wz (win : Option (Nat × Nat)) : Bool :=
  match win with
  | none => true
  | some (o, _) => Nat.beq o 0

/-- The window of a slice of an own array. -/
def view {α : Type} (win : Option (Nat × Nat)) (xs : List α) : List α :=
  match win with
  | none => xs
  | some (o, l) => (xs.drop o).take l

def idx {α : Type} (xs : List α) (i : Int) : Option α := if 0 ≤ i then xs[i.toNat]? else none
def inB (i : Int) (n : Nat) : Bool := decide (0 ≤ i) && decide (i < n)
def setW {α : Type} (win : Option (Nat × Nat)) (xs : List α) (i : Int) (x : α) : List α :=
  match win with
  | none => xs.set i.toNat x
  | some (o, _) => xs.set (o + i.toNat) x

def replace (cs : List C) (off : Nat) (vs : List C) : List C := cs.take off ++ vs ++ cs.drop (off + vs.length)

/-- Lengths beyond this are left to others. -/
def lim : Nat := 1073741824

def constC : Value → Option C
  | .int k n => some (.int k n)
  | .bool b => some (.bool b)
  | .string s => some (.str s)
  | _ => none

def constCs : List Value → Option (List C)
  | [] => some []
  | v :: r =>
    match constC v, constCs r with
    | some c, some cs => some (c :: cs)
    | _, _ => none

def constV : Value → Option V
  | .agg cs => (constCs cs.toList).map .agg
  | v => (constC v).map .c

/-- What operands read as. -/
abbrev Val := Operand → Option V

def opV (st : St) : Operand → Option V
  | .tmp t => st.tm[t]?
  | .const v => constV v
  | .global _ => none
  | .func f => some (.fn f [])

def isNil : Operand → Bool
  | .const (.slice none 0 0) => true
  | _ => false

def shOf (T : Tab) (t : TypeId) : Option Sh := look T.sh t

/-- A value that is made of so many cells. -/
def mkV (s : Sh) (cs : List C) : Option V :=
  bif s.agg then some (.agg cs) else
  match cs with
  | [c] => some (.c c)
  | _ => none

def cellsOf : V → Option (List C)
  | .c x => some [x]
  | .agg cs => some cs
  | _ => none

def ints (k : IntKind) : List C → Option (List Int)
  | [] => some []
  | .int k' n :: r => if k' = k then (ints k r).map (n :: ·) else none
  | _ :: _ => none

/-- The elements of a slice, as they read now. -/
def elems (H : Heap) (v : V) : Option (Σ e : Sh, List e.den) :=
  match v with
  | .own k win _ =>
    match H k with
    | some (.arr e xs _) => some ⟨e, view win xs⟩
    | _ => none
  | .c (.sl e xs _) => some ⟨e, xs⟩
  | _ => none

def castL (e' e : Sh) (xs : List e'.den) : Option (List e.den) := if h : e' = e then some (h ▸ xs) else none

def elemsAs (e : Sh) (H : Heap) (v : V) : Option (List e.den) :=
  match elems H v with
  | some ⟨e', xs⟩ => castL e' e xs
  | none => none

/-- A value that stands for itself, with nothing of the call's own in it: what is handed to a callee that only reads. -/
def gnd1 (H : Heap) : V → Option V
  | .c x => some (.c x)
  | .agg cs => some (.agg cs)
  | .iptr cs => some (.iptr cs)
  | .own k win t =>
    match H k with
    | some (.arr e xs _) => some (.c (.sl e (view win xs) t))
    | _ => none
  | .ptr k off =>
    match H k with
    | some (.box cs) => bif decide (off ≤ cs.length) then some (.iptr (cs.drop off)) else none
    | _ => none
  | _ => none

def gnds (H : Heap) : List V → Option (List V)
  | [] => some []
  | v :: r =>
    match gnd1 H v, gnds H r with
    | some x, some xs => some (x :: xs)
    | _, _ => none

def gnd (H : Heap) : V → Option V
  | .fn f caps => (gnds H caps).map (.fn f)
  | v => gnd1 H v

def nilV (T : Tab) (t : TypeId) : Option V :=
  match shOf T t with
  | some (.sl e) => some (.c (.sl e [] true))
  | _ => none

def argV (T : Tab) (ρv : Val) (H : Heap) (t : TypeId) (x : Operand) : Option V :=
  bif isNil x then nilV T t else (ρv x).bind (gnd H)

def argsV (T : Tab) (ρv : Val) (H : Heap) : List TypeId → List Operand → Option (List V)
  | t :: ts, x :: xs =>
    match argV T ρv H t x, argsV T ρv H ts xs with
    | some v, some vs => some (v :: vs)
    | _, _ => none
  | [], [] => some []
  | _, _ => none

def C.isSl : C → Bool
  | .sl .. => true
  | _ => false
def Ret1.hasSl : Ret1 → Bool
  | .val c => c.isSl
  | .agg cs => cs.any C.isSl
  | .fresh e _ _ => e.hasSl

def V.ownKey : V → List Nat
  | .own k _ _ => [k]
  | .ptr k _ => [k]
  | .fn _ caps => capKeys caps
  | _ => []
where
  capKeys : List V → List Nat
  | [] => []
  | .own k _ _ :: r => k :: capKeys r
  | .ptr k _ :: r => k :: capKeys r
  | _ :: r => capKeys r

def opKey (ρv : Val) (x : Operand) : List Nat :=
  match ρv x with
  | some v => v.ownKey
  | none => []

def retV (key : Nat) : Ret1 → V
  | .val c => .c c
  | .agg cs => .agg cs
  | .fresh _ _ _ => .own key none false
def retO (key : Nat) : Ret1 → List (Nat × O)
  | .fresh e xs nilE => [(key, .arr e xs nilE)]
  | _ => []
def retVs (key : Nat) : Ret → List V
  | [] => []
  | r :: rs => retV (key + 10000) r :: retVs (key + 10000) rs
def retOs (key : Nat) : Ret → List (Nat × O)
  | [] => []
  | r :: rs => retO (key + 10000) r ++ retOs (key + 10000) rs

/-- The value of a call, and what it has made. -/
def retAll (key : Nat) : Ret → V × List (Nat × O)
  | [r] => (retV key r, retO key r)
  | rs => (.tup (retVs key rs), retOs key rs)

def intCmp (op : BinOp) (x y : Int) : Option Bool :=
  match op with
  | .eql => some (x == y)
  | .neq => some (x != y)
  | .lss => some (decide (x < y))
  | .leq => some (decide (x ≤ y))
  | .gtr => some (decide (x > y))
  | .geq => some (decide (x ≥ y))
  | _ => none

def intBin (op : BinOp) (k : IntKind) (x y : Int) (ρ : Type) (K : Int → Option ρ) : Option ρ :=
  match op with
  | .add => K (k.wrap (x + y))
  | .sub => K (k.wrap (x - y))
  | .mul => K (k.wrap (x * y))
  | .quo => bif y == 0 then none else K (k.wrap (x.tdiv y))
  | .rem => bif y == 0 then none else K (x.tmod y)
  | .and => K (k.wrap (BitVec.ofInt k.bits x &&& BitVec.ofInt k.bits y).toNat)
  | .or => K (k.wrap (BitVec.ofInt k.bits x ||| BitVec.ofInt k.bits y).toNat)
  | .shl => bif decide (y < 0) then none else K (k.wrap (x * 2 ^ (min y.toNat k.bits)))
  | .shr => bif decide (y < 0) then none else K (x.fdiv (2 ^ (min y.toNat k.bits)))
  | _ => none

/-- Are two rows of numbers and bools the same? -/
def eqCs : List C → List C → Option Bool
  | [], [] => some true
  | .int k a :: r, .int k' b :: r' => if k = k' then (eqCs r r').map ((a == b) && ·) else none
  | .bool a :: r, .bool b :: r' => (eqCs r r').map ((a == b) && ·)
  | _, _ => none

def isShift : BinOp → Bool
  | .shl => true
  | .shr => true
  | _ => false

def binop (T : Tab) (op : BinOp) (t : TypeId) (x y : Operand) (ρv : Val) (H : Heap) (ρ : Type) (K : V → Option ρ) : Option ρ :=
  match ρv x with
  | some (.c (.int k a)) =>
    match ρv y with
    | some (.c (.int k' b)) =>
      bif isShift op then intBin op k a b ρ fun n => K (.c (.int k n))
      else if k = k' then
        match intCmp op a b with
        | some r => K (.c (.bool r))
        | none => intBin op k a b ρ fun n => K (.c (.int k n))
      else none
    | _ => none
  | some (.c (.bool a)) =>
    match ρv y with
    | some (.c (.bool b)) =>
      match shOf T t with
      | some .bool =>
        match op with
        | .eql => K (.c (.bool (a == b)))
        | .neq => K (.c (.bool (a != b)))
        | _ => none
      | _ => none
    | _ => none
  | some (.agg cs) =>
    match ρv y with
    | some (.agg cs') =>
      match (match look T.eqs t with | some s => bif (ofC s cs).isSome && (ofC s cs').isSome then eqCs cs cs' else none | none => none) with
      | some b =>
        match op with
        | .eql => K (.c (.bool b))
        | .neq => K (.c (.bool (!b)))
        | _ => none
      | none => none
    | _ => none
  | some (.own k none _) =>
    bif isNil y then
      match H k, shOf T t with
      | some (.arr _ xs true), some (.sl _) =>
        match op with
        | .eql => K (.c (.bool xs.isEmpty))
        | .neq => K (.c (.bool (!xs.isEmpty)))
        | _ => none
      | _, _ => none
    else none
  | some (.c (.sl _ xs _)) =>
    bif isNil y && !xs.isEmpty then
      match shOf T t with
      | some (.sl _) =>
        match op with
        | .eql => K (.c (.bool false))
        | .neq => K (.c (.bool true))
        | _ => none
      | _ => none
    else none
  | _ => none

def max2 (k : IntKind) (x : Int) : List V → Option Int
  | [] => some x
  | .c (.int k' y) :: r => if k' = k then max2 k (if y > x then y else x) r else none
  | _ :: _ => none
def min2 (k : IntKind) (x : Int) : List V → Option Int
  | [] => some x
  | .c (.int k' y) :: r => if k' = k then min2 k (if y < x then y else x) r else none
  | _ :: _ => none

def opVs (ρv : Val) : List Operand → Option (List V)
  | [] => some []
  | x :: r =>
    match ρv x, opVs ρv r with
    | some v, some vs => some (v :: vs)
    | _, _ => none

def fieldOff (fs : List Sh) (f : Nat) : Nat := ((fs.take f).map Sh.nc).sum

/-- Where a field of a struct begins. -/
def fldOff (T : Tab) (s : TypeId) (f : Nat) : Option Nat :=
  match look T.flds s with
  | some fs =>
    match fs[f]? with
    | some _ => some (fieldOff fs f)
    | none => none
  | none => none

def partsFill (fs : List Sh) (ρv : Val) (cs : List C) : List (Nat × Operand) → Option (List C)
  | [] => some cs
  | (j, x) :: r =>
    match (ρv x).bind cellsOf, fs[j]? with
    | some vs, some s => bif decide (vs.length = s.nc) && decide (fieldOff fs j + s.nc ≤ cs.length) then partsFill fs ρv (replace cs (fieldOff fs j) vs) r else none
    | _, _ => none

/-- An element of a literal: cells, or (frozen) an own array. -/
def partEl (e : Sh) (ρv : Val) (H : Heap) (x : Operand) : Option e.den :=
  match ρv x with
  | some v =>
    match cellsOf v with
    | some vs => ofC e vs
    | none =>
      match e with
      | .sl e' => elemsAs e' H v
      | _ => none
  | none => none

def listFill (e : Sh) (ρv : Val) (H : Heap) (xs : List e.den) : List (Nat × Operand) → Option (List e.den)
  | [] => some xs
  | (j, x) :: r =>
    match partEl e ρv H x with
    | some y => bif decide (j < xs.length) then listFill e ρv H (xs.set j y) r else none
    | none => none

/-- Which of the call's own arrays are laid down in what a literal is made of. -/
def partKeys (ρv : Val) : List (Nat × Operand) → List Nat
  | [] => []
  | (_, x) :: r => opKey ρv x ++ partKeys ρv r

def bounds (lo hi mx : Option Int) (n : Nat) : Bool :=
  let m : Int := match mx with | some m => m | none => n
  let h : Int := match hi with | some h => h | none => n
  let l : Int := match lo with | some l => l | none => 0
  decide (0 ≤ l) && decide (l ≤ h) && decide (h ≤ m) && decide (m ≤ n)

def optI (ρv : Val) : Option Operand → Option (Option Int)
  | none => some none
  | some x =>
    match ρv x with
    | some (.c (.int _ n)) => some (some n)
    | _ => none

def dstKey : Option Tmp → Nat
  | some d => d
  | none => 0

def alook {α : Type} (m : List (Int × α)) (k : Int) : Option α := (m.find? fun p => p.1 == k).map (·.2)
def aset {α : Type} (m : List (Int × α)) (k : Int) (x : α) : List (Int × α) :=
  match m with
  | [] => [(k, x)]
  | p :: r => bif p.1 == k then (k, x) :: r else p :: aset r k x

def loN (lo : Option Int) : Nat := match lo with | some l => l.toNat | none => 0
def hiN (hi : Option Int) (n : Nat) : Nat := match hi with | some h => h.toNat | none => n
def cutHi {α : Type} (hi : Option Int) (xs : List α) : List α := match hi with | some h => xs.take h.toNat | none => xs

/-- A slice's window when it is cut once more. -/
def cutWin (win : Option (Nat × Nat)) (l h : Nat) : Option (Nat × Nat) :=
  match win with
  | none => some (0 + l, h - l)
  | some (o, _) => some (o + l, h - l)
def cutTight (tight : Bool) (hi mx : Option Int) : Bool :=
  match mx with
  | some m => match hi with | some h => h == m | none => false
  | none => tight && hi.isNone

/-- Operations that change nothing that is there (a new thing of the call's own may come in). -/
def evalP (E : Env) (o : Oper) (ρv : Val) (H : Heap) (ρ : Type) (K : V → List (Nat × O) → Option ρ) : Option ρ :=
  match o.op with
  | .move x | .assign x =>
    bif isNil x then
      match shOf E.T o.type with
      | some (.sl e) => K (.own (dstKey o.dst) none false) [(dstKey o.dst, .arr e [] true)]
      | _ => none
    else
      match ρv x with
      | some v => bif v.isUndef then none else K v []
      | none => none
  | .pick c a b =>
    match ρv c, ρv a, ρv b with
    | some (.c (.bool p)), some (.c (.bool x)), some (.c (.bool y)) => K (.c (.bool (bif p then x else y))) []
    | _, _, _ => none
  | .alloc t =>
    match shOf E.T t with
    | some s => K (.ptr (dstKey o.dst) 0) [(dstKey o.dst, .box (cells s (zero s)))]
    | none => none
  | .box t x =>
    match shOf E.T t, (ρv x).bind cellsOf with
    | some s, some cs => bif decide (cs.length = s.nc) then K (.ptr (dstKey o.dst) 0) [(dstKey o.dst, .box cs)] else none
    | _, _ => none
  | .build t parts =>
    match shOf E.T t with
    | some s =>
      match (match look E.T.flds t with | some fs => some fs | none => (look E.T.arrs t).map fun p => List.replicate p.1 p.2) with
      | some fs =>
        bif s.agg then
          match partsFill fs ρv (cells s (zero s)) parts.toList with
          | some cs => K (.agg cs) []
          | none => none
        else none
      | none => none
    | none => none
  | .buildSlice t len parts =>
    match shOf E.T t with
    | some (.sl e) =>
      bif memN t E.T.lits then
        bif (partKeys ρv parts.toList).isEmpty && decide (len * e.nc ≤ 16777216) then
          match listFill e ρv H (List.replicate len (zero e)) parts.toList with
          | some xs => K (.c (.sl e xs true)) []
          | none => none
        else none
      else
      bif !e.hasSl && decide (len * e.nc ≤ 16777216) then
        match listFill e ρv H (List.replicate len (zero e)) parts.toList with
        | some xs => K (.own (dstKey o.dst) none false) [(dstKey o.dst, .arr e xs false)]
        | none => none
      else none
    | _ => none
  | .load t a =>
    match shOf E.T t, ρv a with
    | some s, some (.ptr k off) =>
      match H k with
      | some (.box cs) =>
        bif decide (off + s.nc ≤ cs.length) then
          match mkV s ((cs.drop off).take s.nc) with
          | some v => K v []
          | none => none
        else none
      | _ => none
    | some s, some (.iptr cs) =>
      bif decide (s.nc ≤ cs.length) then
        match mkV s (cs.take s.nc) with
        | some v => K v []
        | none => none
      else none
    | some s, some (.eptr k win i off) =>
      match H k with
      | some (.arr e xs _) =>
        bif decide (off + s.nc ≤ e.nc) then
          (idx (view win xs) i).bind fun x =>
            match mkV s (((cells e x).drop off).take s.nc) with
            | some v => K v []
            | none => none
        else none
      | _ => none
    | some s, some (.aptr k off n e i) =>
      match e, H k with
      | .int kk, some (.box cs) =>
        bif decide (s = .int kk) && decide (off + n ≤ cs.length) then
          match ints kk ((cs.drop off).take n) with
          | some ns => (idx ns i).bind fun x => K (.c (.int kk x)) []
          | none => none
        else none
      | _, _ => none
    | _, _ => none
  | .binOp op t x y _ => binop E.T op t x y ρv H ρ fun v => K v []
  | .unOp op _ x =>
    match op, ρv x with
    | .neg, some (.c (.int k n)) => K (.c (.int k (k.wrap (0 - n)))) []
    | .not, some (.c (.bool b)) => K (.c (.bool (!b))) []
    | _, _ => none
  | .convert src dst x =>
    match ρv x, shOf E.T dst, shOf E.T src with
    | some (.c (.int _ n)), some (.int k), some _ => K (.c (.int k (k.wrap n))) []
    | _, _, _ => none
  | .extract x j =>
    match ρv x with
    | some (.tup vs) =>
      match vs[j]? with
      | some v => bif v.flat then K v [] else none
      | none => none
    | _ => none
  | .fieldAddr s x f =>
    match fldOff E.T s f, ρv x with
    | some d, some (.ptr k off) => K (.ptr k (off + d)) []
    | some d, some (.eptr k win i off) => K (.eptr k win i (off + d)) []
    | some d, some (.iptr cs) => bif decide (d ≤ cs.length) then K (.iptr (cs.drop d)) [] else none
    | _, _ => none
  | .field s x f =>
    match look E.T.flds s, ρv x with
    | some fs, some (.agg cs) =>
      match fs[f]? with
      | some e =>
        bif decide (fieldOff fs f + e.nc ≤ cs.length) then
          match mkV e ((cs.drop (fieldOff fs f)).take e.nc) with
          | some v => K v []
          | none => none
        else none
      | none => none
    | _, _ => none
  | .indexAddr t x i =>
    match ρv x, ρv i with
    | some (.own k win _), some (.c (.int _ n)) =>
      match H k, shOf E.T t with
      | some (.arr e xs _), some (.sl e') => bif decide (e = e') && inB n (view win xs).length then K (.eptr k win n 0) [] else none
      | _, _ => none
    | some (.c (.sl e xs _)), some (.c (.int _ n)) =>
      match shOf E.T t with
      | some (.sl e') => bif decide (e = e') then (idx xs n).bind fun x => K (.iptr (cells e x)) [] else none
      | _ => none
    | some (.ptr k off), some (.c (.int _ n)) =>
      match look E.T.arrs t with
      | some (len, e) => bif inB n len then K (.aptr k off len e n) [] else none
      | none => none
    | _, _ => none
  | .index t x i =>
    match look E.T.arrs t, ρv x, ρv i with
    | some (len, .int kk), some (.agg cs), some (.c (.int _ n)) =>
      bif decide (cs.length = len) then
        match ints kk cs with
        | some ns => (idx ns n).bind fun x => K (.c (.int kk x)) []
        | none => none
      else none
    | _, _, _ => none
  | .slice t x lo hi mx =>
    match optI ρv lo, optI ρv hi, optI ρv mx, shOf E.T t with
    | some lo', some hi', some mx', some (.sl e') =>
      match ρv x with
      | some (.own k win tight) =>
        match H k with
        | some (.arr e xs _) =>
          bif decide (e = e') && (!mx'.isSome || hi'.isSome) && bounds lo' hi' mx' (view win xs).length then
            K (.own k (cutWin win (loN lo') (hiN hi' (view win xs).length)) (cutTight tight hi' mx')) []
          else none
        | _ => none
      | some (.c (.sl e xs tight)) =>
        bif decide (e = e') && (!mx'.isSome || hi'.isSome) && bounds lo' hi' mx' xs.length then
          K (.c (.sl e ((cutHi hi' xs).drop (loN lo')) (cutTight tight hi' mx'))) []
        else none
      | _ => none
    | _, _, _, _ => none
  | .makeSlice t l c =>
    match shOf E.T t, ρv l, ρv c with
    | some (.sl e), some (.c (.int .i64 n)), some (.c (.int .i64 m)) =>
      bif decide (0 ≤ n) && decide (n ≤ m) && decide (m ≤ lim) then
        K (.own (dstKey o.dst) none false) [(dstKey o.dst, .arr e (List.replicate n.toNat (zero e)) false)]
      else none
    | _, _, _ => none
  | .makeFunc fn first caps =>
    match fn, first.toList, opVs ρv caps.toList with
    | .func f, [], some vs => bif vs.all V.flat then K (.fn f vs) [] else none
    | _, _, _ => none
  | .makeMap t none =>
    match look E.T.maps t with
    | some (kk, e) => K (.map (dstKey o.dst)) [(dstKey o.dst, .mp kk e [])]
    | none => none
  | .lookup t x i ok =>
    match ρv x, ρv i, look E.T.maps t with
    | some (.map k), some (.c (.int kk n)), some (kk2, e2) =>
      match H k with
      | some (.mp kk' e m) =>
        bif decide (kk = kk') && decide (kk2 = kk') && decide (e2 = e) then
          match mkV e (cells e ((alook m n).getD (zero e))) with
          | some v => K (bif ok then .tup [v, .c (.bool (alook m n).isSome)] else v) []
          | none => none
        else none
      | _ => none
    | _, _, _ => none
  | .call c =>
    match c.callee with
    | .builtin .len =>
      match c.args.toList, c.argTypes.toList with
      | [x], t :: _ =>
        match ρv x with
        | some (.c (.str s)) =>
          match shOf E.T t with
          | some .str => K (.c (.int .i64 (s.size : Int))) []
          | _ => none
        | some (.map k) =>
          match H k, look E.T.maps t with
          | some (.mp _ _ m), some _ => K (.c (.int .i64 (m.length : Int))) []
          | _, _ => none
        | some v =>
          match elems H v, shOf E.T t with
          | some ⟨_, xs⟩, some (.sl _) => K (.c (.int .i64 (xs.length : Int))) []
          | _, _ => none
        | none => none
      | _, _ => none
    | .builtin .cap =>
      match c.args.toList, c.argTypes.toList with
      | [x], t :: _ =>
        match ρv x, shOf E.T t with
        | some (.c (.sl _ xs true)), some (.sl _) => K (.c (.int .i64 (xs.length : Int))) []
        | _, _ => none
      | _, _ => none
    | .builtin .max =>
      match opVs ρv c.args.toList with
      | some (.c (.int k n) :: vs) =>
        match max2 k n vs with
        | some m => K (.c (.int k m)) []
        | none => none
      | _ => none
    | .builtin .min =>
      match opVs ρv c.args.toList with
      | some (.c (.int k n) :: vs) =>
        match min2 k n vs with
        | some m => K (.c (.int k m)) []
        | none => none
      | _ => none
    | .builtin .append =>
      match c.args.toList, c.argTypes.toList with
      | [x, y], [t, tx] =>
        match shOf E.T t, shOf E.T tx, (ρv y).bind fun w => elems H w with
        | some (.sl e), some (.sl _), some ⟨e2, ys2⟩ =>
          match castL e2 e ys2, ρv x with
          | some ys, some v =>
            match v with
            | .own k win true =>
              match elemsAs e H (.own k win true) with
              | some xs =>
                bif decide (xs.length + ys.length ≤ lim) && (xs.isEmpty || !ys.isEmpty) then
                  K (.own (dstKey o.dst) none false) [(dstKey o.dst, .arr e (xs ++ ys) false)]
                else none
              | none => none
            | .c (.sl e' xs' true) =>
              match castL e' e xs' with
              | some xs =>
                bif decide (xs.length + ys.length ≤ lim) && (xs.isEmpty || !ys.isEmpty) then
                  K (.own (dstKey o.dst) none false) [(dstKey o.dst, .arr e (xs ++ ys) false)]
                else none
              | none => none
            | _ => none
          | _, _ => none
        | _, _, _ => none
      | _, _ => none
    | .value (.func g) =>
      bif memN g E.T.idf then
        match c.args.toList with
        | [y] =>
          match ρv y with
          | some v => bif v.isUndef then none else K v []
          | none => none
        | _ => none
      else
      match argsV E.T ρv H c.argTypes.toList c.args.toList with
      | some vs =>
        E.phi g vs ρ fun ret =>
          bif ret.any Ret1.hasSl && c.args.toList.any (fun x => !(opKey ρv x).isEmpty) then none
          else K (retAll (dstKey o.dst) ret).1 (retAll (dstKey o.dst) ret).2
      | none => none
    | _ => none
  | _ => none

def updAll (h : Heap) : List (Nat × O) → Heap
  | [] => h
  | (k, o) :: r => upd (updAll h r) k o

def vAgg : V → Bool
  | .agg _ => true
  | _ => false
def opAgg (e : Sh) : Option V → Bool
  | some v => decide (vAgg v = e.agg)
  | none => false

/-- What stands for a thing that is handed in to be written. -/
def ioK1 : V → Option Nat
  | .own k none _ => some k
  | .ptr k 0 => some k
  | _ => none
def ioKL : List V → Option (List Nat)
  | [] => some []
  | v :: r =>
    match ioK1 v, ioKL r with
    | some k, some ks => some (k :: ks)
    | _, _ => none
def ioKs : V → Option (List Nat)
  | .fn _ caps => ioKL caps
  | v => (ioK1 v).map fun k => [k]

/-- The arguments as they stand, those of a closure behind them. -/
def rawArgs (st : St) (v : V) (c : Call) : List V :=
  c.args.toList.map (fun x => match opV st x with | some u => u | none => .undef) ++ match v with | .fn _ caps => caps | _ => []

/-- The keys that are handed in to be written; and those of the others. -/
def ioArgs : List Bool → List V → Option (List Nat × List Nat)
  | [], [] => some ([], [])
  | true :: fs, v :: vs =>
    match ioKs v, ioArgs fs vs with
    | some ks, some (k, o) => some (ks ++ k, o)
    | _, _ => none
  | false :: fs, v :: vs =>
    match ioArgs fs vs with
    | some (k, o) => some (k, v.ownKey ++ o)
    | none => none
  | _, _ => none

def Out.hasSl : Out → Bool
  | .box cs => cs.any C.isSl
  | .arr e _ => e.hasSl

def out1 : O → Out → Option O
  | .box cs, .box cs' => bif Nat.beq cs'.length cs.length then some (.box cs') else none
  | .arr e xs n, .arr e' ys =>
    match castL e' e ys with
    | some ys => bif Nat.beq ys.length xs.length then some (.arr e ys n) else none
    | none => none
  | _, _ => none

def outsPut (H : Heap) : List Nat → List Out → Option Heap
  | [], [] => some H
  | k :: ks, x :: xs =>
    match H k with
    | some ob =>
      match out1 ob x with
      | some ob' => outsPut (upd H k ob') ks xs
      | none => none
    | none => none
  | _, _ => none

def out1C (ob : O) (x : Out) (ρ : Type) (K : O → Option ρ) : Option ρ :=
  match ob, x with
  | .box cs, .box cs' => bif Nat.beq cs'.length cs.length then K (.box cs') else none
  | .arr e xs n, .arr e' ys =>
    match castL e' e ys with
    | some ys => bif Nat.beq ys.length xs.length then K (.arr e ys n) else none
    | none => none
  | _, _ => none

def outsPutC (H : Heap) (ks : List Nat) (outs : List Out) (ρ : Type) (K : Heap → Option ρ) : Option ρ :=
  match ks, outs with
  | [], [] => K H
  | k :: ks, x :: xs =>
    match H k with
    | some ob => out1C ob x ρ fun ob' => outsPutC (upd H k ob') ks xs ρ K
    | none => none
  | _, _ => none

/-- Does a call delete from a slice of numbers? -/
def isDelF (T : Tab) : Operand → Bool
  | .func g => memN g T.del
  | _ => false

/-- Elements of an own slice are deleted, in place. -/
def evalDel (o : Oper) (c : Call) (st : St) (ρ : Type) (K : St → Option ρ) : Option ρ :=
  match c.args.toList with
  | [x, y, z] =>
    match opV st x, opV st y, opV st z with
    | some (.own k none false), some (.c (.int .i64 i)), some (.c (.int .i64 j)) =>
      match st.hp k with
      | some (.arr (.int .i64) xs _) =>
        bif dead (drop st [k]) o.dst (dstKey o.dst) && decide (0 ≤ i) && decide (i < j) && decide (j ≤ xs.length) && decide (xs.length ≤ lim) then
          K (hset (put (drop st [k]) o.dst (.own (dstKey o.dst) none false)) (dstKey o.dst) (.arr (.int .i64) (xs.take i.toNat ++ xs.drop j.toNat) false))
        else none
      | _ => none
    | _, _, _ => none
  | _ => none

/-- Operations that change what is the call's own. -/
def evalE (E : Env) (o : Oper) (st : St) (ρ : Type) (K : St → Option ρ) : Option ρ :=
  match o.op with
  | .store t a x =>
    match shOf E.T t, opV st a, (opV st x).bind cellsOf with
    | some s, some (.ptr k off), some vs =>
      match st.hp k with
      | some (.box cs) => bif decide (vs.length = s.nc) && decide (off + s.nc ≤ cs.length) then K (hset (put st o.dst .undef) k (.box (replace cs off vs))) else none
      | _ => none
    | some s, some (.eptr k win i off), some vs =>
      match st.hp k with
      | some (.arr e xs nilE) =>
        bif decide (vs.length = s.nc) && decide (off + s.nc ≤ e.nc) then
          (idx (view win xs) i).bind fun x =>
            match ofC e (replace (cells e x) off vs) with
            | some y => K (hset (put st o.dst .undef) k (.arr e (setW win xs i y) nilE))
            | none => none
        else none
      | _ => none
    | _, _, _ => none
  | .mapUpdate t x i y =>
    match opV st x, opV st i, (opV st y).bind cellsOf with
    | some (.map k), some (.c (.int kk n)), some cs =>
      match st.hp k, look E.T.maps t with
      | some (.mp kk' e m), some (kk2, e2) =>
        bif decide (kk = kk') && decide (kk2 = kk') && decide (e2 = e) && opAgg e (opV st y) then
          match ofC e cs with
          | some z => K (hset (put st o.dst .undef) k (.mp kk' e (aset m n z)))
          | none => none
        else none
      | _, _ => none
    | _, _, _ => none
  | .buildSlice t len parts =>
    match shOf E.T t with
    | some (.sl e) =>
      match listFill e (opV st) st.hp (List.replicate len (zero e)) parts.toList with
      | some xs =>
        let st' := drop st (partKeys (opV st) parts.toList)
        bif dead st' o.dst (dstKey o.dst) && decide (len * e.nc ≤ 16777216) then K (hset (put st' o.dst (.own (dstKey o.dst) none false)) (dstKey o.dst) (.arr e xs false)) else none
      | none => none
    | _ => none
  | .call c =>
    match c.callee with
    | .builtin .append =>
      match c.args.toList, c.argTypes.toList with
      | [x, y], [t, tx] =>
        match shOf E.T t, shOf E.T tx, (opV st y).bind fun w => elems st.hp w with
        | some (.sl e), some (.sl _), some ⟨e2, ys2⟩ =>
          match castL e2 e ys2, opV st x with
          | some ys, some (.own k win false) =>
            match st.hp k with
            | some (.arr e' xs' nilE) =>
              match castL e' e (view win xs') with
              | some xs =>
                let st' := drop st [k]
                bif dead st' o.dst (dstKey o.dst) && wz win && decide (xs.length + ys.length ≤ lim) then
                  K (hset (put st' o.dst (.own (dstKey o.dst) none false)) (dstKey o.dst) (.arr e (xs ++ ys) (nilE && win.isNone)))
                else none
              | none => none
            | _ => none
          | _, _ => none
        | _, _, _ => none
      | _, _ => none
    | .builtin .copy =>
      match c.args.toList, c.argTypes.toList with
      | [x, y], t :: _ =>
        match shOf E.T t, opV st x, (opV st y).bind fun w => elems st.hp w with
        | some (.sl e0), some (.own k win _), some ⟨e2, ys2⟩ =>
          match st.hp k with
          | some (.arr e xs nilE) =>
            match castL e2 e ys2 with
            | some ys =>
              bif decide (e0 = e) then
                K (hset (put st o.dst (.c (.int .i64 ((min ys.length (view win xs).length : Nat) : Int)))) k
                  (.arr e (xs.take (wo win) ++ ys.take (min ys.length (view win xs).length) ++
                    xs.drop (wo win + min ys.length (view win xs).length)) nilE))
              else none
            | none => none
          | _ => none
        | _, _, _ => none
      | _, _ => none
    | .builtin .delete =>
      match c.args.toList, c.argTypes.toList with
      | [m, x], t :: _ =>
        match opV st m, opV st x with
        | some (.map k), some (.c (.int kk n)) =>
          match st.hp k, look E.T.maps t with
          | some (.mp kk' e es), some (kk2, e2) => bif decide (kk = kk') && decide (kk2 = kk') && decide (e2 = e) then K (hset (put st o.dst .undef) k (.mp kk' e (es.eraseP fun p => p.1 == n))) else none
          | _, _ => none
        | _, _ => none
      | _, _ => none
    | .value f =>
      bif isDelF E.T f then evalDel o c st ρ K else
      match opV st f with
      | some v =>
        match gnd st.hp v with
        | some (.fn g caps) =>
          match argsV E.T (opV st) st.hp c.argTypes.toList c.args.toList with
          | some vs =>
            match E.iop g with
            | none =>
              E.phi g (vs ++ caps) ρ fun ret =>
                let st2 := bif ret.any Ret1.hasSl then drop st (v.ownKey ++ c.args.toList.flatMap (opKey (opV st))) else st
                bif ((retAll (dstKey o.dst) ret).2).all (fun p => dead st2 o.dst p.1) then
                  K { tm := (put st2 o.dst (retAll (dstKey o.dst) ret).1).tm, hp := updAll st2.hp (retAll (dstKey o.dst) ret).2 }
                else none
            | some flags =>
              match ioArgs flags (rawArgs st v c) with
              | some (ks, oth) =>
                E.phio g (vs ++ caps) ρ fun ret outs =>
                  bif nodupB ks && ks.all (fun k => !memN k oth) then
                    outsPutC (bif ret.any Ret1.hasSl || outs.any Out.hasSl then drop st oth else st).hp ks outs ρ fun hp' =>
                      bif ((retAll (dstKey o.dst) ret).2).all (fun p => dead { tm := (bif ret.any Ret1.hasSl || outs.any Out.hasSl then drop st oth else st).tm, hp := hp' } o.dst p.1 && !memN p.1 ks) then
                        K { tm := (put (bif ret.any Ret1.hasSl || outs.any Out.hasSl then drop st oth else st) o.dst (retAll (dstKey o.dst) ret).1).tm, hp := updAll hp' (retAll (dstKey o.dst) ret).2 }
                      else none
                  else none
              | none => none
          | none => none
        | _ => none
      | none => none
    | _ => none
  | _ => none

def isTight (all : List Oper) (x : Operand) : Bool :=
  match x with
  | .tmp t => all.any fun p => (match p.op with | .slice _ _ _ (some _) (some _) => true | _ => false) && (match p.dst with | some d => Nat.beq d t | none => false)
  | _ => false

/-- Which operations go by 'evalE'. -/
def isEff (E : Env) (all : List Oper) (o : Oper) : Bool :=
  match o.op with
  | .store .. => true
  | .mapUpdate .. => true
  | .buildSlice t _ _ =>
    match shOf E.T t with
    | some (.sl e) => e.hasSl && !memN t E.T.lits
    | _ => false
  | .call c =>
    match c.callee with
    | .builtin .append => !(match c.args.toList with | x :: _ => isTight all x | _ => false)
    | .builtin .copy => true
    | .builtin .delete => true
    | .builtin _ => false
    | .value (.func f) => E.eff f || (E.iop f).isSome
    | .value _ => true
    | _ => false
  | _ => false

/-! States are laid out anew after each step, so that the kernel finds them so. -/

def fC {ρ : Type} (x : C) (K : C → Option ρ) : Option ρ :=
  match x with
  | .int k n => K (.int k n)
  | .bool b => K (.bool b)
  | .str x => K (.str x)
  | .sl e xs t => K (.sl e xs t)

def fCs {ρ : Type} : List C → (List C → Option ρ) → Option ρ
  | [], K => K []
  | v :: r, K => fC v fun v' => fCs r fun r' => K (v' :: r')

def fV0 {ρ : Type} (v : V) (K : V → Option ρ) : Option ρ :=
  match v with
  | .undef => K .undef
  | .c x => fC x fun x' => K (.c x')
  | .agg cs => fCs cs fun cs' => K (.agg cs')
  | .ptr k off => K (.ptr k off)
  | .own k w t => K (.own k w t)
  | .eptr k w i off => K (.eptr k w i off)
  | .iptr cs => fCs cs fun cs' => K (.iptr cs')
  | .aptr k off n e i => K (.aptr k off n e i)
  | .tup vs => K (.tup vs)
  | .fn f vs => K (.fn f vs)
  | .map k => K (.map k)

def fTm0 {ρ : Type} : List V → (List V → Option ρ) → Option ρ
  | [], K => K []
  | v :: r, K => fV0 v fun v' => fTm0 r fun r' => K (v' :: r')

def fV {ρ : Type} (v : V) (K : V → Option ρ) : Option ρ :=
  match v with
  | .undef => K .undef
  | .c x => fC x fun x' => K (.c x')
  | .agg cs => fCs cs fun cs' => K (.agg cs')
  | .ptr k off => K (.ptr k off)
  | .own k w t => K (.own k w t)
  | .eptr k w i off => K (.eptr k w i off)
  | .iptr cs => fCs cs fun cs' => K (.iptr cs')
  | .aptr k off n e i => K (.aptr k off n e i)
  | .tup vs => K (.tup vs)
  | .fn f vs => fTm0 vs fun vs' => K (.fn f vs')
  | .map k => K (.map k)

def fTm {ρ : Type} : List V → (List V → Option ρ) → Option ρ
  | [], K => K []
  | v :: r, K => fV v fun v' => fTm r fun r' => K (v' :: r')

def fL {α ρ : Type} : List α → (List α → Option ρ) → Option ρ
  | [], K => K []
  | v :: r, K => fL r fun r' => K (v :: r')

/-- One operation. -/
def evalOp (E : Env) (all : List Oper) (o : Oper) (st : St) (ρ : Type) (K : St → Option ρ) : Option ρ :=
  bif isEff E all o then evalE E o st ρ fun s => fTm s.tm fun tm => K { tm := tm, hp := s.hp }
  else evalP E o (opV st) st.hp ρ fun v obs =>
    bif obs.all (fun p => dead st o.dst p.1) then fTm (put st o.dst v).tm fun tm => K { tm := tm, hp := updAll st.hp obs } else none

/-- The slots that a run of operations writes. -/
def undefs (tm : List V) : List Oper → List V
  | [] => tm
  | o :: r => undefs (match o.dst with | some d => tm.set d .undef | none => tm) r

def guardIs (g : Option (Nat × Bool)) (o : Oper) : Bool := o.guard == g

def getB (st : St) (x : Operand) : Option Bool :=
  match opV st x with
  | some (.c (.bool b)) => some b
  | _ => none

def dstsOf (l : List Oper) : List Nat := l.filterMap (·.dst)
def isTmp (x : Operand) (t : Nat) : Bool :=
  match x with
  | .tmp j => Nat.beq j t
  | _ => false
def notTmps (x : Operand) (l : List Nat) : Bool :=
  match x with
  | .tmp j => !memN j l
  | _ => true

/-- Each operation of a guarded run goes by the run's guard, or by one that the run itself brings about. -/
def nest (all : List Oper) (j : Nat) (want : Bool) : List Nat → List Oper → Bool
  | _, [] => true
  | seen, o :: r =>
    (match o.guard with
     | some (j', w') => (Nat.beq j' j && (w' == want)) || (match (all[j']?).bind (·.dst) with | some t => memN t seen | none => false)
     | none => false) &&
    match o.dst with
    | some d => nest all j want (d :: seen) r
    | none => false

def noEff (E : Env) (all : List Oper) (l : List Oper) : Bool := l.all fun o => !isEff E all o

def grpOK (E : Env) (all : List Oper) (j : Nat) (want : Bool) (tj : Nat) (x y : Operand) (grp rest : List Oper) : Bool :=
  isTmp x tj && notTmps y (dstsOf grp) && !memN tj (dstsOf grp) && nest all j want [] grp && noEff E all grp && noEff E all rest

/-- The operations of a region, in the order of the text. 'all' is the whole region (guards name their operation by its place in it). A run of operations behind a guard ends at the 'pick' that joins it. -/
def runOps (E : Env) (all : List Oper) (ctx : Option (Nat × Bool)) : (fuel : Nat) → List Oper → St → (ρ : Type) → (St → Option ρ) → Option ρ
  | 0, _, _, _, _ => none
  | _ + 1, [], st, _, K => K st
  | m + 1, o :: os, st, ρ, K =>
    bif guardIs ctx o then evalOp E all o st ρ fun st' => runOps E all ctx m os st' ρ K
    else
      match o.guard with
      | none => none
      | some (j, want) =>
        match (o :: os).dropWhile (fun p => !guardIs ctx p), (all[j]?).bind (·.dst) with
        | p :: rest, some tj =>
          match p.op, getB st (.tmp tj) with
          | .pick x a b, some c =>
            bif grpOK E all j want tj x (bif want then b else a) ((o :: os).takeWhile fun p => !guardIs ctx p) (p :: rest) then
              (bif c == want then runOps E all (some (j, want)) m ((o :: os).takeWhile fun p => !guardIs ctx p) st Bool fun st' => getB st' (bif want then a else b)
               else getB st (bif want then b else a)).bind fun r =>
                fTm ((undefs st.tm ((o :: os).takeWhile fun p => !guardIs ctx p)).set (dstKey p.dst) (.c (.bool r))) fun tm => runOps E all ctx m rest { st with tm := tm } ρ K
            else none
          | _, _ => none
        | _, _ => none

inductive Ann where
  | l
  | s (a b : Ann)
  | j (live : List Nat) (a b : Ann)
  | g (label : Nat) (live : List Nat) (a b : Ann)

def Ann.fst : Ann → Ann | .s a _ => a | .j _ a _ => a | .g _ _ a _ => a | .l => .l
def Ann.snd : Ann → Ann | .s _ b => b | .j _ _ b => b | .g _ _ _ b => b | .l => .l
def Ann.lv : Ann → List Nat | .j lv _ _ => lv | _ => []

/-- What is known of capacities is forgotten. -/
def loose : C → C
  | .sl e xs _ => .sl e xs false
  | x => x

def ren1 (s : List (Nat × Nat)) : V → V
  | .ptr k off => match look s k with | some j => .ptr j off | none => .undef
  | .own k w _ => match look s k with | some j => .own j w false | none => .undef
  | .map k => match look s k with | some j => .map j | none => .undef
  | .c x => .c (loose x)
  | .agg cs => .agg (cs.map loose)
  | .iptr cs => .iptr (cs.map loose)
  | _ => .undef
def renL (s : List (Nat × Nat)) : List V → List V
  | [] => []
  | v :: r => ren1 s v :: renL s r
def ren (s : List (Nat × Nat)) : V → V
  | .fn f caps => .fn f (renL s caps)
  | v => ren1 s v

def keys1 : V → List Nat
  | .ptr k _ => [k]
  | .own k _ _ => [k]
  | .eptr k _ _ _ => [k]
  | .aptr k _ _ _ _ => [k]
  | .map k => [k]
  | _ => []
def keysL : List V → List Nat
  | [] => []
  | v :: r => keys1 v ++ keysL r
def keysV : V → List Nat
  | .tup vs => keysL vs
  | .fn _ vs => keysL vs
  | v => keys1 v

/-- A new name for a key; what a caller handed in keeps its own. -/
def addName (s : List (Nat × Nat)) (k new : Nat) : List (Nat × Nat) :=
  match look s k with
  | some _ => s
  | none =>
    bif Nat.ble pinLo k then s ++ [(k, k)]
    else bif Nat.ble pinLo new || s.any (fun p => Nat.beq p.2 new) then s else s ++ [(k, new)]

def addNames (s : List (Nat × Nat)) (new : Nat) : List Nat → List (Nat × Nat)
  | [] => s
  | k :: r => addNames (addName s k new) (new + 10000) r

/-- What a slot names that lives on. -/
def keysN : V → List Nat
  | .ptr k _ => [k]
  | .own k _ _ => [k]
  | .map k => [k]
  | .fn _ vs => keysL vs
  | _ => []

/-- New names for what the live slots hold: the slot's own. What a caller handed in is live where the list says so. -/
def names (tm : List V) : List Nat → List (Nat × Nat) → List (Nat × Nat)
  | [], s => s
  | t :: ts, s =>
    names tm ts (bif Nat.ble pinLo t then addName s t t else
      match tm[t]? with
      | some v => addNames s t (keysN v)
      | none => s)

def newHeap (hp : Heap) : List (Nat × Nat) → Heap
  | [] => emp
  | (k, t) :: r =>
    match hp k with
    | some o => upd (newHeap hp r) t o
    | none => newHeap hp r

def normTm (s : List (Nat × Nat)) (live : List Nat) : List V → Nat → List V
  | [], _ => []
  | v :: r, i => (bif live.any (Nat.beq i) then ren s v else .undef) :: normTm s live r (i + 1)

/-- The state at a join: what is not live is forgotten, what is has its slot's name. -/
def norm (live : List Nat) (st : St) : St :=
  { tm := normTm (names st.tm live []) live st.tm 0, hp := newHeap st.hp (names st.tm live []) }

def fO {ρ : Type} (o : O) (K : O → Option ρ) : Option ρ :=
  match o with
  | .box cs => fL cs fun cs' => K (.box cs')
  | .arr e xs n => K (.arr e xs n)
  | .mp kk e m => K (.mp kk e m)

def newHeapC {ρ : Type} (hp : Heap) : List (Nat × Nat) → (Heap → Option ρ) → Option ρ
  | [], K => K emp
  | (k, t) :: r, K =>
    match hp k with
    | some o => fO o fun o' => newHeapC hp r fun h => K (upd h t o')
    | none => newHeapC hp r K

def normC {ρ : Type} (live : List Nat) (st : St) (K : St → Option ρ) : Option ρ :=
  fL (names st.tm live []) fun s => fTm (normTm s live st.tm 0) fun tm => newHeapC st.hp s fun hp => K { tm := tm, hp := hp }

def loopN {σ ρ : Type} (F : (σ → Option ρ) → σ → Option ρ) : Nat → σ → Option ρ
  | 0, _ => none
  | n + 1, s => F (loopN F n) s

/-- May the operations of a region be carried out in any order that its edges allow? -/
def readsOf (all : List Oper) (o : Oper) : List Nat :=
  (o.op.operands.toList.filterMap fun x => match x with | .tmp t => some t | _ => none) ++
  (match o.guard with | some (j, _) => ((all[j]?).bind (·.dst)).toList | none => [])

def isMove (o : Oper) : Bool :=
  match o.op with
  | .move x => !isNil x
  | .assign x => !isNil x
  | _ => false

def disjN (a b : List Nat) : Bool := a.all fun x => !memN x b

def isLoc (o : Oper) : Bool :=
  match o.op with
  | .store .. => true
  | .call c => match c.callee with | .builtin .copy => true | _ => false
  | _ => false

def indep (E : Env) (all : List Oper) (p q : Oper) : Bool :=
  disjN p.dst.toList (q.dst.toList ++ readsOf all q) && disjN q.dst.toList (readsOf all p) && disjN p.dst.toList (readsOf all p) && disjN q.dst.toList (readsOf all q) &&
  ((!isEff E all p && !isEff E all q) || (isMove p && isLoc q) || (isLoc p && isMove q))

/-- For each operation: those that must come ahead of it. -/
def befores : List Oper → List Nat → List Nat
  | [], acc => acc
  | o :: r, acc =>
    befores r (acc ++ [o.after.toList.foldl (fun s e => bif Region.binds .any e then Nat.lor s (Nat.lor (2 ^ e.on) (acc.getD e.on 0)) else s) 0])

def drawRow (E : Env) (all : List Oper) (q : Oper) (bef : Nat) : Nat → List Oper → Bool
  | _, [] => true
  | i, p :: r => (Nat.testBit bef i || indep E all p q) && drawRow E all q bef (i + 1) r

def drawRows (E : Env) (all : List Oper) (befs : List Nat) : Nat → List Oper → Bool
  | _, [] => true
  | j, q :: r => drawRow E all q (befs.getD j 0) 0 (all.take j) && drawRows E all befs (j + 1) r

def backOK : Nat → List Oper → Bool
  | _, [] => true
  | j, o :: r => o.after.toList.all (fun e => !Region.binds .any e || Nat.blt e.on j) && backOK (j + 1) r

def drawOK (E : Env) (all : List Oper) : Bool := backOK 0 all && drawRows E all (befores all []) 0 all


/-- Each slot is written once. -/
def flatOK (E : Env) (all : List Oper) : Bool :=
  nodupB (dstsOf all) && (dstsOf all).all (fun d => Nat.blt d 10000) && all.all fun o => isEff E all o || o.dst.isSome

/-- No slot names what the region's operations are going to make. -/
def freshB (ds : List Nat) (tm : List V) : Bool := tm.all fun v => (keysV v).all fun k => !memN (k % 10000) ds

/-- The slots of the operations that may make something. -/
def makers (all : List Oper) : List Nat := dstsOf (all.filter fun o => !isMove o)

def regOK (E : Env) (all : List Oper) (draw : Bool) (st : St) : Bool :=
  bif draw then drawOK E all && flatOK E all && freshB (makers all) st.tm
  else (all.all fun o => o.guard.isNone) || (flatOK E all && freshB (makers all) st.tm)

abbrev Scp := (ρ : Type) → Code → Ann → (k : St → Option ρ) → (ex : Nat → St → Option ρ) → (rt : St → Option ρ) → St → Option ρ

/-- Exits from here on are gotos. -/
def goff : Nat := 1000000

/-- A join that is held: its equation is stated by itself. -/
def holdK {ρ : Type} (an : Ann) (h : Nat) (f : St → Option ρ) : St → Option ρ :=
  match an with
  | .j _ _ _ => loopN (fun _ => f) h
  | _ => f

theorem holdK_some {ρ : Type} {an : Ann} {h : Nat} {f : St → Option ρ} {s : St} {r : ρ} (e : holdK an h f s = some r) : f s = some r := by
  unfold holdK at e
  split at e
  · cases h with
    | zero => cases e
    | succ h => exact e
  · exact e

theorem held_eq {ρ : Type} {f : St → Option ρ} {h : Nat} (hh : h = 1) (s : St) : loopN (fun _ => f) h s = f s := by
  subst hh
  rfl

def runG (E : Env) (sc : Scp) {ρ : Type} : Code → Ann → (k : St → Option ρ) → (ex : Nat → St → Option ρ) → (rt : St → Option ρ) → St → Option ρ
  | .skip, _, k, _, _, st => k st
  | .label _, _, k, _, _, st => k st
  | .region _ ops draw, _, k, _, _, st =>
    bif regOK E ops.toList draw st then runOps E ops.toList none (ops.toList.length + 1) ops.toList st ρ k else none
  | .seq a b, an, k, ex, rt, st => runG E sc a an.fst (holdK an E.hold fun s => runG E sc b an.snd k ex rt s) ex rt st
  | .cond c a b, an, k, ex, rt, st =>
    match getB st c with
    | some t => bif t then runG E sc a an.fst (fun s => normC an.lv s k) ex rt st else runG E sc b an.snd (fun s => normC an.lv s k) ex rt st
    | none => none
  | .block id a, an, k, ex, rt, st =>
    bif Nat.blt id goff then runG E sc a an.fst (fun s => normC an.lv s k) (fun j s => bif Nat.beq j id then normC an.lv s k else ex j s) rt st else none
  | .loop a, an, _, ex, rt, st =>
    loopN (fun K s => runG E sc a an.fst (fun s' => normC an.lv s' K) ex rt s) E.fuel |> normC an.lv st
  | .exit id, _, _, ex, _, st => bif Nat.blt id goff then ex id st else none
  | .goto l, _, _, ex, _, st => ex (goff + l) st
  | .ret, _, _, _, rt, st => rt st
  | .scope c, an, k, ex, rt, st => sc ρ c an k ex rt st
  | _, _, _, _, _, _ => none

def noScope : Scp := fun _ _ _ _ _ _ _ => none
def run (E : Env) {ρ : Type} (c : Code) (an : Ann) (k : St → Option ρ) (ex : Nat → St → Option ρ) (rt : St → Option ρ) (st : St) : Option ρ := runG E noScope c an k ex rt st

/-- The labels of a scope to which it jumps. -/
def Ann.labels : Ann → List (Nat × List Nat × Ann)
  | .g lb lv x y => (lb, lv, x) :: y.labels
  | _ => []

def jumpTo {ρ : Type} (ls : List (Nat × List Nat × Ann)) (K : Nat × St → Option ρ) (ex : Nat → St → Option ρ) (j : Nat) (s : St) : Option ρ :=
  match ls with
  | [] => bif Nat.blt j goff then ex j s else none
  | (l, lv, _) :: r => bif Nat.beq j (goff + l) then normC lv s fun s' => K (l, s') else jumpTo r K ex j s

def passF (E : Env) {ρ : Type} (c : Code) (ls : List (Nat × List Nat × Ann)) (k : St → Option ρ) (ex : Nat → St → Option ρ) (rt : St → Option ρ) (K : Nat × St → Option ρ) (p : Nat × St) : Option ρ :=
  match findLabel c p.1, look ls p.1 with
  | some rest, some q => run E rest q.2 k (jumpTo ls K ex) rt p.2
  | _, _ => none

/-- A scope with labels. -/
def scope1 (E : Env) : Scp := fun _ c an k ex rt st =>
  run E c an.fst k (jumpTo an.snd.labels (loopN (passF E c an.snd.labels k ex rt) E.fuel) ex) rt st

def run1 (E : Env) {ρ : Type} (c : Code) (an : Ann) (k : St → Option ρ) (ex : Nat → St → Option ρ) (rt : St → Option ρ) (st : St) : Option ρ := runG E (scope1 E) c an k ex rt st

/-! Words for the generated texts. -/
def labOf (l : Nat) (c : Code) : Code := match findLabel c l with | some r => r | none => .skip
def annOf (ls : List (Nat × List Nat × Ann)) (l : Nat) : Ann := match look ls l with | some q => q.2 | none => .l
abbrev wr (k : IntKind) (n : Int) : Int := k.wrap n
def bodyOf (f : Func) : Code := match f.body with | some c => c | none => .skip
def cA : Code → Code | .seq a _ => a | .cond _ a _ => a | .block _ a => a | .loop a => a | .scope a => a | c => c
def cB : Code → Code | .seq _ b => b | .cond _ _ b => b | c => c

def rC (s : Sh) (st : St) (t : Nat) : Option s.den :=
  match (st.tm[t]? : Option V) with
  | some v => (cellsOf v).bind (ofC s)
  | none => none
def rSl (e : Sh) (st : St) (t : Nat) : Option (List e.den) :=
  match (st.tm[t]? : Option V) with
  | some v => elemsAs e st.hp v
  | none => none
/-- A result that is an own array, whole. -/
def rOwn (e : Sh) (st : St) (t : Nat) : Option (List e.den) :=
  match (st.tm[t]? : Option V) with
  | some (.own k none b) => elemsAs e st.hp (.own k none b)
  | _ => none
def rBox (s : Sh) (st : St) (t : Nat) : Option s.den :=
  match (st.tm[t]? : Option V) with
  | some (.ptr k off) =>
    match st.hp k with
    | some (.box cs) => bif decide (off + s.nc ≤ cs.length) then ofC s ((cs.drop off).take s.nc) else none
    | _ => none
  | _ => none
def aC (s : Sh) (v : V) : Option s.den := (cellsOf v).bind (ofC s)
def aPtr (s : Sh) (v : V) : Option s.den :=
  match v with
  | .iptr cs => ofC s (cs.take s.nc)
  | _ => none
def isFns : List (Option Nat) → List V → Bool
  | none :: r, _ :: vs => isFns r vs
  | some g :: r, .fn f _ :: vs => Nat.beq f g && isFns r vs
  | [], [] => true
  | _, _ => false


/-- How a result is read. -/
inductive RK where
  | own (e : Sh) (t : Nat)
  | sl (e : Sh) (t : Nat)
  | c (s : Sh) (t : Nat)
  | box (s : Sh) (t : Nat)

/-- Which of the call's own arrays go out as such, and which are laid down. -/
def RK.ownK (st : St) : RK → List Nat
  | .own _ t => match (st.tm[t]? : Option V) with | some (.own k _ _) => [k] | _ => []
  | _ => []
def RK.slK (st : St) : RK → List Nat
  | .sl _ t => match (st.tm[t]? : Option V) with | some (.own k _ _) => [k] | _ => []
  | _ => []
def rkOK (st : St) (rs : List RK) : Bool :=
  nodupB (rs.flatMap (RK.ownK st)) && (rs.flatMap (RK.slK st)).all fun k => !memN k (rs.flatMap (RK.ownK st))

@[reducible] def RK.den : RK → Type
  | .own e _ => List e.den
  | .sl e _ => List e.den
  | .c s _ => s.den
  | .box s _ => s.den

@[reducible] def rksDen : List RK → Type
  | [] => Unit
  | [a] => a.den
  | a :: b :: r => a.den × rksDen (b :: r)

/-- A datum by value. -/
def valOf (s : Sh) : V → Option s.den
  | .c y => bif s.agg then none else ofC s [y]
  | .agg cs => bif s.agg then ofC s cs else none
  | _ => none

def RK.get (st : St) : (k : RK) → Option k.den
  | .own e t => rOwn e st t
  | .sl e t => rSl e st t
  | .c s t =>
    match (st.tm[t]? : Option V) with
    | some v => valOf s v
    | none => none
  | .box s t => rBox s st t

def rtL (st : St) : (rs : List RK) → Option (rksDen rs)
  | [] => some ()
  | [a] => a.get st
  | a :: b :: r => (a.get st).bind fun x => (rtL st (b :: r)).bind fun y => some (x, y)

def rtG (rs : List RK) (st : St) : Option (rksDen rs) := bif rkOK st rs then rtL st rs else none

/-- A datum that comes back by value. -/
def mk1 (s : Sh) (x : s.den) : Ret1 :=
  bif s.agg then .agg (cells s x) else
  match cells s x with
  | [c] => .val c
  | _ => .agg []

def RK.ret : (k : RK) → k.den → Ret1
  | .own e _, xs => .fresh e xs false
  | .sl e _, xs => .val (.sl e xs false)
  | .c s _, x => mk1 s x
  | .box s _, x => mk1 s x

def rets : (rs : List RK) → rksDen rs → Ret
  | [], _ => []
  | [a], x => [a.ret x]
  | a :: b :: r, x => a.ret x.1 :: rets (b :: r) x.2

/-- How a parameter is read. -/
inductive PK where
  | c (s : Sh)
  | p (s : Sh)
  | f (g : FuncId) (caps : List Sh)

@[reducible] def capsDen : List Sh → Type
  | [] => Unit
  | s :: r => s.den × capsDen r

@[reducible] def PK.den : PK → Type
  | .c s => s.den
  | .p s => s.den
  | .f _ caps => capsDen caps

def capsV : (l : List Sh) → capsDen l → List V
  | [], _ => []
  | s :: r, x => .iptr (cells s x.1) :: capsV r x.2

def PK.val : (k : PK) → k.den → V
  | .c s, x =>
    bif s.agg then .agg (cells s x) else
    match cells s x with
    | [z] => .c z
    | _ => .undef
  | .p s, x => .iptr (cells s x)
  | .f g caps, x => .fn g (capsV caps x)

def capsArg : (l : List Sh) → List V → Option (capsDen l)
  | [], [] => some ()
  | s :: r, v :: vs => (aPtr s v).bind fun x => (capsArg r vs).bind fun y => some (x, y)
  | _, _ => none

def PK.arg : (k : PK) → V → Option k.den
  | .c s, v => valOf s v
  | .p s, v => aPtr s v
  | .f g caps, v =>
    match v with
    | .fn g' vs => bif Nat.beq g' g then capsArg caps vs else none
    | _ => none

@[reducible] def pksDen : List PK → Type
  | [] => Unit
  | a :: r => a.den × pksDen r

def pksV : (l : List PK) → pksDen l → List V
  | [], _ => []
  | k :: r, x => k.val x.1 :: pksV r x.2

def pksArg : (l : List PK) → List V → Option (pksDen l)
  | [], [] => some ()
  | k :: r, v :: vs => (k.arg v).bind fun x => (pksArg r vs).bind fun y => some (x, y)
  | _, _ => none

/-- A callee, by what it computes. -/
def phiOf (pks : List PK) (rks : List RK) (S : pksDen pks → Option (rksDen rks)) (vs : List V) (ρ : Type) (K : Ret → Option ρ) : Option ρ :=
  (pksArg pks vs).bind fun xs => (S xs).bind fun r => K (rets rks r)

/-- A frame as it begins. -/
def st0 (pks : List PK) (xs : pksDen pks) (n : Nat) : St := { tm := pksV pks xs ++ List.replicate (n - pks.length) .undef, hp := emp }

def rksOK (T : Tab) : List ResultVar → List RK → Bool
  | [], [] => true
  | .tmp t :: r, .own _ t' :: r' => Nat.beq t t' && rksOK T r r'
  | .tmp t :: r, .sl _ t' :: r' => Nat.beq t t' && rksOK T r r'
  | .tmp t :: r, .c _ t' :: r' => Nat.beq t t' && rksOK T r r'
  | .cell t ty :: r, .box s t' :: r' => Nat.beq t t' && decide (shOf T ty = some s) && rksOK T r r'
  | _, _ => false

/-! Functions that write what they are handed. -/

/-- How a parameter is read, where some are written. -/
inductive QK where
  | pl (k : PK)
  | oa (e : Sh)
  | ob (s : Sh)
  | of (g : FuncId) (caps : List Sh)

@[reducible] def QK.den : QK → Type
  | .pl k => k.den
  | .oa e => List e.den
  | .ob s => s.den
  | .of _ caps => capsDen caps

def QK.flag : QK → Bool
  | .pl _ => false
  | _ => true

/-- How many things are handed in. -/
def QK.cnt : QK → Nat
  | .pl _ => 0
  | .oa _ => 1
  | .ob _ => 1
  | .of _ caps => caps.length

/-- A variable, whole. -/
def boxOf (s : Sh) : V → Option s.den
  | .iptr cs => ofC s cs
  | _ => none

def boxesOf : (l : List Sh) → List V → Option (capsDen l)
  | [], [] => some ()
  | s :: r, v :: vs => (boxOf s v).bind fun x => (boxesOf r vs).bind fun y => some (x, y)
  | _, _ => none

def QK.arg : (k : QK) → V → Option k.den
  | .pl k, v => k.arg v
  | .oa e, v =>
    match v with
    | .c (.sl e' xs _) => castL e' e xs
    | _ => none
  | .ob s, v => boxOf s v
  | .of g caps, v =>
    match v with
    | .fn g' vs => bif Nat.beq g' g then boxesOf caps vs else none
    | _ => none

def ptrs (n : Nat) : List Sh → List V
  | [] => []
  | _ :: r => .ptr (pinLo + n) 0 :: ptrs (n + 1) r

def QK.val (n : Nat) : (k : QK) → k.den → V
  | .pl k, x => k.val x
  | .oa _, _ => .own (pinLo + n) none false
  | .ob _, _ => .ptr (pinLo + n) 0
  | .of g caps, _ => .fn g (ptrs n caps)

def boxes (n : Nat) : (l : List Sh) → capsDen l → List (Nat × O)
  | [], _ => []
  | s :: r, x => (pinLo + n, .box (cells s x.1)) :: boxes (n + 1) r x.2

def QK.objs (n : Nat) : (k : QK) → k.den → List (Nat × O)
  | .pl _, _ => []
  | .oa e, xs => [(pinLo + n, .arr e xs false)]
  | .ob s, x => [(pinLo + n, .box (cells s x))]
  | .of _ caps, x => boxes n caps x

@[reducible] def qksDen : List QK → Type
  | [] => Unit
  | a :: r => a.den × qksDen r

def qksV (n : Nat) : (l : List QK) → qksDen l → List V
  | [], _ => []
  | k :: r, x => k.val n x.1 :: qksV (n + k.cnt) r x.2

def qksH (n : Nat) : (l : List QK) → qksDen l → List (Nat × O)
  | [], _ => []
  | k :: r, x => k.objs n x.1 ++ qksH (n + k.cnt) r x.2

def qksArg : (l : List QK) → List V → Option (qksDen l)
  | [], [] => some ()
  | k :: r, v :: vs => (k.arg v).bind fun x => (qksArg r vs).bind fun y => some (x, y)
  | _, _ => none

def st1 (qks : List QK) (xs : qksDen qks) (n : Nat) : St := { tm := qksV 0 qks xs ++ List.replicate (n - qks.length) .undef, hp := updAll emp (qksH 0 qks xs) }

/-- What is read back. -/
inductive OD where
  | a (e : Sh)
  | b (s : Sh)

@[reducible] def OD.den : OD → Type
  | .a e => List e.den
  | .b s => s.den

@[reducible] def odsDen : List OD → Type
  | [] => Unit
  | d :: r => d.den × odsDen r

def QK.ods : QK → List OD
  | .pl _ => []
  | .oa e => [.a e]
  | .ob s => [.b s]
  | .of _ caps => caps.map .b

def OD.get : (d : OD) → O → Option d.den
  | .a e, .arr e' ys _ => castL e' e ys
  | .b s, .box cs => ofC s cs
  | _, _ => none

def odsGet (H : Heap) (n : Nat) : (l : List OD) → Option (odsDen l)
  | [] => some ()
  | d :: r =>
    match H (pinLo + n) with
    | some ob => (d.get ob).bind fun x => (odsGet H (n + 1) r).bind fun y => some (x, y)
    | none => none

def OD.out : (d : OD) → d.den → Out
  | .a e, ys => .arr e ys
  | .b s, x => .box (cells s x)

def outsOf : (l : List OD) → odsDen l → List Out
  | [], _ => []
  | d :: r, x => d.out x.1 :: outsOf r x.2

/-- The results, and what is read back. -/
def rtIO (rs : List RK) (ods : List OD) (st : St) : Option (rksDen rs × odsDen ods) :=
  bif ((rs.flatMap (RK.ownK st)) ++ (rs.flatMap (RK.slK st))).all (fun k => Nat.blt k pinLo) then
    (rtG rs st).bind fun x => (odsGet st.hp 0 ods).bind fun y => some (x, y)
  else none

def phioOf (qks : List QK) (rks : List RK) (ods : List OD) (S : qksDen qks → Option (rksDen rks × odsDen ods)) (vs : List V) (ρ : Type) (K : Ret → List Out → Option ρ) : Option ρ :=
  (qksArg qks vs).bind fun xs => (S xs).bind fun r => K (rets rks r.1) (outsOf ods r.2)

end Go.Vi
