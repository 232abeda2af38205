/- An abstract machine on data for Go code as the model loads it: values, local blocks, operations, items. No condition. -/
import Derived.Calls
import Derived.Orders
set_option linter.unusedVariables false
set_option linter.unusedSimpArgs false
namespace Go.VM

/-- What a variable, a cell or an argument holds, seen as data. -/
inductive V where
  | undef
  | void
  | int (k : IntKind) (n : Int)
  | bool (b : Bool)
  | str (s : List UInt8)
  | lst (sz : Nat) (l : List V)
  | agg (l : List V)
  | tup (l : List V)
  | nils (sz : Nat)
  | own (id : Nat)
  | win (id lo len : Nat)
  | ptr (id idx : Nat) (fld : Option Nat)
  | rptr (v : V)
  | fn (f : Nat) (caps : List V)
  | hole
  | err (b : Bool)
  | raw (a : Option Addr) (n c : Nat)
  deriving Inhabited

def V.cells : V → List V
  | .agg l => l
  | v => [v]

/-- A box; an array; an array of which one element's inner arrays stand as blocks of their own. -/
inductive BK where
  | box | arr | opn (i : Nat) | map
  deriving DecidableEq
def BK.isBox : BK → Option Bool
  | .box => some true
  | .map => none
  | _ => some false

structure Blk where
  kind : BK
  sz : Nat
  els : List V

abbrev Heap := Nat → Option Blk
abbrev Env := Nat → V

structure St where
  env : Env
  heap : Heap
  next : Nat
  nt : Nat
  io : List V := []

def updE (e : Env) (t : Nat) (v : V) : Env := fun u => if u = t then v else e u
def putE (e : Env) (d : Option Nat) (v : V) : Env := match d with | some t => updE e t v | none => e
def updH (h : Heap) (i : Nat) (b : Option Blk) : Heap := fun j => if j = i then b else h j
def updsH (h : Heap) : List (Nat × Option Blk) → Heap
  | [] => h
  | (i, b) :: us => updsH (updH h i b) us

/-- Values of one cell that hold no reference to a local block. -/
def V.flatC : V → Bool
  | .int .. | .bool _ | .str _ | .raw .. => true
  | _ => false
def V.flat : V → Bool
  | .agg l => l.all V.flatC
  | v => v.flatC

/-! ### reading a value as data -/
def dC (h : Heap) : V → Option V
  | .int k n => some (.int k n)
  | .bool b => some (.bool b)
  | .str s => some (.str s)
  | .lst sz l => some (.lst sz l)
  | .nils sz => some (.lst sz [])
  | .raw a n c => some (.raw a n c)
  | .own id => match h id with
    | some ⟨.arr, sz, els⟩ => some (.lst sz els)
    | _ => none
  | .win id lo len => match h id with
    | some ⟨.arr, sz, els⟩ => if lo + len ≤ els.length then some (.lst sz ((els.drop lo).take len)) else none
    | _ => none
  | .rptr v => some (.rptr v)
  | _ => none
def mapO (f : V → Option V) : List V → Option (List V)
  | [] => some []
  | x :: l => (f x).bind fun y => (mapO f l).map (y :: ·)
def dA (h : Heap) : V → Option V
  | .agg l => (mapO (dC h) l).map .agg
  | v => dC h v
def dP (h : Heap) : V → Option V
  | .ptr id 0 none => match h id with
    | some ⟨.box, _, [v]⟩ => (dA h v).map .rptr
    | _ => none
  | v => dA h v
def dF (h : Heap) : V → Option V
  | .fn f caps => (mapO (dP h) caps).map (.fn f)
  | v => dP h v
def dT (h : Heap) : V → Option V
  | .tup l => (mapO (dA h) l).map .tup
  | v => dF h v

/-! ### taking a fresh value in -/
def adC (n : Nat) : V → V × List (Nat × Option Blk)
  | .lst sz l => (.own n, [(n, some ⟨.arr, sz, l⟩)])
  | .int k m => (.int k m, [])
  | .bool b => (.bool b, [])
  | .str s => (.str s, [])
  | .err b => (.err b, [])
  | .raw a m c => (.raw a m c, [])
  | _ => (.undef, [])
def adL (n : Nat) : List V → List V × List (Nat × Option Blk)
  | [] => ([], [])
  | x :: l => ((adC n x).1 :: (adL (n + 1) l).1, (adC n x).2 ++ (adL (n + 1) l).2)
def adA (n : Nat) : V → V × List (Nat × Option Blk)
  | .agg l => if l.length ≤ 16 then (.agg (adL n l).1, (adL n l).2) else (.undef, [])
  | v => adC n v
def adTL (n : Nat) : List V → List V × List (Nat × Option Blk)
  | [] => ([], [])
  | x :: l => ((adA n x).1 :: (adTL (n + 16) l).1, (adA n x).2 ++ (adTL (n + 16) l).2)
def adT (n : Nat) : V → V × List (Nat × Option Blk)
  | .tup l => if l.length ≤ 16 then (.tup (adTL n l).1, (adTL n l).2) else (.undef, [])
  | v => adA n v

/-! ### elements that are put into an array -/
/-- A value as an element: flat, or with local arrays that are given away. -/
def clC (h : Heap) : V → Option (V × List Nat)
  | .int k n => some (.int k n, [])
  | .bool b => some (.bool b, [])
  | .str s => some (.str s, [])
  | .nils sz => some (.lst sz [], [])
  | .raw a n c => some (.raw a n c, [])
  | .own id => match h id with
    | some ⟨.arr, sz, els⟩ => some (.lst sz els, [id])
    | _ => none
  | .win id lo len => match h id with
    | some ⟨.arr, sz, els⟩ => if lo + len ≤ els.length ∧ (lo < els.length ∨ lo = 0) then some (.lst sz ((els.drop lo).take len), [id]) else none
    | _ => none
  | _ => none
def clL (h : Heap) : List V → Option (List V × List Nat)
  | [] => some ([], [])
  | x :: l => (clC h x).bind fun y => (clL h l).map fun z => (y.1 :: z.1, y.2 ++ z.2)
def clA (h : Heap) : V → Option (V × List Nat)
  | .agg l => (clL h l).map fun z => (.agg z.1, z.2)
  | v => clC h v
/-! ### what a function is known to do -/
/-- How an argument is handed on: to be read; to be written; to be used up; a pointer to a box that may be written. -/
inductive Mode where
  | rd | io | use | ptr
  deriving DecidableEq

/-- What a function makes of its arguments: its result, and what stands in those that it may write. -/
structure Spec where
  modes : List Mode
  run : List V → Option (V × List V)
  /-- The variables of packages that it leans on. -/
  need : List String := []

abbrev Tab := Nat → Option Spec

/-- The blocks that a value names. -/
def idsC : V → List Nat
  | .own id | .win id _ _ | .ptr id _ _ => [id]
  | _ => []
def idsL : List V → List Nat
  | [] => []
  | x :: l => idsC x ++ idsL l
def idsA : V → List Nat
  | .agg l => idsL l
  | v => idsC v
/-- The blocks that a value leads to: its own, those in boxes that it points to. -/
def idsP (h : Heap) : V → List Nat
  | .ptr id _ _ => id :: (match h id with
    | some ⟨.box, _, [v]⟩ => idsA v
    | _ => [])
  | v => idsA v
def idsPL (h : Heap) : List V → List Nat
  | [] => []
  | x :: l => idsP h x ++ idsPL h l
def idsF (h : Heap) : V → List Nat
  | .fn _ caps => idsPL h caps
  | v => idsP h v

/-- A value that can be told without a local block, or a struct of such. -/
def rdC : V → Bool
  | .int .. | .bool _ | .str _ | .lst .. => true
  | _ => false
def rdA : V → Bool
  | .agg l => l.all rdC
  | v => rdC v
/-- A pointer to a box, as data. -/
def ptrIn (h : Heap) : V → Option (V × Nat)
  | .ptr id 0 none => (match h id with
    | some ⟨.box, _, [x]⟩ => if rdA x then some (.rptr x, id) else none
    | _ => none)
  | _ => none
/-- The arguments as data; the blocks that are handed on to be written or used up; those that are read. -/
def argsIn (h : Heap) : List Mode → List V → Option (List V × List Nat × List Nat)
  | [], [] => some ([], [], [])
  | .rd :: ms, v :: vs => (dF h v).bind fun d => (argsIn h ms vs).map fun r => (d :: r.1, r.2.1, idsF h v ++ r.2.2)
  | .ptr :: ms, v :: vs => (ptrIn h v).bind fun d => (argsIn h ms vs).map fun r => (d.1 :: r.1, d.2 :: r.2.1, r.2.2)
  | _ :: ms, v :: vs => (clA h v).bind fun d => (argsIn h ms vs).map fun r => (d.1 :: r.1, d.2 ++ r.2.1, r.2.2)
  | _, _ => none
/-- What stands in the handed blocks behind the call. -/
def backC (h : Heap) : V → V → Option (List (Nat × Option Blk))
  | .own id, .lst sz l => (match h id with
    | some ⟨.arr, sz', _⟩ => if sz' = sz then some [(id, some ⟨.arr, sz, l⟩)] else none
    | _ => none)
  | .int .., _ | .bool _, _ | .str _, _ | .nils _, _ => some []
  | _, _ => none
def backL (h : Heap) : List V → List V → Option (List (Nat × Option Blk))
  | [], [] => some []
  | x :: l, y :: m => (backC h x y).bind fun u => (backL h l m).map (u ++ ·)
  | _, _ => none
def backA (h : Heap) : V → V → Option (List (Nat × Option Blk))
  | .agg l, .agg m => backL h l m
  | v, d => backC h v d
def ptrBack (h : Heap) : V → V → Option (List (Nat × Option Blk))
  | .ptr id 0 none, .rptr y => (match h id with
    | some ⟨.box, sz, _⟩ => if y.cells.length = sz then some [(id, some ⟨.box, sz, [y]⟩)] else none
    | _ => none)
  | _, _ => none
def backs (h : Heap) : List Mode → List V → List V → Option (List (Nat × Option Blk))
  | .ptr :: ms, v :: vs, o :: os => (ptrBack h v o).bind fun u => (backs h ms vs os).map (u ++ ·)
  | .io :: ms, v :: vs, o :: os => (backA h v o).bind fun u => (backs h ms vs os).map (u ++ ·)
  | .use :: ms, v :: vs, os => (backs h ms vs os).map ((idsA v).map (fun i => (i, none)) ++ ·)
  | .rd :: ms, _ :: vs, os => backs h ms vs os
  | [], [], [] => some []
  | _, _, _ => none
def nodupB : List Nat → Bool
  | [] => true
  | x :: l => !l.contains x && nodupB l
def disjB (a b : List Nat) : Bool := a.all fun x => !b.contains x

def hasPtr : List Mode → Bool
  | [] => false
  | .ptr :: _ => true
  | _ :: ms => hasPtr ms
/-- A result is taken in; a pointer to a box is the only thing that it may be. -/
def adR (n : Nat) : V → V × List (Nat × Option Blk)
  | .rptr v => (.ptr n 0 none, [(n, some ⟨.box, v.cells.length, [v]⟩)])
  | v => adT n v
def isRp : V → Bool
  | .rptr _ => true
  | _ => false
def callV (Φ : Tab) (h : Heap) (n f : Nat) (args : List V) : Option (V × List (Nat × Option Blk)) :=
  match Φ f with
  | none => none
  | some sp =>
    match argsIn h sp.modes args with
    | none => none
    | some ins =>
      if nodupB ins.2.1 && disjB ins.2.1 ins.2.2 then
        match sp.run ins.1 with
        | none => none
        | some r =>
          match backs h sp.modes args r.2 with
          | none => none
          | some us => if (hasPtr sp.modes || isRp r.1) && !ins.2.2.isEmpty then none else some ((adR n r.1).1, us ++ (adR n r.1).2)
      else none

/-! ### numbers and texts -/
def intOp (op : BinOp) (k : IntKind) (a b : Int) : Option V :=
  match op with
  | .add => some (.int k (k.wrap (a + b)))
  | .sub => some (.int k (k.wrap (a - b)))
  | .mul => some (.int k (k.wrap (a * b)))
  | .quo => if b = 0 then none else some (.int k (k.wrap (a.tdiv b)))
  | .rem => if b = 0 then none else some (.int k (a.tmod b))
  | .and => some (.int k (k.wrap (BitVec.ofInt k.bits a &&& BitVec.ofInt k.bits b).toNat))
  | .or => some (.int k (k.wrap (BitVec.ofInt k.bits a ||| BitVec.ofInt k.bits b).toNat))
  | .xor => some (.int k (k.wrap (BitVec.ofInt k.bits a ^^^ BitVec.ofInt k.bits b).toNat))
  | .andNot => some (.int k (k.wrap (BitVec.ofInt k.bits a &&& ~~~ BitVec.ofInt k.bits b).toNat))
  | .eql => some (.bool (a == b))
  | .neq => some (.bool (a != b))
  | .lss => some (.bool (a < b))
  | .leq => some (.bool (a ≤ b))
  | .gtr => some (.bool (a > b))
  | .geq => some (.bool (a ≥ b))
  | _ => none
def shiftOp (op : BinOp) (k : IntKind) (x y : Int) : Option V :=
  if y < 0 then none else
  match op with
  | .shl => some (.int k (k.wrap (x * 2 ^ (min y.toNat k.bits))))
  | .shr => some (.int k (x.fdiv (2 ^ (min y.toNat k.bits))))
  | _ => none
def strOp (op : BinOp) (a b : List UInt8) : Option V :=
  match op with
  | .add => if a.length + b.length ≤ 9223372036854775807 then some (.str (a ++ b)) else none
  | .eql => some (.bool (a == b))
  | .neq => some (.bool (!(a == b)))
  | .lss => some (.bool (Op.bytesLess a b))
  | .leq => some (.bool (Op.bytesLess a b || a == b))
  | .gtr => some (.bool (!(Op.bytesLess a b || a == b)))
  | .geq => some (.bool (!(Op.bytesLess a b)))
  | _ => none
/-- == of two values without references, cell by cell. -/
def eqC : V → V → Option Bool
  | .int k a, .int k' b => if k = k' then some (a == b) else none
  | .bool a, .bool b => some (a == b)
  | .str a, .str b => some (a == b)
  | _, _ => none
def isBool (P : Program) (t : TypeId) : Bool := match P.underlying t with | some .bool => true | _ => false
/-- What the cells of a struct type are, where it can be compared cell by cell: 0 a number, 1 a text, 2 a truth. -/
def eqKind (P : Program) (t : TypeId) : Option Nat :=
  match P.underlying t with
  | some (.int _) => some 0
  | some .string => some 1
  | some .bool => some 2
  | _ => none
def eqKinds (P : Program) : Nat → List Field → Option (List Nat)
  | _, [] => some []
  | i, f :: fs => if f.name ≠ "_" ∧ f.offset = i then (eqKind P f.type).bind fun k => (eqKinds P (i + 1) fs).map (k :: ·) else none
def structEq (P : Program) (t : TypeId) : Option (List Nat) :=
  match P.underlying t with
  | some (.struct fs) => if P.stoodInHeld t = false ∧ P.eqGuardType P.depth t = false then eqKinds P 0 fs.toList else none
  | _ => none
def eqCells : List Nat → List V → List V → Option Bool
  | [], [], [] => some true
  | 0 :: ks, .int k a :: xs, .int k' b :: ys => if k = k' then (eqCells ks xs ys).map fun r => (a == b) && r else none
  | 1 :: ks, .str a :: xs, .str b :: ys => (eqCells ks xs ys).map fun r => (a == b) && r
  | 2 :: ks, .bool a :: xs, .bool b :: ys => (eqCells ks xs ys).map fun r => (a == b) && r
  | _, _, _ => none
def binV (P : Program) (op : BinOp) (t : TypeId) : V → V → Option V
  | .int k a, .int k' b =>
    match op with
    | .shl | .shr => shiftOp op k a b
    | op => if k = k' then intOp op k a b else none
  | .str a, .str b => strOp op a b
  | .bool a, .bool b =>
    if isBool P t then
      match op with
      | .eql => some (.bool (a == b))
      | .neq => some (.bool (!(a == b)))
      | _ => none
    else none
  | .agg xs, .agg ys =>
    match op with
    | .eql => (structEq P t).bind fun ks => (eqCells ks xs ys).map fun b => .bool b
    | .neq => (structEq P t).bind fun ks => (eqCells ks xs ys).map fun b => .bool (!b)
    | _ => none
  | _, _ => none
/-- A value of an interface type against nil. -/
def errCmp (op : BinOp) : V → Option V
  | .err b => match op with
    | .eql => some (.bool (!b))
    | .neq => some (.bool b)
    | _ => none
  | _ => none
def isNilC : Operand → Bool
  | .const .nilIface => true
  | _ => false
def ifaceT (P : Program) (t : TypeId) : Bool := match P.underlying t with | some (.interface _) => true | _ => false
def binO (P : Program) (op : BinOp) (t : TypeId) (y : Operand) (vx vy : V) : Option V := if isNilC y = true then (if ifaceT P t = true then errCmp op vx else none) else binV P op t vx vy
def unV : UnOp → V → Option V
  | .not, .bool b => some (.bool !b)
  | .neg, .int k n => some (.int k (k.wrap (0 - n)))
  | _, _ => none

/-! ### constants and zero values -/
def elemSize (P : Program) (t : TypeId) : Option Nat := match P.underlying t with | some (.slice e) => some (P.cellsOf e) | _ => none
/-- One cell of a type's zero value. -/
def zeroCell (P : Program) (t : TypeId) : Value → Option V
  | .int k n => some (.int k n)
  | .bool b => some (.bool b)
  | .string s => some (.str s.data.toList)
  | .slice none 0 0 => (elemSize P t).map .nils
  | _ => none
def zeroL (P : Program) : List Field → List Value → Option (List V)
  | [], [] => some []
  | f :: fs, v :: vs => (zeroCell P f.type v).bind fun x => (zeroL P fs vs).map (x :: ·)
  | _, _ => none
/-- The zero value of a type, where its struct lies flat. -/
def zeroV (P : Program) (t : TypeId) : Option V :=
  match P.info? t with
  | some i =>
    match P.underlying t with
    | some (.struct fs) => (match i.zero with
      | some (.agg cs) => (zeroL P fs.toList cs.toList).map .agg
      | _ => none)
    | _ => (match i.zero with
      | some v => zeroCell P t v
      | none => none)
  | none => none
def constV (P : Program) (t : TypeId) : Value → V
  | .int k n => .int k n
  | .bool b => .bool b
  | .string s => .str s.data.toList
  | .slice none 0 0 => match elemSize P t with | some sz => .nils sz | none => .undef
  | .nilIface => .err false
  | _ => .undef
def evO (P : Program) (e : Env) (t : TypeId) : Operand → V
  | .tmp u => e u
  | .const v => constV P t v
  | .func f => .fn f []
  | .global _ => .undef
def isStruct (P : Program) (t : TypeId) : Bool := match P.underlying t with | some (.struct _) => true | some (.array ..) => true | _ => false
def fieldAt (P : Program) (t : TypeId) (f : Nat) : Bool :=
  match P.underlying t with
  | some (.struct fs) => (match fs[f]? with | some x => x.offset == f && P.cellsOf x.type == 1 | none => false)
  | _ => false

/-- The field is one cell, in its place. -/
def scalarField (P : Program) (t : TypeId) (f : Nat) : Bool :=
  match P.underlying t with
  | some (.struct fs) => (match fs[f]? with
    | some x => x.offset == f && (match P.underlying x.type with | some (.struct _) | some (.array ..) | none => false | _ => true)
    | none => false)
  | _ => false

/-! ### the parts of a slice literal -/
/-- The parts of a slice literal, laid over zero values. -/
def clParts (h : Heap) (sz : Nat) : List (Nat × V) → List V → Option (List V × List Nat)
  | [], els => some (els, [])
  | (i, v) :: ps, els =>
    (clA h v).bind fun y =>
      if i < els.length && y.1.cells.length == sz then
        (clParts h sz ps (els.set i y.1)).map fun z => (z.1, y.2 ++ z.2)
      else none
def gone (ids : List Nat) : List (Nat × Option Blk) := ids.map fun i => (i, none)

/-- A value of one cell; a value that may be stored into a box as it is. -/
def okCell : V → Bool
  | .agg _ | .undef | .void | .tup _ | .err _ => false
  | _ => true
def boxableA : V → Bool
  | .agg l => l.all okCell
  | v => okCell v
/-- All blocks that it names are there. -/
def liveB (h : Heap) (l : List Nat) : Bool := l.all fun i => (h i).isSome
def storable (h : Heap) (v : V) : Bool := boxableA v && liveB h (idsA v)

/-! ### slices -/
/-- The elements that a slice value shows. -/
def elsOf (h : Heap) : V → Option (Nat × List V)
  | .lst sz l => some (sz, l)
  | .nils sz => some (sz, [])
  | .own id => match h id with
    | some ⟨.arr, sz, els⟩ => some (sz, els)
    | _ => none
  | .win id lo len => match h id with
    | some ⟨.arr, sz, els⟩ => if lo + len ≤ els.length then some (sz, (els.drop lo).take len) else none
    | _ => none
  | _ => none
def bytesV (l : List UInt8) : List V := l.map fun b => .int .u8 b.toNat
def isU8 (P : Program) (t : TypeId) : Bool := match P.underlying t with | some (.int .u8) => true | _ => false
def unByte : V → Option UInt8
  | .int .u8 n => if 0 ≤ n ∧ n < 256 then some (UInt8.ofNat n.toNat) else none
  | _ => none
def unBytes : List V → Option (List UInt8)
  | [] => some []
  | x :: l => (unByte x).bind fun b => (unBytes l).map (b :: ·)
/-- Elements that hold no slices: they can be copied. -/
def flatL (l : List V) : Bool := l.all V.flat

def natOf : V → Option Nat
  | .int _ n => if 0 ≤ n then some n.toNat else none
  | _ => none
def bound (d : Nat) : Option V → Option Nat
  | none => some d
  | some v => natOf v

/-- What an append's second operand gives. -/
def srcOf (P : Program) (h : Heap) (e : TypeId) : V → Option (Nat × List V)
  | .str b => if isU8 P e then some (1, bytesV b) else none
  | x => elsOf h x
def isLst : V → Bool
  | .lst .. => true
  | _ => false
/-- The zero value of an element has as many cells as the element. -/
def zeroFits (P : Program) (e : TypeId) (sz : Nat) : Bool := match zeroV P e with | some z => z.cells.length == sz | none => false
def isWin : V → Bool
  | .win .. => true
  | _ => false
def appendOwn (n : Nat) (s : V) (sz : Nat) (l : List V) : V → Option (V × List (Nat × Option Blk))
  | .own id => if (idsC s).contains id then none else some (.own n, gone (id :: idsC s) ++ [(n, some ⟨.arr, sz, l⟩)])
  | _ => none
/-- The list b over els, from lo on. -/
def layB (els : List V) (lo : Nat) (b : List V) : List V := els.take lo ++ b ++ els.drop (lo + b.length)
/-- An append to a part of an array that is known to have room behind it: in place. -/
def appendIn (h : Heap) (s : V) (b : List V) : Option (V × List (Nat × Option Blk)) :=
  match s with
  | .win id lo len =>
    match h id with
    | some ⟨.arr, sz, els⟩ => if lo < els.length ∧ lo + len + b.length ≤ els.length ∧ flatL b = true then some (.win id lo (len + b.length), [(id, some ⟨.arr, sz, layB els (lo + len) b⟩)]) else none
    | _ => none
  | _ => none
def appendV (P : Program) (h : Heap) (n : Nat) (sType : TypeId) (s x : V) : Option (V × List (Nat × Option Blk)) :=
  match P.underlying sType with
  | some (.slice e) =>
    match isLst s, elsOf h s, srcOf P h e x with
    | false, some (sz, a), some (sz', b) =>
      if sz = P.cellsOf e ∧ sz' = sz ∧ 0 < sz ∧ zeroFits P e sz ∧ (a.length + b.length) * P.bytesOf e ≤ 140737488355328 ∧ a.length + b.length ≤ 9223372036854775807 then
        match appendIn h s b with
        | some r => some r
        | none =>
          if (isWin s = true → b ≠ []) then
            if flatL b then some (.own n, gone (idsC s) ++ [(n, some ⟨.arr, sz, a ++ b⟩)])
            else appendOwn n s sz (a ++ b) x
          else none
      else none
    | _, _, _ => none
  | _ => none

def sliceV (P : Program) (h : Heap) (t : TypeId) (x : V) (lo hi : Option V) : Option V :=
  match x with
  | .str s =>
    (match P.underlying t with
     | some .string =>
       (bound s.length hi).bind fun b => (bound 0 lo).bind fun a => if a ≤ b ∧ b ≤ s.length then some (.str ((s.take b).drop a)) else none
     | _ => none)
  | .lst sz l =>
    (match elemSize P t with
     | some sz' =>
       (bound l.length hi).bind fun b => (bound 0 lo).bind fun a => if sz = sz' ∧ sz ≠ 0 ∧ a ≤ b ∧ b ≤ l.length then some (.lst sz ((l.take b).drop a)) else none
     | none => none)
  | .own id =>
    (match h id, elemSize P t with
     | some ⟨.arr, sz, els⟩, some sz' =>
       (bound els.length hi).bind fun b => (bound 0 lo).bind fun a => if sz = sz' ∧ sz ≠ 0 ∧ a ≤ b ∧ b ≤ els.length then some (.win id a (b - a)) else none
     | _, _ => none)
  | .win id l len =>
    (match h id, elemSize P t with
     | some ⟨.arr, sz, els⟩, some sz' =>
       (bound len hi).bind fun b => (bound 0 lo).bind fun a => if sz = sz' ∧ sz ≠ 0 ∧ a ≤ b ∧ l + b ≤ els.length ∧ l < els.length then some (.win id (l + a) (b - a)) else none
     | _, _ => none)
  | _ => none

/-- A slice with three bounds: it stands; what it gives is not told. -/
def slice3V (P : Program) (h : Heap) (t : TypeId) (x lo hi mx : V) : Option (V × List (Nat × Option Blk)) :=
  match x with
  | .own id =>
    (match h id, elemSize P t with
     | some ⟨.arr, sz, els⟩, some sz' => (natOf mx).bind fun m => (natOf hi).bind fun b => (natOf lo).bind fun a => if sz' ≠ 0 ∧ a ≤ b ∧ b ≤ m ∧ m ≤ els.length then some (.undef, []) else none
     | _, _ => none)
  | _ => none
def indexAddrV (P : Program) (h : Heap) (t : TypeId) (x : V) (i : Int) : Option V :=
  match elemSize P t with
  | none => none
  | some sz =>
    match x with
    | .lst sz' l => if 0 ≤ i ∧ i < l.length ∧ sz' ≠ 0 then (match l[i.toNat]? with | some v => if sz' = sz then some (.rptr v) else none | none => none) else none
    | .own id =>
      (match h id with
       | some ⟨.arr, sz', els⟩ => if 0 ≤ i ∧ i < els.length ∧ sz' = sz ∧ sz' ≠ 0 then some (.ptr id i.toNat none) else none
       | some ⟨.opn _, sz', els⟩ => if 0 ≤ i ∧ i < els.length ∧ sz' = sz ∧ sz' ≠ 0 then some (.ptr id i.toNat none) else none
       | _ => none)
    | .win id lo len =>
      (match h id with
       | some ⟨.arr, sz', els⟩ => if 0 ≤ i ∧ i < len ∧ lo + len ≤ els.length ∧ sz' = sz ∧ sz' ≠ 0 then some (.ptr id (lo + i.toNat) none) else none
       | _ => none)
    | _ => none

def fieldAddrV (P : Program) (h : Heap) (t : TypeId) (p : V) (f : Nat) : Option V :=
  if fieldAt P t f then
    match p with
    | .ptr id i none =>
      (match h id with
       | some b => (match b.els[i]? with
         | some (.agg l) => if f < l.length then some (.ptr id i (some f)) else none
         | _ => none)
       | none => none)
    | .rptr (.agg l) => (match l[f]? with | some v => if okCell v then some (.rptr v) else none | none => none)
    | _ => none
  else none

/-- A pointer that is not nil. -/
def nilV (h : Heap) (p : V) : Option V :=
  match p with
  | .ptr id i f => (match h id with
    | some ⟨.map, _, _⟩ => none
    | some _ => some (.ptr id i f)
    | none => none)
  | .rptr v => some (.rptr v)
  | _ => none
/-- A type whose values lie in one cell. -/
def isScalarT (P : Program) (t : TypeId) : Bool := match P.underlying t with | some (.struct _) | some (.array ..) | none => false | _ => true
/-- A value that a load of a type may give. -/
def loads (P : Program) (t : TypeId) : V → Bool
  | .agg l => isStruct P t && l.length == P.cellsOf t && l.length != 0
  | .undef | .void | .tup _ => false
  | _ => isScalarT P t
def okIn (k : BK) (i : Nat) (v : V) : Bool := match k with | .box => true | .arr => v.flat | .opn j => v.flat || i == j | .map => false
def loadV (P : Program) (h : Heap) (t : TypeId) : V → Option V
  | .ptr id i f =>
    (match h id with
     | some b =>
       (match b.els[i]?, f with
        | some v, none => if loads P t v && okIn b.kind i v then some v else none
        | some (.agg l), some j => (match l[j]? with | some v => if okCell v && loads P t v && okIn b.kind i v then some v else none | none => none)
        | _, _ => none)
     | none => none)
  | .rptr v => if loads P t v then some v else none
  | _ => none
def isArrB : Option Blk → Bool
  | some ⟨.arr, _, _⟩ => true
  | _ => false
def storeV (P : Program) (h : Heap) (t : TypeId) (p x : V) : Option (List (Nat × Option Blk)) :=
  match p with
  | .ptr id i f =>
    (match h id with
     | some ⟨.box, sz, [old]⟩ =>
       (match f, old with
        | none, _ => if i = 0 ∧ sz ≠ 0 ∧ x.cells.length = sz ∧ P.cellsOf t = sz ∧ storable h x then some [(id, some ⟨.box, sz, [x]⟩)] else none
        | some j, .agg l => if i = 0 ∧ j < l.length ∧ P.cellsOf t = 1 ∧ okCell x ∧ liveB h (idsC x) then some [(id, some ⟨.box, sz, [.agg (l.set j x)]⟩)] else none
        | _, _ => none)
     | some ⟨.arr, sz, els⟩ =>
       (match els[i]?, f, clA h x with
        | some _, none, some (y, ids) => if sz ≠ 0 ∧ y.cells.length = sz ∧ P.cellsOf t = sz ∧ !ids.contains id && nodupB ids then some (gone ids ++ [(id, some ⟨.arr, sz, els.set i y⟩)]) else none
        | some (.agg l), some j, some (y, ids) => if j < l.length ∧ P.cellsOf t = 1 ∧ okCell y ∧ !ids.contains id && nodupB ids then some (gone ids ++ [(id, some ⟨.arr, sz, els.set i (.agg (l.set j y))⟩)]) else none
        | _, _, _ => none)
     | some ⟨.opn j, sz, els⟩ =>
       (match els[i]?, f, x with
        | some _, none, .own k => if i = j ∧ sz = 1 ∧ P.cellsOf t = 1 ∧ isArrB (h k) ∧ k ≠ id then some [(id, some ⟨.opn j, sz, els.set i (.own k)⟩)] else none
        | _, _, _ => none)
     | _ => none)
  | _ => none

def buildL (h : Heap) : List (Nat × V) → List V → Option (List V)
  | [], l => some l
  | (i, v) :: ps, l => if i < l.length ∧ okCell v ∧ liveB h (idsC v) then buildL h ps (l.set i v) else none
def fieldsFlat (P : Program) (t : TypeId) : Bool :=
  match P.underlying t with
  | some (.struct fs) => (List.range fs.size).all fun i => match fs[i]? with | some f => f.offset == i && P.cellsOf f.type == 1 | none => false
  | _ => false

def lenV (P : Program) (h : Heap) (t : TypeId) (x : V) : Option V :=
  match P.underlying t, x with
  | some .string, .str s => some (.int .i64 s.length)
  | some (.slice _), x => (elsOf h x).map fun p => .int .i64 p.2.length
  | _, _ => none
def minV : V → V → Option V
  | .int k x, .int _ y => some (.int k (if y < x then y else x))
  | _, _ => none
def maxV : V → V → Option V
  | .int k x, .int _ y => some (.int k (if y > x then y else x))
  | _, _ => none
def convV (P : Program) (h : Heap) (n : Nat) (src dst : TypeId) (x : V) : Option (V × List (Nat × Option Blk)) :=
  match P.underlying src, P.underlying dst, x with
  | some (.int _), some (.int k), .int _ m => some (.int k (k.wrap m), [])
  | some .string, some .string, .str s => some (.str s, [])
  | some .string, some (.slice e), .str s => if isU8 P e ∧ s.length ≤ 9223372036854775807 then some (.own n, [(n, some ⟨.arr, 1, bytesV s⟩)]) else none
  | some (.slice e), some .string, x => if isU8 P e then (match elsOf h x with | some (1, l) => (unBytes l).map fun b => (.str b, []) | _ => none) else none
  | _, _, _ => none

def callee (e : Env) (args : List V) : Operand → Option (Nat × List V)
  | .func f => some (f, args)
  | .tmp t => (match e t with | .fn f caps => some (f, args ++ caps) | _ => none)
  | _ => none

/-- The second operand's type is no whole number (as it is where make stands in the append). -/
def plainSrc (P : Program) (tys : Array TypeId) : Bool :=
  match tys[1]? with
  | some u => (match P.underlying u with | some (.int _) => false | some _ => true | none => false)
  | none => false
/-- A part laid over with one value. -/
def layV (els : List V) (lo len : Nat) (z : V) : List V := els.take lo ++ List.replicate len z ++ els.drop (lo + len)
def clearV (P : Program) (h : Heap) (t : TypeId) (x : V) : Option (V × List (Nat × Option Blk)) :=
  match P.underlying t, x with
  | some (.slice e), .win id lo len =>
    (match h id, (zeroV P e).bind (clA h) with
     | some ⟨.arr, sz, els⟩, some (z, []) => if lo + len ≤ els.length ∧ lo < els.length ∧ z.cells.length = sz ∧ 0 < sz then some (.tup [], [(id, some ⟨.arr, sz, layV els lo len z⟩)]) else none
     | _, _ => none)
  | _, _ => none
def builtinV (P : Program) (h : Heap) (n : Nat) (b : Builtin) (tys : Array TypeId) (args : List V) : Option (V × List (Nat × Option Blk)) :=
  match b, tys[0]?, args with
  | .len, some t, [x] => (lenV P h t x).map fun v => (v, [])
  | .append, some t, [s, x] => if plainSrc P tys then appendV P h n t s x else none
  | .clear, some t, [x] => clearV P h t x
  | .min, _, [x, y] => (minV x y).map fun v => (v, [])
  | .max, _, [x, y] => (maxV x y).map fun v => (v, [])
  | _, _, _ => none

/-! ### maps of texts to numbers -/
def lookS : List V → List UInt8 → Option V
  | [], _ => none
  | .agg [.str t, v] :: l, s => if s == t then some v else lookS l s
  | _ :: l, s => lookS l s
def putS : List V → List UInt8 → V → List V
  | [], s, v => [.agg [.str s, v]]
  | .agg [.str t, u] :: l, s, v => if s == t then .agg [.str s, v] :: l else .agg [.str t, u] :: putS l s v
  | x :: l, s, v => x :: putS l s v
def mapAt (h : Heap) : V → Option (Nat × List V)
  | .ptr id 1 none => (match h id with
    | some ⟨.map, 0, [.lst 2 l]⟩ => some (id, l)
    | _ => none)
  | _ => none
/-- A map type from texts to numbers: what stands for a number that is not there. -/
def mapT (P : Program) (t : TypeId) : Option V :=
  match P.underlying t with
  | some (.map k e) => (match P.underlying k, zeroV P e with
    | some .string, some (.int i z) => some (.int i z)
    | _, _ => none)
  | _ => none
def lookupV (P : Program) (h : Heap) (t : TypeId) (m k : V) : Option V :=
  match mapT P t, mapAt h m, k with
  | some z, some (_, l), .str s => some (.tup [(lookS l s).getD z, .bool (lookS l s).isSome])
  | _, _, _ => none
def mapPutV (P : Program) (h : Heap) (t : TypeId) (m k x : V) : Option (List (Nat × Option Blk)) :=
  match mapT P t, mapAt h m, k, x with
  | some _, some (id, l), .str s, .int i v => some [(id, some ⟨.map, 0, [.lst 2 (putS l s (.int i v))]⟩)]
  | _, _, _, _ => none

/-- One operation: the value for its slot, and what becomes of blocks. -/
def opV (P : Program) (Φ : Tab) (n : Nat) (e : Env) (h : Heap) (o : Oper) : Option (V × List (Nat × Option Blk)) :=
  match o.op with
  | .move x => some (evO P e o.type x, [])
  | .assign x => some (evO P e o.type x, [])
  | .pick c a b => (match evO P e o.type c with | .bool t => some (if t then evO P e o.type a else evO P e o.type b, []) | _ => none)
  | .alloc t => (zeroV P t).map fun z => (.ptr n 0 none, [(n, some ⟨.box, z.cells.length, [z]⟩)])
  | .box t x => if storable h (evO P e t x) then some (.ptr n 0 none, [(n, some ⟨.box, (evO P e t x).cells.length, [evO P e t x]⟩)]) else none
  | .build t ps => (match zeroV P t with
    | some (.agg z) => if fieldsFlat P t ∧ P.cellsOf t = z.length then (buildL h (ps.toList.map fun p => (p.1, evO P e t p.2)) z).map fun l => (.agg l, []) else none
    | _ => none)
  | .buildSlice t len ps => (match P.underlying t with
    | some (.slice el) =>
      (match (zeroV P el).bind (clA h) with
       | some (z, []) => if z.cells.length = P.cellsOf el ∧ 0 < P.cellsOf el ∧ len * P.cellsOf el ≤ 16777216 then
           (clParts h (P.cellsOf el) (ps.toList.map fun p => (p.1, evO P e el p.2)) (List.replicate len z)).bind fun r =>
             if nodupB r.2 then some (.own n, gone r.2 ++ [(n, some ⟨.arr, P.cellsOf el, r.1⟩)]) else none
         else none
       | _ => none)
    | _ => none)
  | .load t a => (loadV P h t (evO P e o.type a)).map fun v => (v, [])
  | .store t a x => (storeV P h t (evO P e o.type a) (evO P e t x)).map fun us => (.undef, us)
  | .binOp op t x y _ => (binO P op t y (evO P e t x) (evO P e t y)).map fun v => (v, [])
  | .unOp op _ x => (unV op (evO P e o.type x)).map fun v => (v, [])
  | .convert s d x => convV P h n s d (evO P e s x)
  | .makeFunc (.func f) first caps => if first.size = 0 then some (.fn f (caps.toList.map (evO P e o.type)), []) else none
  | .makeSlice t l c => (match P.underlying t, evO P e o.type l, evO P e o.type c with
    | some (.slice el), .int .i64 a, .int .i64 b =>
      (match (zeroV P el).bind (clA h) with
       | some (z, []) => if z.cells.length = P.cellsOf el ∧ 0 < P.cellsOf el ∧ a = b ∧ 0 ≤ a ∧ a ≤ 9223372036854775807 ∧ a * P.bytesOf el ≤ 140737488355328 then
           some (.own n, [(n, some ⟨.arr, P.cellsOf el, List.replicate a.toNat z⟩)]) else none
       | _ => none)
    | _, _, _ => none)
  | .slice t x lo hi none => (sliceV P h t (evO P e t x) (lo.map (evO P e o.type)) (hi.map (evO P e o.type))).map fun v => (v, [])
  | .slice t x (some lo) (some hi) (some mx) => slice3V P h t (evO P e t x) (evO P e o.type lo) (evO P e o.type hi) (evO P e o.type mx)
  | .nilCheck x => (nilV h (evO P e o.type x)).map fun v => (v, [])
  | .fieldAddr t x f => (fieldAddrV P h t (evO P e o.type x) f).map fun v => (v, [])
  | .field t x f => (match evO P e t x with
    | .agg l => if scalarField P t f then (l[f]?).map fun v => (v, []) else none
    | _ => none)
  | .indexAddr t x i => (match evO P e o.type i with | .int _ j => (indexAddrV P h t (evO P e t x) j).map fun v => (v, []) | _ => none)
  | .index t x i => (match P.underlying t, evO P e t x, evO P e o.type i with
    | some .string, .str s, .int _ j => if 0 ≤ j then (s[j.toNat]?).map fun b => (.int .u8 b.toNat, []) else none
    | _, _, _ => none)
  | .extract x i => (match evO P e o.type x with | .tup l => (l[i]?).map fun v => (v, []) | _ => none)
  | .call c =>
    (match c.callee with
     | .builtin b => builtinV P h n b c.argTypes ((c.args.toList.zip (c.argTypes.toList ++ List.replicate c.args.size 0)).map fun x => evO P e x.2 x.1)
     | .value f => (callee e ((c.args.toList.zip (c.argTypes.toList ++ List.replicate c.args.size 0)).map fun x => evO P e x.2 x.1) f).bind fun p => callV Φ h n p.1 p.2
     | .invoke .. => none)
  | .makeMap t none => some (.ptr n 1 none, [(n, some ⟨.map, 0, [.lst 2 []]⟩)])
  | .lookup t m k true => (lookupV P h t (evO P e t m) (evO P e t k)).map fun v => (v, [])
  | .mapUpdate t m k x => (mapPutV P h t (evO P e t m) (evO P e t k) (evO P e t x)).map fun us => (.undef, us)
  | _ => none

/-! ### regions -/
/-- The room of ids that one operation has. -/
def stride : Nat := 256
def wantedV (ops : Array Oper) (e : Env) (o : Oper) : Option Bool :=
  match o.guard with
  | none => some true
  | some (j, want) => (match (ops[j]?).bind (·.dst) with
    | some d => (match e d with | .bool b => some (b == want) | .void => some false | _ => none)
    | none => none)
def dstOk (nt : Nat) : Option Nat → Bool
  | some d => d < nt
  | none => true
def stepO (P : Program) (Φ : Tab) (ops : Array Oper) (nt n0 i : Nat) (s : Env × Heap) : Option (Env × Heap) :=
  match ops[i]? with
  | none => none
  | some o =>
    if dstOk nt o.dst then
      match wantedV ops s.1 o with
      | none => none
      | some false => some (putE s.1 o.dst .void, s.2)
      | some true => (opV P Φ (n0 + stride * i) s.1 s.2 o).map fun r => (putE s.1 o.dst r.1, updsH s.2 r.2)
    else none
def runL (P : Program) (Φ : Tab) (ops : Array Oper) (nt n0 : Nat) : List Nat → Env × Heap → Option (Env × Heap)
  | [], s => some s
  | i :: l, s => (stepO P Φ ops nt n0 i s).bind (runL P Φ ops nt n0 l)

/-! ### states in a fixed form: what a loop's round begins with -/
def eOf : List (Nat × V) → Env
  | [] => fun _ => .undef
  | (k, v) :: l => fun t => if t = k then v else eOf l t
def hOf : List (Nat × Blk) → Heap
  | [] => fun _ => none
  | (k, b) :: l => fun t => if t = k then some b else hOf l t
/-- All blocks that a value names, its parts' too. -/
def idsV : V → List Nat
  | .tup l => idsL l
  | .fn _ l => idsL l
  | v => idsA v
def idsVL : List V → List Nat
  | [] => []
  | x :: l => idsV x ++ idsVL l
/-- The blocks that are named by values, or by boxes so named (one step). -/
def addNew (acc : List Nat) : List Nat → List Nat
  | [] => acc
  | x :: l => addNew (if acc.contains x then acc else acc ++ [x]) l
def boxIds (h : Heap) : List Nat → List Nat
  | [] => []
  | i :: l => (match h i with
    | some ⟨.box, _, [v]⟩ => idsV v
    | _ => []) ++ boxIds h l
def findIx (x : Nat) : List Nat → Nat → Option Nat
  | [], _ => none
  | y :: l, n => if x = y then some n else findIx x l (n + 1)
def renC (m : List Nat) : V → V
  | .own id => (match findIx id m 0 with | some j => .own j | none => .undef)
  | .win id lo len => (match findIx id m 0 with | some j => .win j lo len | none => .undef)
  | .ptr id i f => (match findIx id m 0 with | some j => .ptr j i f | none => .undef)
  | .agg _ | .tup _ | .fn .. => .undef
  | v => v
def renL (m : List Nat) : List V → List V
  | [] => []
  | x :: l => renC m x :: renL m l
def renV (m : List Nat) : V → V
  | .agg l => .agg (renL m l)
  | .tup l => .tup (renL m l)
  | .fn f l => .fn f (renL m l)
  | v => renC m v
def renVL (m : List Nat) : List V → List V
  | [] => []
  | x :: l => renV m x :: renVL m l
def renB (m : List Nat) : Blk → Option Blk
  | ⟨.box, sz, [v]⟩ => if boxableA (renV m v) then some ⟨.box, sz, [renV m v]⟩ else none
  | ⟨.arr, sz, els⟩ => some ⟨.arr, sz, els⟩
  | ⟨.map, sz, els⟩ => some ⟨.map, sz, els⟩
  | _ => none
def keepE (m : List Nat) (e : Env) : List Nat → List (Nat × V)
  | [] => []
  | t :: l => (t, renV m (e t)) :: keepE m e l
def keepH (m : List Nat) (h : Heap) : List Nat → Nat → List (Nat × Blk)
  | [], _ => []
  | i :: l, n => (match h i with
    | some b => (match renB m b with | some b' => [(n, b')] | none => [])
    | none => []) ++ keepH m h l (n + 1)
def envVals (e : Env) : List Nat → List V
  | [] => []
  | t :: l => e t :: envVals e l
def roots (keep : List Nat) (s : St) : List Nat :=
  addNew (addNew [] (idsVL s.io ++ idsVL (envVals s.env keep))) (boxIds s.heap (addNew [] (idsVL s.io ++ idsVL (envVals s.env keep))))
/-- The state with the named slots alone, its blocks numbered from 0 on. -/
def canon (keep : List Nat) (s : St) : St :=
  { env := eOf (keepE (roots keep s) s.env keep), heap := hOf (keepH (roots keep s) s.heap (roots keep s) 0), next := (roots keep s).length, nt := s.nt, io := renVL (roots keep s) s.io }

/-! ### regions that draw their order -/
/-- 0: has nothing to do with blocks; 1: reads the blocks that its operand names; 2: else. -/
def clsO (o : Oper) : Nat :=
  match o.op with
  | .move _ | .assign _ | .pick .. | .binOp .. | .unOp .. | .extract .. | .field .. | .index .. => 0
  | .load .. | .nilCheck _ | .fieldAddr .. | .indexAddr .. | .slice _ _ _ _ none => 1
  | .build .. => 1
  | .call { callee := .builtin .len, .. } => 1
  | .buildSlice .. => 3
  | .alloc _ => 3
  | .convert .. => 3
  | .call { callee := .value _, .. } => 4
  | .call { callee := .builtin .append, .. } => 3
  | _ => 2
def idsOA (e : Env) : Operand → List Nat
  | .tmp t => idsA (e t)
  | _ => []
def idsO (e : Env) : Operand → List Nat
  | .tmp t => idsC (e t)
  | _ => []
/-- All blocks that a value names, its parts' too. -/
def idsW : V → List Nat
  | .fn _ l => l.flatMap idsA
  | .tup l => l.flatMap idsA
  | v => idsA v
/-- What a function value's captured values name. -/
def idsOF (e : Env) : Operand → List Nat
  | .tmp t => (match e t with
    | .fn _ l => l.flatMap idsW
    | _ => [])
  | _ => []
def idsOV (e : Env) : Operand → List Nat
  | .tmp t => idsW (e t)
  | _ => []
def readsC (e : Env) (f : Callee) (args : Array Operand) : List Nat :=
  match f with
  | .builtin .append => args.toList.flatMap (idsOA e)
  | .value g => idsOF e g ++ args.toList.flatMap (idsOV e)
  | _ => (match args[0]? with | some x => idsO e x | none => [])
def readsO (e : Env) (o : Oper) : List Nat :=
  match o.op with
  | .load _ x | .fieldAddr _ x _ | .indexAddr _ x _ | .slice _ x _ _ _ => idsO e x
  | .convert _ _ x => idsO e x
  | .nilCheck x => idsO e x
  | .buildSlice _ _ ps => ps.toList.flatMap fun p => idsOA e p.2
  | .build _ ps => ps.toList.flatMap fun p => idsO e p.2
  | .call c => readsC e c.callee c.args
  | _ => []
/-- A call looks into the boxes that it names, too. -/
def deepR (h : Heap) (o : Oper) (l : List Nat) : List Nat :=
  match o.op with
  | .call { callee := .value _, .. } => l ++ boxIds h l
  | _ => l
def readsH (h : Heap) (e : Env) (o : Oper) : List Nat := deepR h o (readsO e o)
/-- One operation: its value, what becomes of blocks, which it looks into. -/
def resO (P : Program) (Φ : Tab) (ops : Array Oper) (nt n : Nat) (o : Oper) (e : Env) (h : Heap) : Option (V × List (Nat × Option Blk) × List Nat) :=
  if dstOk nt o.dst then
    match wantedV ops e o with
    | none => none
    | some false => some (.void, [], [])
    | some true => (opV P Φ n e h o).map fun r => (r.1, r.2, readsH h e o)
  else none
abbrev Fp := Nat × List Nat × List Nat
def runT (P : Program) (Φ : Tab) (ops : Array Oper) (nt n0 : Nat) : List Nat → Env × Heap → Option ((Env × Heap) × List Fp)
  | [], s => some (s, [])
  | i :: l, s => (ops[i]?).bind fun o => (resO P Φ ops nt (n0 + stride * i) o s.1 s.2).bind fun r =>
      (runT P Φ ops nt n0 l (putE s.1 o.dst r.1, updsH s.2 r.2.1)).map fun q => (q.1, (i, r.2.2, r.2.1.map (·.1)) :: q.2)

def edgesOf (o : Oper) : List Nat := (o.after.toList.filter fun e => Region.binds .any e).map (·.on)
/-- All that must stand before, for each operation. -/
def ancs : List Oper → List (List Nat) → List (List Nat)
  | [], acc => acc
  | o :: os, acc => ancs os (acc ++ [(edgesOf o).flatMap (fun i => i :: acc.getD i [])])
/-- An operation whose outcome its own blocks tell. -/
def okc (o : Oper) : Bool := clsO o == 3 || clsO o == 4
def pairChk (ops : Array Oper) (need : List (Nat × Nat)) (A : List (List Nat)) (i a : Nat) : Bool :=
  match ops[i]?, ops[a]? with
  | some oi, some oa => (A.getD i []).contains a ||
      (oa.apart ops oi && (clsO oa == 0 || clsO oi == 0 || (clsO oa == 1 && clsO oi == 1) || ((clsO oa == 1 || clsO oi == 1 || (okc oa && okc oi)) && need.contains (a, i))))
  | _, _ => false
/-- The operations may stand in any order that the edges leave, where the named pairs meet in no block. -/
def orderChk (ops : Array Oper) (need : List (Nat × Nat)) : Bool :=
  (List.range ops.size).all fun i =>
    (match ops[i]? with | some o => (edgesOf o).all (· < i) | none => false) &&
    (List.range i).all fun a => pairChk ops need (ancs ops.toList []) i a
def fpOf (i : Nat) : List Fp → Option (List Nat × List Nat)
  | [] => none
  | (j, r) :: l => if j = i then some r else fpOf i l
def dynOk : List (Nat × Nat) → List Fp → Bool
  | [], _ => true
  | (a, i) :: l, tr => (match fpOf a tr, fpOf i tr with
    | some x, some y => disjB x.1 y.2 && disjB y.1 x.2 && disjB x.2 y.2
    | _, _ => false) && dynOk l tr

/-! ### the code -/
/-- The region's operations, in a given order. -/
def regionV (P : Program) (Φ : Tab) (ops : Array Oper) (s : St) (l : List Nat) : Option St :=
  (runL P Φ ops s.nt s.next l (s.env, s.heap)).map fun r => { env := r.1, heap := r.2, next := s.next + stride * ops.size, nt := s.nt, io := s.io }
/-- A region that draws its order. -/
def drawV (P : Program) (Φ : Tab) (ops : Array Oper) (need : List (Nat × Nat)) (s : St) : Option St :=
  (runT P Φ ops s.nt s.next (List.range ops.size) (s.env, s.heap)).bind fun q =>
    if dynOk need q.2 then some { env := q.1.1, heap := q.1.2, next := s.next + stride * ops.size, nt := s.nt, io := s.io } else none

/-- What is told beside the code: the pairs of operations to look at, for a region that draws its order; the slots that a loop's round begins with. -/
structure Hints where
  ord : Nat → Option (List (Nat × Nat))
  keep : Nat → Option (List Nat)
  cut : Nat → Option (List Nat)
  opn : Nat → Option ((Nat × List (Option Nat)) × (Nat × List (Option Nat)))
  /-- Slots whose arrays are read alone from a loop on. -/
  frz : Nat → List Nat
def lf : List (Nat × List Nat) → Nat → List Nat
  | [], _ => []
  | (a, v) :: l, i => if i = a then v else lf l i
/-- A slot's own array stands as data that is read. -/
def frz1 (t : Nat) (s : St) : St := match s.env t with
  | .own id => (match s.heap id with
    | some ⟨.arr, sz, els⟩ => { env := updE s.env t (.lst sz els), heap := updH s.heap id none, next := s.next, nt := s.nt, io := s.io }
    | _ => s)
  | _ => s
def frzS : List Nat → St → St
  | [], s => s
  | t :: l, s => frzS l (frz1 t s)

/-! ### an element's inner arrays stand as blocks of their own for one region -/
/-- A value behind pointers to boxes (none) and in fields. -/
def pathV (h : Heap) : List (Option Nat) → V → Option V
  | [], v => some v
  | none :: p, .ptr id 0 none => (match h id with
    | some ⟨.box, _, [v]⟩ => pathV h p v
    | _ => none)
  | some f :: p, .agg l => (l[f]?).bind (pathV h p)
  | _, _ => none
def openAt (e : Env) (h : Heap) (q : (Nat × List (Option Nat)) × (Nat × List (Option Nat))) : Option (Nat × Nat) :=
  match pathV h q.1.2 (e q.1.1), pathV h q.2.2 (e q.2.1) with
  | some (.own id), some (.int _ i) => if 0 ≤ i then some (id, i.toNat) else none
  | _, _ => none
def openB (n : Nat) (h : Heap) (id i : Nat) : Option Heap :=
  match h id with
  | some ⟨.arr, sz, els⟩ => (match els[i]? with
    | some x => if boxableA (adA n x).1 then some (updH (updsH h (adA n x).2) id (some ⟨.opn i, sz, els.set i (adA n x).1⟩)) else none
    | none => none)
  | _ => none
def bkC (h : Heap) : V → V × List Nat
  | .own n => (match h n with
    | some ⟨.arr, sz, l⟩ => (.lst sz l, [n])
    | _ => (.hole, []))
  | .int k n => (.int k n, [])
  | .bool b => (.bool b, [])
  | .str s => (.str s, [])
  | _ => (.hole, [])
def bkL (h : Heap) : List V → List V × List Nat
  | [] => ([], [])
  | x :: l => ((bkC h x).1 :: (bkL h l).1, (bkC h x).2 ++ (bkL h l).2)
def bkA (h : Heap) : V → V × List Nat
  | .agg l => (.agg (bkL h l).1, (bkL h l).2)
  | v => bkC h v
def closeB (h : Heap) (id : Nat) : Heap :=
  match h id with
  | some ⟨.opn i, sz, els⟩ => (match els[i]? with
    | some x => if nodupB (bkA h x).2 then updH (updsH h ((bkA h x).2.map fun k => (k, none))) id (some ⟨.arr, sz, els.set i (bkA h x).1⟩) else h
    | none => h)
  | _ => h
/-- The state with the element opened; which block. -/
def openS (o : Option ((Nat × List (Option Nat)) × (Nat × List (Option Nat)))) (s : St) : St × Option Nat :=
  match o with
  | none => (s, none)
  | some q => (match openAt s.env s.heap q with
    | some (id, i) => (match openB s.next s.heap id i with
      | some h => ({ env := s.env, heap := h, next := s.next + stride, nt := s.nt, io := s.io }, some id)
      | none => (s, none))
    | none => (s, none))
def closeS (o : Option Nat) (s : St) : St := match o with
  | none => s
  | some id => { env := s.env, heap := closeB s.heap id, next := s.next, nt := s.nt, io := s.io }

def keepR (e : Env) : List Nat → List (Nat × V)
  | [] => []
  | t :: l => (t, e t) :: keepR e l
/-- The slots that are still wanted. -/
def cutV (o : Option (List Nat)) (e : Env) : Env := match o with | none => e | some l => eOf (keepR e l)
def cutS (o : Option (List Nat)) (s : St) : St := { env := cutV o s.env, heap := s.heap, next := s.next, nt := s.nt, io := s.io }

/-- A loop's name: the first region in it. -/
def firstRegion : Code → Nat
  | .region id _ _ => id
  | .seq a _ => firstRegion a
  | .block _ c | .loop c | .scope c => firstRegion c
  | _ => 0

variable (P : Program) (Φ : Tab) (T : Hints) in
def go : Nat → List Item → St → Option St
  | 0, _, _ => none
  | n + 1, k, s =>
    match k with
    | [] => some s
    | .code .ret :: _ => some s
    | .code .skip :: k | .inBlock _ :: k | .inScope _ :: k => go n k s
    | .code (.seq a b) :: k => go n (.code a :: .code b :: k) s
    | .code (.cond c x y) :: k => (match evO P s.env 0 c with
      | .bool b => go n (.code (if b then x else y) :: k) s
      | _ => none)
    | .code (.block id c) :: k => go n (.code c :: .inBlock id :: k) s
    | .code (.loop c) :: k | .inLoop c :: k => (match T.keep (firstRegion c) with
      | some l => go n (.code c :: .inLoop c :: k) (canon l (frzS (T.frz (firstRegion c)) s))
      | none => go n (.code c :: .inLoop c :: k) s)
    | .code (.scope c) :: k => go n (.code c :: .inScope c :: k) s
    | .code (.exit id) :: k => (match exitTo id k with | some k' => go n k' s | none => none)
    | .code (.region id ops draw) :: k =>
      if draw then
        (match T.ord id with
         | some need => if orderChk ops need then (drawV P Φ ops need (openS (T.opn id) s).1).bind (fun s' => go n k (cutS (T.cut id) (closeS (openS (T.opn id) s).2 s'))) else none
         | none => none)
      else (regionV P Φ ops (openS (T.opn id) s).1 (List.range ops.size)).bind (fun s' => go n k (cutS (T.cut id) (closeS (openS (T.opn id) s).2 s')))
    | _ => none

end Go.VM
