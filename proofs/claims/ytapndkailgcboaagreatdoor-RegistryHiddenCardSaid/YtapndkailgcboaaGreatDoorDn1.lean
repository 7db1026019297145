/- Dn1: texts Ze01 .. Ze05 in one. -/
import GoSem.Dispatch
import Derived.Orders
import Derived.WalkKit
import Derived.Lib.LaidTab
import Derived.Lib.ItoaNum
import Derived.Laws.BytesArg
/- An abstract interpreter of the model's code: values as trees, slices by value, variables in memory as numbered objects. Definitions. -/
namespace Go.Den
open Go

/-- Data: what an argument reads as, without memory. A slice bears its elements' type. -/
inductive E where
  | int (k : IntKind) (n : Int)
  | bool (b : Bool)
  | str (s : List UInt8)
  | sl (et : TypeId) (xs : List E)
  | agg (cs : List E)
  | ifc (t : TypeId) (x : E)
  | nili
  deriving Inhabited

def E.cells : E → List E
  | .agg cs => cs
  | x => [x]
def E.toInt : E → Int | .int _ n => n | _ => 0
def E.toBool : E → Bool | .bool b => b | _ => false
def E.toStr : E → List UInt8 | .str s => s | _ => []
def E.toList : E → List E | .sl _ xs => xs | _ => []
def E.cell (y : E) (j : Nat) : E := y.cells.getD j .nili

/-- What a slot of a frame, or a cell of an object, holds. -/
inductive AV where
  | e (x : E)
  | nils (et : TypeId)
  | nilc (et : TypeId)
  | nil0 (et : TypeId)
  | sn (et : TypeId) (xs : List E)
  | own (id : Nat) (et : TypeId) (xs : List E)
  | agg (cs : List AV)
  | tup (vs : List AV)
  | ptr (id off : Nat)
  | nilp
  | pin (et : TypeId) (y : E) (off : Nat)
  | fn (f : FuncId)
  | clo (f : FuncId) (ps : List (Nat × Nat))
  | itr (id : Nat)
  | nsp (id : Nat) (t : TypeId)
  | mv (id : Nat) (et : TypeId) (n off len : Nat)
  | eptr (id n i j : Nat)
  | mp (id : Nat)
  | nilm
  | ni
  | undef
  deriving Inhabited

/-- An object that is no row of cells: a string's iterator; an array whose elements may be written (data, and what lies over them); a map. -/
inductive Raw where
  | iter (s : List UInt8) (pos : Nat)
  | arr (et : TypeId) (xs : List E) (ov : List (Nat × Nat × AV))
  | map (kt vt : TypeId) (es : List (E × AV))
  deriving Inhabited

def Raw.kind : Raw → Nat × TypeId
  | .iter .. => (0, 0)
  | .arr et .. => (1, et)
  | .map kt .. => (2, kt)
def Raw.size : Raw → Nat
  | .arr _ xs _ => xs.length
  | _ => 0

/-- What lies over an element's cell. -/
def ovAt : List (Nat × Nat × AV) → Nat → Nat → Option AV
  | [], _, _ => none
  | (i0, j0, a) :: r, i, j => cond (j0 == j) (cond (i0 == i) (some a) (ovAt r i j)) (ovAt r i j)

/-- An object: a variable in memory; a growing slice, of which its newest length is kept; a place that is kept free for one. -/
inductive Ob where
  | box (cells : List AV)
  | vec (et : TypeId) (n : Nat)
  | raw (r : Raw)
  | dead
  | hole
  deriving Inhabited

abbrev Heap := List Ob
abbrev Fr := List AV

inductive Ex where
  | norm
  | exit (id : Nat)
  | ret
  | pan (x : E)

/-- A call that is put off. -/
structure Df where
  f : FuncId
  args : List AV

structure Out where
  ex : Ex
  fr : Fr
  hp : Heap
  df : List Df

/-- What a call comes to: it returns; it panics; it returns and has recovered its caller's panic. -/
inductive Res where
  | ret (v : AV)
  | pan (x : E)
  | rcv (v : AV)

/-- How a function is called: plainly; or put off, by a caller that panics or doesn't. -/
abbrev Mode := Option (Option E)

/-- What is to be done, one step at a time. -/
inductive T where
  | fail
  | res (r : Res) (h : Heap)
  | out (o : Out)
  | br (b : Bool) (x y : T)
  | call (m : Mode) (f : FuncId) (as : List AV) (σ : Heap) (k : Res × Heap → T)
  | loop (b : Code) (fr : Fr) (σ : Heap) (k : Out → T)

abbrev RunF := Mode → FuncId → List AV → Heap → Option (Res × Heap)
abbrev LoopF := FuncId → Nat → Code → Fr → Heap → Option Out

/-- What it comes to. -/
def T.go {R : Type} (run : RunF) (loop : Code → Fr → Heap → Option Out) (lr : Res → Heap → Option R) (lo : Out → Option R) : T → Option R
  | .res r h => lr r h
  | .out o => lo o
  | .br b x y => cond b (x.go run loop lr lo) (y.go run loop lr lo)
  | .call m f as σ k => (run m f as σ).bind fun r => (k r).go run loop lr lo
  | .loop b fr σ k => (loop b fr σ).bind fun o => (k o).go run loop lr lo
  | .fail => none
/-- A function's end. -/
def T.runs (run : RunF) (loop : Code → Fr → Heap → Option Out) (t : T) : Option (Res × Heap) := t.go run loop (fun r h => some (r, h)) fun _ => none
/-- A loop's end. -/
def T.outs (run : RunF) (loop : Code → Fr → Heap → Option Out) (t : T) : Option Out := t.go run loop (fun _ _ => none) some
/-- What it comes to without a call. -/
def T.quick (t : T) : Option (Res × Heap) := t.runs (fun _ _ _ _ => none) fun _ _ _ => none
def T.quickO (t : T) : Option Out := t.outs (fun _ _ _ _ => none) fun _ _ _ => none

/-! ### Types -/

def depth : Nat := 12

/-- The types of a variable's cells. -/
def flat (P : Program) : Nat → TypeId → Option (List TypeId)
  | 0, _ => none
  | d + 1, t =>
    match P.underlying t with
    | some (.struct fs) => (fs.toList.mapM fun f => flat P d f.type).map List.flatten
    | some (.array n e) => (flat P d e).map fun l => (List.replicate n l).flatten
    | some _ => some [t]
    | none => none

def isAggB (P : Program) (t : TypeId) : Bool :=
  match P.underlying t with
  | some (.struct _) | some (.array _ _) => true
  | _ => false

def sizeB (P : Program) (t : TypeId) : Option Nat :=
  match P.underlying t, P.info? t with
  | some _, some i => some i.size
  | _, _ => none

/-- A cell of a type, by its parts. -/
def canon (P : Program) (ct : TypeId) (x : E) : Option E :=
  match P.underlying ct with
  | some (.int k) => some (.int k x.toInt)
  | some .bool => some (.bool x.toBool)
  | some .string => some (.str x.toStr)
  | some (.slice e) => some (.sl e x.toList)
  | _ => none

/-- Is a cell of a type: by its head alone. -/
def okCell (P : Program) (ct : TypeId) (x : E) : Bool :=
  match P.underlying ct, x with
  | some (.int k), .int k' _ => k == k'
  | some .bool, .bool _ => true
  | some .string, .str _ => true
  | some (.slice e), .sl e' _ => e == e'
  | _, _ => false

def okRow (P : Program) (et : TypeId) (y : E) : Bool :=
  match flat P depth et with
  | some fs => fs.length == y.cells.length && (fs.zip y.cells).all fun (ct, c) => okCell P ct c
  | none => false

/-! ### Values -/

def AV.cells : AV → List AV
  | .agg cs => cs
  | v => [v]

/-- What may stand in one cell of an object. -/
def AV.one : AV → Bool
  | .e (.agg _) => false
  | .e _ | .nils _ | .nilc _ | .nil0 _ | .sn .. | .own .. | .ptr .. | .nilp | .pin .. | .fn _ | .clo .. | .itr _ | .nsp .. | .mv .. | .eptr .. | .mp _ | .nilm => true
  | _ => false

/-- The data of a cell. -/
def AV.seal1 : AV → Option E
  | .e x => some x
  | .nils t => some (.sl t [])
  | .nilc t => some (.sl t [])
  | .nil0 t => some (.sl t [])
  | .sn t xs => some (.sl t xs)
  | .own _ t xs => some (.sl t xs)
  | _ => none

def AV.dat : AV → Option E
  | .agg cs => (cs.mapM AV.seal1).map E.agg
  | v => v.seal1

def unfold1 : E → Option AV
  | .agg cs => if cs.all (fun c => (AV.e c).one) = true then some (.agg (cs.map AV.e)) else none
  | x => some (.e x)

/-- A value without rights to grow, where it is data; else itself. -/
def AV.calm1 (v : AV) : AV :=
  match v.seal1 with
  | some x => .e x
  | none => v

def AV.calm : AV → AV
  | .agg cs => .agg (cs.map AV.calm1)
  | .tup _ => .undef
  | v => v.calm1

/-- .. with its rights to grow. -/
def AV.keep : AV → AV
  | .tup _ => .undef
  | v => v
/-- What is handed to a function, or by it. -/
def AV.handed (own : Bool) (v : AV) : AV := cond own v.keep v.calm

def AV.calmT : AV → AV
  | .tup vs => .tup (vs.map AV.calm)
  | v => v.calm

/-! ### Objects that a value names -/

def AV.ids1 : AV → List Nat
  | .own id _ _ => [id]
  | .ptr id _ => [id]
  | .clo _ ps => ps.map (·.1)
  | .itr id => [id]
  | .nsp id _ => [id]
  | .mv id .. => [id]
  | .eptr id .. => [id]
  | .mp id => [id]
  | _ => []
def AV.ids2 : AV → List Nat
  | .agg cs => cs.flatMap AV.ids1
  | v => v.ids1
def AV.ids3 : AV → List Nat
  | .tup vs => vs.flatMap AV.ids2
  | v => v.ids2
def Raw.ids : Raw → List Nat
  | .iter .. => []
  | .arr _ _ ov => ov.flatMap fun p => p.2.2.ids1
  | .map _ _ es => es.flatMap fun p => p.2.ids2
def Ob.ids : Ob → List Nat
  | .box cs => cs.flatMap AV.ids1
  | .raw r => r.ids
  | _ => []

def AV.ren1 (r : Nat → Nat) : AV → AV
  | .own id t xs => .own (r id) t xs
  | .ptr id off => .ptr (r id) off
  | .clo f ps => .clo f (ps.map fun p => (r p.1, p.2))
  | .itr id => .itr (r id)
  | .nsp id t => .nsp (r id) t
  | .mv id t n off len => .mv (r id) t n off len
  | .eptr id n i j => .eptr (r id) n i j
  | .mp id => .mp (r id)
  | v => v
def AV.ren2 (r : Nat → Nat) : AV → AV
  | .agg cs => .agg (cs.map (AV.ren1 r))
  | v => v.ren1 r
def AV.ren3 (r : Nat → Nat) : AV → AV
  | .tup vs => .tup (vs.map (AV.ren2 r))
  | v => v.ren2 r
def Raw.ren (r : Nat → Nat) : Raw → Raw
  | .arr et xs ov => .arr et xs (ov.map fun p => (p.1, p.2.1, p.2.2.ren1 r))
  | .map kt vt es => .map kt vt (es.map fun p => (p.1, p.2.ren2 r))
  | q => q
def Ob.ren (r : Nat → Nat) : Ob → Ob
  | .box cs => .box (cs.map (AV.ren1 r))
  | .raw q => .raw (q.ren r)
  | o => o

def addNew : List Nat → List Nat → List Nat
  | acc, [] => acc
  | acc, i :: is => addNew (if acc.contains i then acc else acc ++ [i]) is

/-- The numbers that can be reached from 'ids', in the order in which they are met. -/
def idsAt (σ : Heap) (id : Nat) : List Nat := match σ[id]? with | some o => o.ids | none => []
def closure (σ : Heap) : Nat → List Nat → List Nat
  | 0, ids => ids
  | k + 1, ids => closure σ k (addNew ids (ids.flatMap (idsAt σ)))

def idx (ids : List Nat) (id : Nat) : Nat := ids.findIdx (· == id)
def unidx (ids : List Nat) (k : Nat) : Nat := ids.getD k 0

/-- The objects 'ids', numbered anew. (none: one of them is not there, or names one that is not among them.) -/
def subHeap (σ : Heap) (ids : List Nat) : Option Heap :=
  ids.mapM fun id => match σ[id]? with
    | some .hole => none
    | some o => if o.ids.all ids.contains then some (o.ren (idx ids)) else none
    | none => none

/-! ### Operations -/

def evalO : Fr → Operand → Option AV
  | fr, .tmp t => fr[t]?
  | _, .const (.int k n) => some (.e (.int k n))
  | _, .const (.bool b) => some (.e (.bool b))
  | _, .const (.string s) => some (.e (.str s.data.toList))
  | _, .const (.pointer none) => some .nilp
  | _, .const .nilIface => some (.e .nili)
  | _, .const (.map none) => some .nilm
  | _, .func f => some (.fn f)
  | _, _ => none

/-- The zero value of a cell, and that the model's own is that. -/
def zeroCell (P : Program) (ct : TypeId) : Option AV :=
  match P.underlying ct with
  | some (.int k) => some (.e (.int k 0))
  | some .bool => some (.e (.bool false))
  | some .string => some (.e (.str []))
  | some (.slice e) => if (flat P depth e).isSome = true then some (.nils e) else none
  | some (.pointer _) => some .nilp
  | some (.interface _) => some (.e .nili)
  | some (.map _ _) => some .nilm
  | _ => none
def isZero : Value → AV → Bool
  | .int k n, .e (.int k' n') => k == k' && n == n'
  | .bool b, .e (.bool b') => b == b'
  | .string s, .e (.str s') => s.data.toList == s'
  | .slice none 0 0, .nils _ => true
  | .pointer none, .nilp => true
  | .nilIface, .e .nili => true
  | .map none, .nilm => true
  | _, _ => false
def zeroOf (P : Program) (t : TypeId) : Option AV :=
  match P.info? t, flat P depth t with
  | some i, some ft =>
    match i.zero, ft.mapM (zeroCell P) with
    | some z, some cs =>
      if isAggB P t then
        match z with
        | .agg arr => if arr.toList.length = cs.length ∧ (arr.toList.zip cs).all (fun p => isZero p.1 p.2) = true then some (.agg cs) else none
        | _ => none
      else
        match cs with
        | [c] => if isZero z c then some c else none
        | _ => none
    | _, _ => none
  | _, _ => none

/-- An operand that may be the nil slice, at a slice type. -/
def evalT (P : Program) (t : TypeId) (fr : Fr) (x : Operand) : Option AV :=
  match x with
  | .const (.slice none 0 0) =>
    match P.underlying t with
    | some (.slice et) => if (flat P depth et).isSome = true then some (.nils et) else none
    | _ => none
  | .const (.agg arr) =>
    match zeroOf P t with
    | some (.agg cs) => if arr.toList.length = cs.length ∧ (arr.toList.zip cs).all (fun p => isZero p.1 p.2) = true then some (.agg cs) else none
    | _ => none
  | x => evalO fr x

def strEq (a b : List UInt8) : Bool := a == b

def bitsOp (op : BinOp) (k : IntKind) (x y : Int) : Option Int :=
  let a := BitVec.ofInt k.bits x
  let b := BitVec.ofInt k.bits y
  match op with
  | .and => some (k.wrap (a &&& b).toNat)
  | .or => some (k.wrap (a ||| b).toNat)
  | .xor => some (k.wrap (a ^^^ b).toNat)
  | .andNot => some (k.wrap (a &&& ~~~b).toNat)
  | _ => none

/-- A part of a value, at a place. -/
def partA (agg : Bool) (cs : List AV) (off n : Nat) : AV := if agg = true then .agg ((cs.drop off).take n) else cs.getD off .undef

/-- Are two values equal, part by part? -/
def eqBy (P : Program) : Nat → TypeId → AV → AV → Option Bool
  | 0, _, _, _ => none
  | d + 1, t, x, y =>
    match P.underlying t, x, y with
    | some (.struct fs), .agg as, .agg bs =>
      if P.stoodInHeld t = true then none
      else fs.toList.foldr (fun f r =>
        if f.name = "_" then none else
        match sizeB P f.type with
        | some n =>
          match eqBy P d f.type (partA (isAggB P f.type) as f.offset n) (partA (isAggB P f.type) bs f.offset n), r with
          | some b, some c => some (b && c)
          | _, _ => none
        | none => none) (some true)
    | some (.int _), .e (.int k a), .e (.int k' b) => if k = k' then some (a == b) else none
    | some .bool, .e (.bool a), .e (.bool b) => some (a == b)
    | some .string, .e (.str a), .e (.str b) => some (strEq a b)
    | _, _, _ => none

/-- A binary operation: what must hold, and the value. -/
def evalBin (P : Program) (t : TypeId) (op : BinOp) (x y : AV) : Option (Bool × E) :=
  match op, x, y with
  | .shl, .e (.int k a), .e (.int _ b) => some (decide (0 ≤ b), .int k (k.wrap (a * 2 ^ (min b.toNat k.bits))))
  | .shr, .e (.int k a), .e (.int _ b) => some (decide (0 ≤ b), .int k (a.fdiv (2 ^ (min b.toNat k.bits))))
  | op, .e (.int k a), .e (.int k' b) =>
    if k = k' then
      match op with
      | .add => some (true, .int k (k.wrap (a + b)))
      | .sub => some (true, .int k (k.wrap (a - b)))
      | .mul => some (true, .int k (k.wrap (a * b)))
      | .quo => some (!decide (b = 0), .int k (k.wrap (a.tdiv b)))
      | .rem => some (!decide (b = 0), .int k (a.tmod b))
      | .and | .or | .xor | .andNot => (bitsOp op k a b).map fun n => (true, .int k n)
      | .eql => some (true, .bool (a == b))
      | .neq => some (true, .bool (!(a == b)))
      | .lss => some (true, .bool (decide (a < b)))
      | .leq => some (true, .bool (decide (a ≤ b)))
      | .gtr => some (true, .bool (decide (b < a)))
      | .geq => some (true, .bool (decide (b ≤ a)))
      | _ => none
    else none
  | op, .e (.str a), .e (.str b) =>
    match op with
    | .add => some (decide (a.length + b.length ≤ 9223372036854775807), .str (a ++ b))
    | .eql => some (true, .bool (strEq a b))
    | .neq => some (true, .bool (!strEq a b))
    | .lss => some (true, .bool (Op.bytesLess a b))
    | .leq => some (true, .bool (Op.bytesLess a b || strEq a b))
    | .gtr => some (true, .bool (!(Op.bytesLess a b || strEq a b)))
    | .geq => some (true, .bool (!Op.bytesLess a b))
    | _ => none
  | op, .e (.bool a), .e (.bool b) =>
    match P.underlying t, op with
    | some .bool, .eql => some (true, .bool (a == b))
    | some .bool, .neq => some (true, .bool (!(a == b)))
    | _, _ => none
  | op, .e .nili, .e .nili =>
    match P.underlying t, op with
    | some (.interface ms), .eql => if ms.isEmpty = true then some (true, .bool true) else none
    | some (.interface ms), .neq => if ms.isEmpty = true then some (true, .bool false) else none
    | _, _ => none
  | op, .e .nili, .e (.ifc ..) =>
    match P.underlying t, op with
    | some (.interface _), .eql => some (true, .bool false)
    | some (.interface _), .neq => some (true, .bool true)
    | _, _ => none
  | op, .e (.ifc ..), .e .nili =>
    match P.underlying t, op with
    | some (.interface _), .eql => some (true, .bool false)
    | some (.interface _), .neq => some (true, .bool true)
    | _, _ => none
  | .eql, .agg as, .agg bs => if P.eqGuardType P.depth t = true then none else (eqBy P depth t (.agg as) (.agg bs)).map fun b => (true, .bool b)
  | .neq, .agg as, .agg bs => if P.eqGuardType P.depth t = true then none else (eqBy P depth t (.agg as) (.agg bs)).map fun b => (true, .bool (!b))
  | _, _, _ => none

def isNilO : Operand → Bool
  | .const .nilIface => true
  | _ => false

/-- An interface value held against the literal nil. -/
def evalNil (P : Program) (t : TypeId) (op : BinOp) (x : AV) : Option E :=
  match P.underlying t, op, x with
  | some (.interface _), .eql, .e .nili => some (.bool true)
  | some (.interface _), .neq, .e .nili => some (.bool false)
  | some (.interface _), .eql, .e (.ifc ..) => some (.bool false)
  | some (.interface _), .neq, .e (.ifc ..) => some (.bool true)
  | some (.interface _), .eql, .ni => some (.bool false)
  | some (.interface _), .neq, .ni => some (.bool true)
  | _, _, _ => none
/-- A slice held against nil. -/
def evalNilS (P : Program) (t : TypeId) (op : BinOp) (x : AV) : Option E :=
  match P.underlying t, op, x with
  | some (.slice _), .eql, .nils _ => some (.bool true)
  | some (.slice _), .neq, .nils _ => some (.bool false)
  | some (.slice _), .eql, .nil0 _ => some (.bool true)
  | some (.slice _), .neq, .nil0 _ => some (.bool false)
  | some (.slice _), .eql, .sn .. => some (.bool false)
  | some (.slice _), .neq, .sn .. => some (.bool true)
  | some (.slice _), .eql, .mv .. => some (.bool false)
  | some (.slice _), .neq, .mv .. => some (.bool true)
  | _, _, _ => none
def isNilS : Operand → Bool
  | .const (.slice none _ _) => true
  | _ => false
def evalCmp (P : Program) (t : TypeId) (op : BinOp) (nil : Bool) (x y : AV) : Option (Bool × E) :=
  if nil = true then (evalNil P t op x).map fun e => (true, e) else evalBin P t op x y

def evalUn (op : UnOp) (x : AV) : Option E :=
  match op, x with
  | .neg, .e (.int k n) => some (.int k (k.wrap (0 - n)))
  | .not, .e (.bool b) => some (.bool (!b))
  | _, _ => none

/-- A bound of a slice expression. -/
def sliceL (fr : Fr) : Option Operand → Option Int
  | none => some 0
  | some x => match evalO fr x with | some (.e (.int _ n)) => some n | _ => none
def sliceH (fr : Fr) (len : Nat) : Option Operand → Option Int
  | none => some len
  | some x => match evalO fr x with | some (.e (.int _ n)) => some n | _ => none

def loadPin (P : Program) (t et : TypeId) (y : E) (off : Nat) : Option AV :=
  match flat P depth et, flat P depth t with
  | some fe, some ft =>
    if (fe.drop off).take ft.length = ft then
      if isAggB P t then
        (ft.zipIdx.mapM fun (ct, j) => (canon P ct (y.cell (off + j))).map AV.e).map AV.agg
      else
        match ft with
        | [ct] => (canon P ct (y.cell off)).map AV.e
        | _ => none
    else none
  | _, _ => none

def splice (cs : List AV) (off : Nat) (vs : List AV) : List AV := cs.take off ++ vs ++ cs.drop (off + vs.length)

/-! ### Arrays whose elements may be written -/

/-- A cell of an element. -/
def cellA (P : Program) (ov : List (Nat × Nat × AV)) (y : E) (i : Nat) (p : TypeId × Nat) : Option AV :=
  match ovAt ov i p.2 with
  | some a => some a
  | none => (canon P p.1 (y.cell p.2)).map AV.e
def wholeA (P : Program) (t : TypeId) (cs : List AV) : Option AV :=
  if isAggB P t then some (.agg cs) else match cs with | [c] => some c | _ => none
/-- The cells of a type's part of an element, from cell j on. -/
def fitA (P : Program) (t et : TypeId) (j : Nat) : Option (List (TypeId × Nat)) :=
  match flat P depth et, flat P depth t with
  | some fe, some ft => if (fe.drop j).take ft.length = ft ∧ sizeB P t = some ft.length then some (ft.zipIdx.map fun p => (p.1, j + p.2)) else none
  | _, _ => none
def loadArr (P : Program) (t et : TypeId) (xs : List E) (ov : List (Nat × Nat × AV)) (i j : Nat) : Option AV :=
  match fitA P t et j with
  | some l => (l.mapM (cellA P ov (xs.getD i .nili) i)).bind (wholeA P t)
  | none => none

def AV.isE : AV → Bool
  | .e _ => true
  | _ => false
def AV.toE : AV → E
  | .e x => x
  | _ => .nili
/-- An element with other cells from number j on. -/
def E.setCells (agg : Bool) (y : E) (j : Nat) (es : List E) : E :=
  if agg = true then .agg (y.cells.take j ++ es ++ y.cells.drop (j + es.length)) else es.getD 0 .nili
def okCellsA (P : Program) (l : List (TypeId × Nat)) (vs : List AV) : Bool := (l.zip vs).all fun p => match p.2 with | .e x => okCell P p.1.1 x | _ => false
/-- An element's cells, written: as data, or over it. -/
def storeArr (P : Program) (et : TypeId) (xs : List E) (ov : List (Nat × Nat × AV)) (i : Nat) (l : List (TypeId × Nat)) (vs : List AV) : List E × List (Nat × Nat × AV) :=
  if okCellsA P l vs = true ∧ ov.all (fun p => l.all fun q => !(p.2.1 == q.2)) = true then
    match l with
    | [] => (xs, ov)
    | q :: _ => (xs.set i ((xs.getD i .nili).setCells (isAggB P et) q.2 (vs.map AV.toE)), ov)
  else (xs, (l.zip vs).map (fun p => (i, p.1.2, p.2)) ++ ov)
/-- What lies over the cells of a row. -/
def ovOf (sz : Nat) (cs : List AV) : List (Nat × Nat × AV) := (cs.zipIdx.filter fun p => !p.1.isE).map fun p => (p.2 / sz, p.2 % sz, p.1)
/-- What lies over a piece of an array, laid behind n elements. -/
def ovPiece (ov : List (Nat × Nat × AV)) (off len : Nat) : List (Nat × Nat × AV) :=
  (ov.filter fun p => decide (off ≤ p.1) && decide (p.1 < off + len)).map fun p => (p.1 - off, p.2)
def ovShift (n : Nat) (ov : List (Nat × Nat × AV)) : List (Nat × Nat × AV) := ov.map fun p => (n + p.1, p.2)
/-- An array as data. -/
def meltA (P : Program) (et : TypeId) : List (Nat × Nat × AV) → List E → Option (List E)
  | [], xs => some xs
  | (i, j, a) :: ov, xs =>
    match meltA P et ov xs, a.seal1, flat P depth et with
    | some ys, some x, some fe =>
      if (fe[j]?).any (fun ct => okCell P ct x) = true then some (ys.set i ((ys.getD i .nili).setCells (isAggB P et) j [x])) else none
    | _, _, _ => none

/-- A new object, at a place that is kept free. -/
def fillAt (σ : Heap) (id : Nat) (o : Ob) : Option Heap :=
  match σ[id]? with
  | some .hole => some (σ.set id o)
  | _ => none

/-- A variable whose first cell may come to hold its own address: nil at first. -/
def selfed (P : Program) (t : TypeId) (k : Nat) (cs : List AV) : List AV :=
  match P.underlying t with
  | some (.struct fs) =>
    match (fs[0]?).bind (fun f => P.underlying f.type), cs with
    | some (.pointer e), .nilp :: cs => if e = t then .nsp k t :: cs else .nilp :: cs
    | _, cs => cs
  | _ => cs

/-- Nil slices that are laid in variables may grow: new objects from number 'at' on. -/
def promote : List AV → Nat → Heap → Option (List AV × Heap)
  | [], _, σ => some ([], σ)
  | .nils t :: vs, k, σ =>
    match fillAt σ k (.vec t 0) with
    | some σ1 => (promote vs (k + 1) σ1).map fun q => (.own k t [] :: q.1, q.2)
    | none => none
  | v :: vs, k, σ => (promote vs k σ).map fun q => (v :: q.1, q.2)

/-- Elements out of cells. -/
def chunk (sz : Nat) : Nat → List E → List E
  | 0, _ => []
  | n + 1, cs => .agg (cs.take sz) :: chunk sz n (cs.drop sz)
def elems (P : Program) (et : TypeId) (sz n : Nat) (cs : List E) : List E :=
  if isAggB P et then chunk sz n cs else cs

def fillA (place : Nat → Option (Nat × Nat)) (cells : List AV) : List (Nat × AV) → Option (List AV)
  | [] => some cells
  | (i, v) :: rest =>
    match place i with
    | none => none
    | some (off, size) =>
      if v.cells.length ≠ size || decide (off + v.cells.length > cells.length) || !(v.cells.all AV.one) then none
      else fillA place (splice cells off v.cells) rest

/-- What an append hands on. -/
def srcOf (P : Program) (et tx : TypeId) (v : AV) : Option (List E) :=
  match v with
  | .e (.str s) =>
    match P.underlying tx, P.underlying et with
    | some .string, some (.int .u8) => some (s.map fun c => .int .u8 c.toNat)
    | _, _ => none
  | v =>
    match P.underlying tx, v.seal1 with
    | some (.slice et'), some (.sl et'' ys) => if et = et' ∧ et = et'' then some ys else none
    | _, _ => none

/-- Does an append hand this slice's elements on? -/
def spreads (dst : Option Nat) (ops : List Oper) : Bool :=
  ops.any fun q =>
    match q.op with
    | .call { callee := .builtin .append, args, .. } =>
      match args.toList with
      | [_, .tmp u] => dst == some u
      | _ => false
    | _ => false

/-- A part of a struct or slice that is written out, at its type. -/
def partOf (P : Program) (fr : Fr) (t : Option TypeId) (p : Nat × Operand) : Option (Nat × AV) :=
  match t with
  | some t => (evalT P t fr p.2).map fun v => (p.1, v)
  | none => none
def ptrOf (fr : Fr) (x : Operand) : Option (Nat × Nat) :=
  match evalO fr x with
  | some (.ptr id off) => some (id, off)
  | _ => none

/-- The cells of a slice that is written out. -/
def sliceLit (P : Program) (fr : Fr) (t : TypeId) (len : Nat) (parts : Array (Nat × Operand)) : Option (TypeId × List E) :=
  match P.underlying t with
  | some (.slice et) =>
    match zeroOf P et, sizeB P et, parts.toList.mapM (fun p => partOf P fr (some et) p), flat P depth et with
    | some z, some sz, some ps, some fs =>
      if sz = 0 ∨ len = 0 ∨ len * sz > 4096 ∨ z.cells.length ≠ sz ∨ fs.length ≠ sz then none else
      match fillA (fun i => some (i * sz, sz)) ((List.range (len * sz)).map fun k => z.cells.getD (k % sz) .undef) ps with
      | some cs =>
        match cs.mapM AV.seal1 with
        | some es => if (elems P et sz len es).all (okRow P et) = true then some (et, elems P et sz len es) else none
        | none => none
      | none => none
    | _, _, _, _ => none
  | _ => none

def isByte : E → Bool
  | .int .u8 n => decide (0 ≤ n) && decide (n < 256)
  | _ => false
def unbytes (xs : List E) : List UInt8 := xs.map fun x => UInt8.ofNat x.toInt.toNat
def bytesE (s : List UInt8) : List E := s.map fun b => .int .u8 (b.toNat : Int)
/-- Bytes as a string. -/
def bytesTo (P : Program) (et : TypeId) (v : AV) : Option (Bool × AV) :=
  match P.underlying et, v.seal1 with
  | some (.int .u8), some (.sl et' xs) => if et = et' then some (xs.all isByte, .e (.str (unbytes xs))) else none
  | _, _ => none

/-- A slice that is written out, whose elements may be written. -/
def sliceLitA (P : Program) (fr : Fr) (t : TypeId) (len : Nat) (parts : Array (Nat × Operand)) : Option (TypeId × List E × List (Nat × Nat × AV)) :=
  match P.underlying t with
  | some (.slice et) =>
    match zeroOf P et, sizeB P et, parts.toList.mapM (fun p => partOf P fr (some et) p), flat P depth et with
    | some z, some sz, some ps, some fs =>
      if sz = 0 ∨ len = 0 ∨ len * sz > 4096 ∨ z.cells.length ≠ sz ∨ fs.length ≠ sz then none else
      match fillA (fun i => some (i * sz, sz)) ((List.range (len * sz)).map fun k => z.cells.getD (k % sz) .undef) ps with
      | some cs =>
        if (cs.zipIdx.all fun p => match p.1 with | .e x => (fs[p.2 % sz]?).any fun ct => okCell P ct x | _ => true) = true then
          some (et, elems P et sz len (cs.map AV.toE), ovOf sz cs) else none
      | none => none
    | _, _, _, _ => none
  | _ => none

/-- An operation that asks no object: what must hold, and the value. -/
def evalPure (P : Program) (ops : List Oper) (fr : Fr) (o : Oper) : Option (Bool × AV) :=
  match o.op with
  | .move x | .assign x => (evalT P o.type fr x).map fun v => (true, v)
  | .pick c a b =>
    match evalO fr c, evalO fr a, evalO fr b with
    | some (.e (.bool c)), some (.e (.bool x)), some (.e (.bool y)) => some (true, .e (.bool (cond c x y)))
    | some (.e (.bool c)), some va, some vb => some (true, cond c va vb)
    | _, _, _ => none
  | .build t parts =>
    match zeroOf P t, P.underlying t with
    | some (.agg zs), some (.struct fs) =>
      match fs.toList.mapM (fun f => (P.info? f.type).map fun i => (f.offset, i.size)),
        parts.toList.mapM (fun p => partOf P fr ((fs[p.1]?).map (·.type)) p) with
      | some places, some ps => (fillA (fun i => places[i]?) zs ps).map fun cs => (true, .agg cs)
      | _, _ => none
    | _, _ => none
  | .buildSlice t len parts =>
    if spreads o.dst ops then (sliceLit P fr t len parts).map fun q => (true, .e (.sl q.1 q.2)) else none
  | .load t a =>
    match evalO fr a with
    | some (.pin et y off) => if (flat P depth t).map List.length = sizeB P t then (loadPin P t et y off).map fun v => (true, v) else none
    | _ => none
  | .nilCheck x =>
    match evalO fr x with
    | some (.ptr id off) => some (true, .ptr id off)
    | some (.pin et y off) => some (true, .pin et y off)
    | some (.fn f) => some (true, .fn f)
    | some (.clo f ps) => some (true, .clo f ps)
    | some (.e (.ifc t x)) => some (true, .e (.ifc t x))
    | some (.eptr id n i j) => some (true, .eptr id n i j)
    | _ => none
  | .binOp op t x y _ =>
    match evalT P t fr x, evalT P t fr y with
    | some a, some b => if isNilS y = true then (evalNilS P t op a).map fun e => (true, .e e) else (evalCmp P t op (isNilO y) a b).map fun r => (r.1, .e r.2)
    | _, _ => none
  | .unOp op _ x => ((evalO fr x).bind (evalUn op)).map fun v => (true, .e v)
  | .convert src dst x =>
    match P.underlying src, P.underlying dst, evalO fr x with
    | some (.int _), some (.int k), some (.e (.int _ n)) => some (true, .e (.int k (k.wrap n)))
    | some .string, some .string, some (.e (.str s)) => some (true, .e (.str s))
    | some (.slice et), some .string, some v => bytesTo P et v
    | _, _, _ => none
  | .makeInterface t x =>
    match P.underlying t, (evalO fr x).bind AV.dat with
    | some (.interface _), _ => none
    | some _, some v => some (true, .e (.ifc t v))
    | _, _ => none
  | .slice t x lo hi none =>
    match P.underlying t, evalO fr x with
    | some .string, some (.e (.str s)) =>
      match sliceL fr lo, sliceH fr s.length hi with
      | some l, some h => some (decide (0 ≤ l) && decide (l ≤ h) && decide (h ≤ s.length), .e (.str ((s.take h.toNat).drop l.toNat)))
      | _, _ => none
    | some (.slice et), some (.mv id et' n off len) =>
      if et = et' ∧ (flat P depth et).map List.length = sizeB P et then
        match sliceL fr lo, sliceH fr len hi with
        | some l, some h => some (decide (0 ≤ l) && decide (l ≤ h) && decide (h ≤ len), .mv id et n (off + l.toNat) (h.toNat - l.toNat))
        | _, _ => none
      else none
    | some (.slice et), some v =>
      match v.seal1 with
      | some (.sl et' xs) =>
        if et = et' ∧ (flat P depth et).map List.length = sizeB P et then
          match sliceL fr lo, sliceH fr xs.length hi with
          | some l, some h => some (decide (0 ≤ l) && decide (l ≤ h) && decide (h ≤ xs.length), .e (.sl et ((xs.take h.toNat).drop l.toNat)))
          | _, _ => none
        else none
      | _ => none
    | _, _ => none
  | .slice t x lo hi (some mx) =>
    match P.underlying t, (evalO fr x).bind AV.seal1 with
    | some (.slice et), some (.sl et' xs) =>
      if et = et' ∧ (flat P depth et).map List.length = sizeB P et then
        match sliceL fr lo, sliceH fr xs.length hi, hi, evalO fr mx with
        | some l, some h, some _, some (.e (.int _ m)) =>
          match mx with
          | .const (.int _ 0) => some (decide (l = 0) && decide (h = 0), .nilc et)
          | _ => some (decide (0 ≤ l) && decide (l ≤ h) && decide (h ≤ m) && decide (m ≤ xs.length), .e (.sl et ((xs.take h.toNat).drop l.toNat)))
        | _, _, _, _ => none
      else none
    | _, _ => none
  | .fieldAddr s x i =>
    match P.underlying s with
    | some (.struct fs) =>
      match fs[i]? with
      | some f =>
        if (sizeB P f.type).any (· ≠ 0) then
          match evalO fr x with
          | some (.ptr id off) => some (true, .ptr id (off + f.offset))
          | some (.pin et y off) => some (true, .pin et y (off + f.offset))
          | some (.eptr id n i' j) => some (true, .eptr id n i' (j + f.offset))
          | _ => none
        else none
      | none => none
    | _ => none
  | .field t x i =>
    match P.underlying t, evalO fr x with
    | some (.struct fs), some (.agg cs) =>
      match fs[i]? with
      | some f =>
        if isAggB P f.type then
          match sizeB P f.type with
          | some n => if f.offset + n ≤ cs.length then some (true, .agg ((cs.drop f.offset).take n)) else none
          | none => none
        else if (sizeB P f.type).isSome then (cs[f.offset]?).map fun v => (true, v) else none
      | none => none
    | _, _ => none
  | .indexAddr t x i =>
    match P.underlying t, (evalO fr x).bind AV.seal1, evalO fr i with
    | some (.slice et), some (.sl et' xs), some (.e (.int _ n)) =>
      if et = et' ∧ (flat P depth et).map List.length = sizeB P et ∧ (sizeB P et).any (· ≠ 0) = true then
        some (decide (0 ≤ n) && decide (n < xs.length), .pin et (xs.getD n.toNat .nili) 0)
      else none
    | some (.slice et), none, some (.e (.int _ n)) =>
      match evalO fr x with
      | some (.mv id et' nn off len) =>
        if et = et' ∧ (flat P depth et).map List.length = sizeB P et ∧ (sizeB P et).any (· ≠ 0) = true then
          some (decide (0 ≤ n) && decide (n < len), .eptr id nn (off + n.toNat) 0)
        else none
      | _ => none
    | _, _, _ => none
  | .index t x i =>
    match P.underlying t, evalO fr x, evalO fr i with
    | some .string, some (.e (.str s)), some (.e (.int _ n)) =>
      some (decide (0 ≤ n) && decide (n < s.length), .e (.int .u8 ((s.getD n.toNat 0).toNat : Int)))
    | _, _, _ => none
  | .typeAssert x _ t ok =>
    match P.underlying t, evalO fr x with
    | some (.interface _), _ => none
    | some _, some (.e (.ifc u v)) =>
      match unfold1 v with
      | some v' =>
        (if ok then (if u = t then some (AV.tup [v', .e (.bool true)]) else (zeroOf P t).map fun z => .tup [z, .e (.bool false)]) else if u = t then some v' else none).map fun r => (true, r)
      | none => none
    | _, _ => none
  | .makeFunc (.func f) first captured =>
    if first.size = 0 then
      (captured.toList.mapM (ptrOf fr)).map fun ps => (true, .clo f ps)
    else none
  | .extract x i =>
    match evalO fr x with
    | some (.tup vs) => (vs[i]?).map fun v => (true, v)
    | _ => none
  | .call { callee := .builtin .len, args, argTypes } =>
    match (argTypes[0]?).bind P.underlying, args.toList.map (evalO fr) with
    | some .string, [some (.e (.str s))] => some (true, .e (.int .i64 s.length))
    | some (.slice _), [some (.mv _ _ _ _ len)] => some (true, .e (.int .i64 len))
    | some (.slice _), [some v] =>
      match v.seal1 with
      | some (.sl _ xs) => some (true, .e (.int .i64 xs.length))
      | _ => none
    | _, _ => none
  | .call { callee := .builtin .max, args, .. } =>
    match args.toList.map (evalO fr) with
    | [some (.e (.int k x)), some (.e (.int k' y))] => if k = k' then some (true, .e (.int k (max x y))) else none
    | _ => none
  | .call { callee := .builtin .min, args, .. } =>
    match args.toList.map (evalO fr) with
    | [some (.e (.int k x)), some (.e (.int k' y))] => if k = k' then some (true, .e (.int k (min x y))) else none
    | _ => none
  | _ => none

/-- An operation on objects, the new ones from number 'at' on: what must hold, the value, the objects. -/
def evalHeap (P : Program) (ops : List Oper) (fr : Fr) (σ : Heap) (k : Nat) (o : Oper) : Option (Bool × AV × Heap) :=
  match o.op with
  | .box t x =>
    match evalT P t fr x, sizeB P t with
    | some v, some n =>
      if v.cells.length = n ∧ v.cells.all AV.one = true then
        match promote v.cells (k + 1) σ with
        | some (cs, σ1) => (fillAt σ1 k (.box cs)).map fun σ2 => (true, .ptr k 0, σ2)
        | none => none
      else none
    | _, _ => none
  | .alloc t =>
    match zeroOf P t with
    | some v =>
      match promote v.cells (k + 1) σ with
      | some (cs, σ1) => (fillAt σ1 k (.box (selfed P t k cs))).map fun σ2 => (true, .ptr k 0, σ2)
      | none => none
    | none => none
  | .buildSlice t len parts =>
    if spreads o.dst ops then none else
    match sliceLit P fr t len parts with
    | some (et, xs) => (fillAt σ k (.vec et xs.length)).map fun σ1 => (true, .own k et xs, σ1)
    | none => none
  | .load t a =>
    match evalO fr a with
    | some (.ptr id off) =>
      match σ[id]?, sizeB P t with
      | some (.box cs), some n =>
        if off + n ≤ cs.length then
          if isAggB P t then some (true, .agg ((cs.drop off).take n), σ)
          else if n = 1 then (cs[off]?).map fun v => (true, v, σ) else none
        else none
      | _, _ => none
    | some (.eptr id n i j) =>
      match σ[id]? with
      | some (.raw (.arr et xs ov)) => (loadArr P t et xs ov i j).map fun v => (decide (n = xs.length), v, σ)
      | _ => none
    | _ => none
  | .store t a x =>
    match evalO fr a, evalT P t fr x, sizeB P t with
    | some (.ptr id off), some v, some n =>
      match σ[id]? with
      | some (.box cs) =>
        if v.cells.length = n ∧ off + n ≤ cs.length ∧ v.cells.all AV.one = true then
          (promote v.cells k σ).map fun q => (true, .undef, q.2.set id (.box (splice cs off q.1)))
        else none
      | _ => none
    | some (.eptr id n i j), some v, some _ =>
      match σ[id]? with
      | some (.raw (.arr et xs ov)) =>
        match fitA P t et j with
        | some l =>
          if v.cells.length = l.length ∧ v.cells.all AV.one = true then
            some (decide (n = xs.length), .undef, σ.set id (.raw (.arr et (storeArr P et xs ov i l v.cells).1 (storeArr P et xs ov i l v.cells).2)))
          else none
        | none => none
      | _ => none
    | _, _, _ => none
  | .makeSlice t len cap =>
    match P.underlying t with
    | some (.slice et) =>
      match P.info? et, flat P depth et, evalO fr len, evalO fr cap with
      | some i, some fs, some (.e (.int _ 0)), some (.e (.int kc c)) =>
        if i.zero.any (fun z => z.cells.size == fs.length) = true ∧ i.size = fs.length ∧ fs.length ≠ 0 ∧ i.bytes ≠ 0 ∧ kc = .i64 then
          (fillAt σ k (.vec et 0)).map fun σ1 => (decide (0 ≤ c) && decide (c * i.bytes ≤ 140737488355328), .own k et [], σ1)
        else none
      | _, _, _, _ => none
    | _ => none
  | .range t x =>
    match P.underlying t, evalO fr x with
    | some .string, some (.e (.str s)) => (fillAt σ k (.raw (.iter s 0))).map fun σ1 => (true, .itr k, σ1)
    | _, _ => none
  | .call { callee := .builtin .append, args, argTypes } =>
    match argTypes.toList, args.toList with
    | [t, tx], [x, y] =>
      match P.underlying t with
      | some (.slice et) =>
        match P.info? et, flat P depth et, evalT P t fr x, (evalT P tx fr y).bind (srcOf P et tx) with
        | some i, some fs, some s, some ys =>
          if i.zero.any (fun z => z.cells.size == fs.length) = true ∧ i.size = fs.length ∧ fs.length ≠ 0 ∧ i.bytes ≠ 0 then
            match s with
            | .nils et' => if et = et' then (fillAt σ k (.vec et ys.length)).map fun σ1 => (decide (ys.length * i.bytes ≤ 140737488355328), .own k et ys, σ1) else none
            | .nilc et' => if et = et' then (fillAt σ k (.vec et ys.length)).map fun σ1 => (!ys.isEmpty && decide (ys.length * i.bytes ≤ 140737488355328), .own k et ys, σ1) else none
            | .own id et' xs =>
              match σ[id]? with
              | some (.vec et'' n) =>
                if et = et' ∧ et = et'' then
                  some (decide (n = xs.length) && decide ((xs.length + ys.length) * i.bytes ≤ 140737488355328), .own id et (xs ++ ys), σ.set id (.vec et (xs ++ ys).length))
                else none
              | _ => none
            | .mv id et' n off len =>
              match σ[id]? with
              | some (.raw (.arr et'' xs ov)) =>
                if et = et' ∧ et = et'' then
                  some (decide (n = xs.length) && decide (off = 0) && decide (len = n) && decide ((n + ys.length) * i.bytes ≤ 140737488355328), .mv id et (n + ys.length) 0 (n + ys.length), σ.set id (.raw (.arr et (xs ++ ys) ov)))
                else none
              | _ => none
            | _ => none
          else none
        | _, _, _, _ => none
      | _ => none
    | _, _ => none
  | _ => none

/-- Operations that may make an array whose elements may be written. -/
def arrOp (o : Oper) : Bool :=
  match o.op with
  | .buildSlice .. | .makeSlice .. | .call { callee := .builtin .append, .. } => true
  | _ => false

def isSliceOf (P : Program) (t et : TypeId) : Bool := match P.underlying t with | some (.slice e) => e == et | _ => false
/-- Such operations, so carried out. -/
def evalArr (P : Program) (fr : Fr) (σ : Heap) (k : Nat) (o : Oper) : Option (Bool × AV × Heap) :=
  match o.op with
  | .buildSlice t len parts =>
    match sliceLitA P fr t len parts with
    | some (et, xs, ov) => (fillAt σ k (.raw (.arr et xs ov))).map fun σ1 => (true, .mv k et xs.length 0 xs.length, σ1)
    | none => none
  | .makeSlice t len cap =>
    match P.underlying t with
    | some (.slice et) =>
      match P.info? et, flat P depth et, zeroOf P et, evalO fr len, evalO fr cap with
      | some i, some fs, some _, some (.e (.int _ 0)), some (.e (.int kc c)) =>
        if i.zero.any (fun z => z.cells.size == fs.length) = true ∧ i.size = fs.length ∧ fs.length ≠ 0 ∧ i.bytes ≠ 0 ∧ kc = .i64 then
          (fillAt σ k (.raw (.arr et [] []))).map fun σ1 => (decide (0 ≤ c) && decide (c * i.bytes ≤ 140737488355328), .mv k et 0 0 0, σ1)
        else none
      | some i, some fs, some z, some (.e (.int kn n)), some (.e (.int kc c)) =>
        if i.zero.any (fun z => z.cells.size == fs.length) = true ∧ i.size = fs.length ∧ fs.length ≠ 0 ∧ i.bytes ≠ 0 ∧ kn = .i64 ∧ kc = .i64 ∧ z.cells.length = fs.length ∧
            okCellsA P (fs.zipIdx) z.cells = true then
          (fillAt σ k (.raw (.arr et (List.replicate n.toNat (if isAggB P et then .agg (z.cells.map AV.toE) else z.toE)) []))).map fun σ1 =>
            (decide (0 ≤ n) && decide (n ≤ c) && decide (c * i.bytes ≤ 140737488355328), .mv k et n.toNat 0 n.toNat, σ1)
        else none
      | _, _, _, _, _ => none
    | _ => none
  | .call { callee := .builtin .append, args, argTypes } =>
    match argTypes.toList, args.toList with
    | [t, tx], [x, y] =>
      match P.underlying t with
      | some (.slice et) =>
        match P.info? et, flat P depth et, evalT P t fr x, evalT P tx fr y with
        | some i, some fs, some s, some v =>
          if i.zero.any (fun z => z.cells.size == fs.length) = true ∧ i.size = fs.length ∧ fs.length ≠ 0 ∧ i.bytes ≠ 0 then
            match s, v with
            | .mv id et' n off len, .mv id2 et2 n2 off2 len2 =>
              match σ[id]?, σ[id2]? with
              | some (.raw (.arr et'' xs ov)), some (.raw (.arr et3 xs2 ov2)) =>
                if et = et' ∧ et = et'' ∧ et = et2 ∧ et = et3 ∧ isSliceOf P tx et = true ∧ id ≠ id2 then
                  some (decide (n = xs.length) && decide (n2 = xs2.length) && decide (off = 0) && decide (len = n) && decide ((n + len2) * i.bytes ≤ 140737488355328), .mv id et (n + len2) 0 (n + len2),
                    σ.set id (.raw (.arr et (xs ++ (xs2.drop off2).take len2) (ovShift n (ovPiece ov2 off2 len2) ++ ov))))
                else none
              | _, _ => none
            | .nilc et', .mv id2 et2 n2 off2 len2 =>
              match σ[id2]? with
              | some (.raw (.arr et3 xs2 ov2)) =>
                if et = et' ∧ et = et2 ∧ et = et3 ∧ isSliceOf P tx et = true then
                  (fillAt σ k (.raw (.arr et ((xs2.drop off2).take len2) (ovPiece ov2 off2 len2)))).map fun σ1 => (decide (n2 = xs2.length) && decide (len2 ≠ 0) && decide (len2 * i.bytes ≤ 140737488355328), .mv k et len2 0 len2, σ1)
                else none
              | _ => none
            | .nilc et', v =>
              match srcOf P et tx v with
              | some ys => if et = et' then (fillAt σ k (.raw (.arr et ys []))).map fun σ1 => (!ys.isEmpty && decide (ys.length * i.bytes ≤ 140737488355328), .mv k et ys.length 0 ys.length, σ1) else none
              | none => none
            | .nils et', v =>
              match srcOf P et tx v with
              | some ys => if et = et' then (fillAt σ k (.raw (.arr et ys []))).map fun σ1 => (!ys.isEmpty && decide (ys.length * i.bytes ≤ 140737488355328), .mv k et ys.length 0 ys.length, σ1) else none
              | none => none
            | _, _ => none
          else none
        | _, _, _, _ => none
      | _ => none
    | _, _ => none
  | _ => none

/-- How many new objects an operation may make. -/
def slots (P : Program) (t : TypeId) : Nat :=
  match flat P depth t with
  | some fs => (fs.filter fun c => match P.underlying c with | some (.slice _) => true | _ => false).length
  | none => 0
def needs (P : Program) (ops : List Oper) (o : Oper) : Nat :=
  match o.op with
  | .box t _ | .alloc t => 1 + slots P t
  | .store t _ _ => slots P t
  | .buildSlice .. => if spreads o.dst ops then 0 else 1
  | .range .. | .makeSlice .. | .call { callee := .builtin .append, .. } => 1
  | _ => 0

/-- An operation that is no call: what must hold, the value, the objects. -/
def evalOp (P : Program) (ops : List Oper) (fr : Fr) (σ : Heap) (k : Nat) (o : Oper) : Option (Bool × AV × Heap) :=
  match evalPure P ops fr o with
  | some (b, v) => some (b, v, σ)
  | none => evalHeap P ops fr σ k o

/-- An operation of which no object turns. -/
def evalStill (P : Program) (ops : List Oper) (fr : Fr) (σ : Heap) (o : Oper) : Option (Bool × AV) :=
  match o.op with
  | .load .. => (evalOp P ops fr σ 0 o).map fun q => (q.1, q.2.1)
  | _ => evalPure P ops fr o

/-- Operations that end well whatever their operands hold. -/
def safeOp (o : Oper) : Bool :=
  match o.op with
  | .move _ | .pick .. | .load .. | .fieldAddr .. | .field .. | .unOp .. | .extract .. => true
  | .binOp op .. => match op with | .quo | .rem | .shl | .shr | .add => false | _ => true
  | .call { callee := .builtin .len, .. } => true
  | _ => false

/-! ### Results of calls, by their types -/

def Res.val : Res → AV
  | .ret v => v
  | .rcv v => v
  | .pan _ => .undef
def Res.isRet : Res → Bool
  | .ret _ => true
  | _ => false
def Res.isRcv : Res → Bool
  | .rcv _ => true
  | _ => false
def Res.isPan : Res → Bool
  | .pan _ => true
  | _ => false
def Res.why : Res → E
  | .pan x => x
  | _ => .nili

def AV.data (v : AV) : E := v.dat.getD .nili

def AV.comp : AV → Nat → AV
  | .tup vs, i => vs.getD i .undef
  | _, _ => .undef

/-- A result of a type, by its parts. -/
def canonRes1 (P : Program) (t : TypeId) (r : AV) : Option AV :=
  if isAggB P t then
    match flat P depth t with
    | some ft => (ft.zipIdx.mapM fun (ct, j) => (canon P ct (r.data.cell j)).map AV.e).map AV.agg
    | none => none
  else (canon P t r.data).map AV.e

def canonRes (P : Program) (t : TypeId) (r : AV) : Option AV :=
  match P.underlying t with
  | some (.tuple ts) => (ts.toList.zipIdx.mapM fun (u, i) => canonRes1 P u (r.comp i)).map AV.tup
  | some _ => canonRes1 P t r
  | none => none

def okCells (P : Program) (ft : List TypeId) (rs : List AV) : Bool :=
  rs.length == ft.length && (ft.zip rs).all fun (ct, v) => (match v with | .e x => okCell P ct x | _ => false)

/-- Has a result the form that its type asks? -/
def okRes1 (P : Program) (t : TypeId) (r : AV) : Bool :=
  if isAggB P t then
    match flat P depth t, r with
    | some ft, .agg rs => okCells P ft rs
    | _, _ => false
  else match r with | .e x => okCell P t x | _ => false

def okRes (P : Program) (t : TypeId) (r : Res) : Bool :=
  match r with
  | .pan _ | .rcv _ => false
  | .ret v =>
    match P.underlying t with
    | some (.tuple ts) =>
      match v with
      | .tup vs => vs.length == ts.toList.length && (ts.toList.zip vs).all fun (u, v) => okRes1 P u v
      | _ => false
    | some _ => okRes1 P t v
    | none => false

/-- A cell behind a call, of the form that it had. -/
def likeCell : AV → AV → AV
  | .e (.int k _), v => .e (.int k v.data.toInt)
  | .e (.bool _), v => .e (.bool v.data.toBool)
  | .e (.str _), v => .e (.str v.data.toStr)
  | .e (.sl t _), v => .e (.sl t v.data.toList)
  | .own id t _, v => .own id t v.data.toList
  | .mv id t _ _ _, .mv _ _ n off len => .mv id t n off len
  | u, _ => u
def okLike : AV → AV → Bool
  | .e (.int k _), .e (.int k' _) => k == k'
  | .e (.bool _), .e (.bool _) => true
  | .e (.str _), .e (.str _) => true
  | .e (.sl t _), .e (.sl t' _) => t == t'
  | .own id t _, .own id' t' _ => id == id' && t == t'
  | .ptr id off, .ptr id' off' => id == id' && off == off'
  | .nilp, .nilp => true
  | .fn f, .fn f' => f == f'
  | .nsp id t, .nsp id' t' => id == id' && t == t'
  | .itr id, .itr id' => id == id'
  | .clo f ps, .clo f' ps' => f == f' && ps == ps'
  | .mv id t _ _ _, .mv id' t' _ _ _ => id == id' && t == t'
  | .mp id, .mp id' => id == id'
  | .nilm, .nilm => true
  | _, _ => false

/-- An array behind a call, of the form that it had. -/
def likeOv : List (Nat × Nat × AV) → List (Nat × Nat × AV) → List (Nat × Nat × AV)
  | (i, j, a) :: ps, (_, _, b) :: qs => (i, j, likeCell a b) :: likeOv ps qs
  | _, _ => []
def okOv : List (Nat × Nat × AV) → List (Nat × Nat × AV) → Bool
  | (i, j, a) :: ps, (i', j', b) :: qs => (j == j') && (okLike a b && ((i == i') && okOv ps qs))
  | [], [] => true
  | _, _ => false
def Ob.arrX (o : Ob) : List E := match o with | .raw (.arr _ xs _) => xs | _ => []
def Ob.arrO (o : Ob) : List (Nat × Nat × AV) := match o with | .raw (.arr _ _ ov) => ov | _ => []

def Ob.cell (o : Ob) (j : Nat) : AV := match o with | .box cs => cs.getD j .undef | _ => .undef
def Ob.len (o : Ob) : Nat := match o with | .vec _ n => n | _ => 0
def Ob.iterS (o : Ob) : List UInt8 := match o with | .raw (.iter s _) => s | _ => []
def Ob.iterP (o : Ob) : Nat := match o with | .raw (.iter _ p) => p | _ => 0
def Heap.ob (h : Heap) (k : Nat) : Ob := h.getD k .hole

def likeHeap (σ h : Heap) : Heap :=
  σ.zipIdx.map fun (o, k) =>
    match o with
    | .box cs => .box (cs.zipIdx.map fun (c, j) => likeCell c ((Heap.ob h k).cell j))
    | .vec t _ => .vec t (Heap.ob h k).len
    | .raw (.iter _ _) => .raw (.iter (Heap.ob h k).iterS (Heap.ob h k).iterP)
    | .raw (.arr et _ ov) => .raw (.arr et (Heap.ob h k).arrX (likeOv ov (Heap.ob h k).arrO))
    | .raw (.map kt vt es) => .raw (.map kt vt es)
    | .dead => .dead
    | .hole => .hole
def okHeap (σ h : Heap) : Bool :=
  σ.length == h.length && (σ.zip h).all fun (o, q) =>
    match o, q with
    | .box cs, .box ds => cs.length == ds.length && (cs.zip ds).all fun (c, d) => okLike c d
    | .vec t _, .vec t' _ => t == t'
    | .raw (.iter _ _), .raw (.iter _ _) => true
    | .raw (.arr et _ ov), .raw (.arr et' _ ov') => et == et' && okOv ov ov'
    | .dead, .dead => true
    | .hole, .hole => true
    | _, _ => false

def put (fr : Fr) (dst : Option Nat) (v : AV) : Fr :=
  match dst with
  | some d => fr.set d v
  | none => fr

/-- A way out of a loop. -/
inductive Way where
  | exit (id : Nat)
  | ret
  | pan

def Ex.isWay : Ex → Way → Bool
  | .exit i, .exit j => i == j
  | .ret, .ret => true
  | .pan _, .pan => true
  | _, _ => false
def Ex.why : Ex → E
  | .pan x => x
  | _ => .nili
def Way.ex (w : Way) (e : Ex) : Ex :=
  match w with
  | .exit i => .exit i
  | .ret => .ret
  | .pan => .pan e.why

/-- A slot behind a loop, of the form that is foretold. -/
def likeSlot : AV → AV → AV
  | .undef, _ => .undef
  | .agg cs, v => .agg (cs.zipIdx.map fun (c, j) => likeCell c (v.cells.getD j .undef))
  | p, v => likeCell p v
def okSlot : AV → AV → Bool
  | .undef, _ => true
  | .agg cs, .agg ds => cs.length == ds.length && (cs.zip ds).all fun (c, d) => okLike c d
  | p, v => okLike p v
def likeFr (p fr : Fr) : Fr := p.zipIdx.map fun (c, j) => likeSlot c (fr.getD j .undef)
def okFr (p fr : Fr) : Bool := p.length == fr.length && (p.zip fr).all fun (c, d) => okSlot c d

structure Hints where
  /-- Functions whose contracts are known. -/
  prim : Mode → FuncId → Option (List AV → Heap → T)
  live : FuncId → Nat → List Nat
  pans : FuncId → Bool
  outs : FuncId → Nat → List (Way × Fr × Heap)
  post : FuncId → Option (Option AV × Heap)
  exact : Bool
  /-- Functions that are handed slices with the right to grow; those that hand such back. -/
  own : FuncId → Bool := fun _ => false
  give : FuncId → Bool := fun _ => false
  /-- The objects behind a call that was put off and recovered. -/
  rcvd : FuncId → Option Heap := fun _ => none
  /-- Functions that make arrays whose elements may be written; and where they do. -/
  arrF : FuncId → Bool := fun _ => false
  arrAt : FuncId → Option Nat → Fr → Bool := fun _ _ _ => false
  /-- Slots that hold slices of no room, of which it is forgotten at a loop's head that they are nil. -/
  bare : FuncId → Nat → List Nat := fun _ _ => []
  /-- Functions that hand such arrays back as data. -/
  melt : FuncId → Bool := fun _ => false

structure Ctx where
  P : Program
  m : Nat
  fid : FuncId
  H : Hints
  /-- The mode of the call. -/
  md : Mode

/-- The operations among which literals may be spread: none where arrays are made. -/
def Ctx.sp (C : Ctx) (ops : List Oper) : List Oper := if C.H.arrF C.fid = true then [] else ops

/-- What is done behind what is known. -/
def T.splice (k : Res × Heap → T) : T → T
  | .res r h => k (r, h)
  | .br b x y => .br b (x.splice k) (y.splice k)
  | _ => .fail
def T.spliceO (k : Out → T) : T → T
  | .out o => k o
  | .br b x y => .br b (x.spliceO k) (y.spliceO k)
  | _ => .fail

/-- The numbers behind a call that was handed the objects 'ids': its new objects come behind the n that were there. -/
def renum (ids : List Nat) (n k : Nat) : Nat := if k < ids.length then ids.getD k 0 else n + (k - ids.length)

/-- The objects behind such a call. -/
def backTo (ids : List Nat) (h σ : Heap) : Heap :=
  (σ.zipIdx.map fun p => if ids.contains p.2 then (Heap.ob h (idx ids p.2)).ren (renum ids σ.length) else p.1) ++ (h.drop ids.length).map (Ob.ren (renum ids σ.length))

/-- A result of the form that is foretold. -/
def likeVal : AV → AV → AV
  | .tup ps, v => .tup (ps.zipIdx.map fun (p, i) => likeSlot p (v.comp i))
  | p, v => likeSlot p v
def okVal : AV → AV → Bool
  | .tup ps, .tup vs => ps.length == vs.length && (ps.zip vs).all fun (p, v) => okSlot p v && (match p with | .undef => false | _ => true)
  | p, v => okSlot p v

/-- Behind a call whose result nobody has foretold but by its type. -/
def backT (C : Ctx) (t : TypeId) (f : FuncId) (ids : List Nat) (σc σ : Heap) (K : AV → Heap → T) (Kp : E → Heap → T) (rh : Res × Heap) : T :=
  match C.H.exact, C.H.post f with
  | true, _ =>
    match rh with
    | (.ret v, h) => if σc.length ≤ h.length then K (v.ren3 (renum ids σ.length)) (backTo ids h σ) else .fail
    | (.pan x, h) => if σc.length ≤ h.length then Kp x (backTo ids h σ) else .fail
    | _ => .fail
  | false, none =>
    match canonRes C.P t rh.1.val with
    | some v =>
      .br (okHeap σc rh.2)
        (if C.H.pans f then .br rh.1.isPan (Kp rh.1.why (backTo ids (likeHeap σc rh.2) σ)) (.br (okRes C.P t rh.1) (K (v.ren3 (renum ids σ.length)) (backTo ids (likeHeap σc rh.2) σ)) .fail)
         else .br (okRes C.P t rh.1) (K (v.ren3 (renum ids σ.length)) (backTo ids (likeHeap σc rh.2) σ)) .fail) .fail
    | none => .fail
  | false, some (pv, ph) =>
    if σc.length ≤ ph.length then
      .br (okHeap ph rh.2)
        (.br rh.1.isPan (if C.H.pans f then Kp rh.1.why (backTo ids (likeHeap ph rh.2) σ) else .fail)
          (match rh.1, pv with
           | _, some p => .br (rh.1.isRet && okVal p rh.1.val) (K ((likeVal p rh.1.val).ren3 (renum ids σ.length)) (backTo ids (likeHeap ph rh.2) σ)) .fail
           | _, none =>
             match canonRes C.P t rh.1.val with
             | some v => .br (okRes C.P t rh.1) (K (v.ren3 (renum ids σ.length)) (backTo ids (likeHeap ph rh.2) σ)) .fail
             | none => .fail)) .fail
    else .fail

/-- A call of a Go function: on the objects that its arguments reach. -/
def callT (C : Ctx) (t : TypeId) (f : FuncId) (args : List AV) (σ : Heap) (K : AV → Heap → T) (Kp : E → Heap → T) : T :=
  let as := args.map (AV.handed (C.H.own f))
  let ids := closure σ 6 (addNew [] (as.flatMap AV.ids2))
  match subHeap σ ids with
  | none => .fail
  | some σc =>
    match C.H.prim none f with
    | some g => (g (as.map (AV.ren2 (idx ids))) σc).splice fun rh =>
        match rh with
        | (.ret v, h) => if σc.length ≤ h.length then K (v.ren3 (renum ids σ.length)) (backTo ids h σ) else .fail
        | (.pan x, h) => if σc.length ≤ h.length then Kp x (backTo ids h σ) else .fail
        | _ => .fail
    | none => .call none f (as.map (AV.ren2 (idx ids))) σc (backT C t f ids σc σ K Kp)

/-- The method of a type, where it is the type's own and takes its receiver by value. -/
def methodOf (P : Program) (t : TypeId) (name : String) : Option FuncId :=
  match P.info? t with
  | some i =>
    match i.methods.find? (·.name == name) with
    | some m =>
      match P.underlying t, m.func with
      | some (.pointer _), _ => none
      | some _, some (f, false) => if m.path.isEmpty then some f else none
      | _, _ => none
    | none => none
  | none => none

/-- The function that a call enters, and its arguments. -/
def callOf (P : Program) (fr : Fr) (c : Call) : Option (FuncId × List AV) :=
  if c.args.size = c.argTypes.size then
    match (c.args.toList.zip c.argTypes.toList).mapM fun (x, t) => evalT P t fr x with
    | some as =>
      match c.callee with
      | .value (.func f) => some (f, as)
      | .value (.tmp u) =>
        match fr[u]? with
        | some (.fn f) => some (f, as)
        | some (.clo f ps) => some (f, as ++ ps.map fun p => .ptr p.1 p.2)
        | _ => none
      | .invoke (.tmp u) name =>
        match fr[u]? with
        | some (.e (.ifc t x)) =>
          match methodOf P t name, unfold1 x with
          | some f, some v => some (f, v :: as)
          | _, _ => none
        | _ => none
      | _ => none
    | none => none
  else none

/-- What lies over a cell, where its element's number is not known. -/
def ovT : List (Nat × Nat × AV) → Nat → Nat → (Option AV → T) → T
  | [], _, _, K => K none
  | (i0, j0, a) :: r, i, j, K => if (j0 == j) = true then .br (i0 == i) (K (some a)) (ovT r i j K) else ovT r i j K
def cellsT (P : Program) (ov : List (Nat × Nat × AV)) (y : E) (i : Nat) : List (TypeId × Nat) → (List AV → T) → T
  | [], K => K []
  | p :: l, K => ovT ov i p.2 fun q =>
    match q with
    | some a => cellsT P ov y i l fun as => K (a :: as)
    | none =>
      match canon P p.1 (y.cell p.2) with
      | some x => cellsT P ov y i l fun as => K (.e x :: as)
      | none => .fail
/-- A cell of such an array is read. -/
def loadT (P : Program) (t : TypeId) (σ : Heap) (id n i j : Nat) (K : AV → T) : T :=
  match σ[id]? with
  | some (.raw (.arr et xs ov)) =>
    match fitA P t et j with
    | some l => .br (decide (n = xs.length)) (cellsT P ov (xs.getD i .nili) i l fun cs => match wholeA P t cs with | some v => K v | none => .fail) .fail
    | none => .fail
  | _ => .fail

def doneT (q : Option (Bool × AV × Heap)) (K : AV → Heap → T) : T :=
  match q with
  | some (ok, v, σ') => .br ok (K v σ') .fail
  | none => .fail
/-- An append to a slice of no room: what is appended; or a literal without elements. -/
def roomless (P : Program) (fr : Fr) (o : Oper) : Option (TypeId × List E) :=
  match o.op with
  | .call { callee := .builtin .append, args, argTypes } =>
    match argTypes.toList, args.toList with
    | [t, tx], [x, y] =>
      match P.underlying t with
      | some (.slice et) =>
        match P.info? et, flat P depth et, evalO fr x, (evalT P tx fr y).bind (srcOf P et tx) with
        | some i, some fs, some (.nilc et'), some ys => if et = et' ∧ i.size = fs.length ∧ fs.length ≠ 0 then some (et, ys) else none
        | _, _, _, _ => none
      | _ => none
    | _, _ => none
  | .buildSlice t 0 parts =>
    match parts.toList, P.underlying t with
    | [], some (.slice et) =>
      match flat P depth et, sizeB P et with
      | some _, some _ => some (et, [])
      | _, _ => none
    | _, _ => none
  | _ => none
/-- An operation that is no call. -/
def opT (C : Ctx) (ops : List Oper) (o : Oper) (fr : Fr) (σ : Heap) (k : Nat) (K : AV → Heap → T) : T :=
  if arrOp o = true ∧ C.H.arrF C.fid = true then .br (C.H.arrAt C.fid o.dst fr) (doneT ((evalArr C.P fr σ k o).orElse fun _ => evalOp C.P ops fr σ k o) K) (doneT (evalOp C.P ops fr σ k o) K)
  else doneT (evalOp C.P ops fr σ k o) K

/-- One operation; its new objects from number k on. -/
def denGo (C : Ctx) (ops : List Oper) (o : Oper) (fr : Fr) (σ : Heap) (k : Nat) (Kn : Fr → Heap → T) (Kp : E → Heap → T) : T :=
  match o.op with
  | .panic x =>
    match evalO fr x with
    | some (.e (.ifc t v)) => Kp (.ifc t v) σ
    | _ => .fail
  | .next x true =>
    match evalO fr x with
    | some (.itr id) =>
      match σ[id]? with
      | some (.raw (.iter s p)) =>
        .br (decide (p < s.length)) (Kn (put fr o.dst (.tup [.e (.bool true), .e (.int .i64 p), .e (.int .i32 (Utf8.decode ⟨s.toArray⟩ p).1)])) (σ.set id (.raw (.iter s (p + (Utf8.decode ⟨s.toArray⟩ p).2)))))
          (Kn (put fr o.dst (.tup [.e (.bool false)])) σ)
      | _ => .fail
    | _ => .fail
  | .call { callee := .builtin _, .. } =>
    match roomless C.P fr o with
    | some (et, ys) => .br ys.isEmpty (Kn (put fr o.dst (.nilc et)) σ) (opT C ops o fr σ k fun v σ' => Kn (put fr o.dst v) σ')
    | none => opT C ops o fr σ k fun v σ' => Kn (put fr o.dst v) σ'
  | .buildSlice .. =>
    match roomless C.P fr o with
    | some (et, ys) => .br ys.isEmpty (Kn (put fr o.dst (.nilc et)) σ) (opT C ops o fr σ k fun v σ' => Kn (put fr o.dst v) σ')
    | none => opT C ops o fr σ k fun v σ' => Kn (put fr o.dst v) σ'
  | .load t a =>
    match evalO fr a with
    | some (.eptr id n i j) => loadT C.P t σ id n i j fun v => Kn (put fr o.dst v) σ
    | _ => opT C ops o fr σ k fun v σ' => Kn (put fr o.dst v) σ'
  | .call c =>
    match callOf C.P fr c with
    | some (f, as) => callT C o.type f as σ (fun v σ' => Kn (put fr o.dst v) σ') Kp
    | none => .fail
  | _ => opT C ops o fr σ k fun v σ' => Kn (put fr o.dst v) σ'

def dstOf (ops : List Oper) (j : Nat) : Option Nat := (ops[j]?).bind (·.dst)

/-! ### Regions in the text's order -/

/-- The operations behind a guard up to the choice that they serve. -/
def groupTo (dj : Nat) : List Oper → Option (List Oper × Oper × List Oper)
  | [] => none
  | o :: rest =>
    match o.op with
    | .pick (.tmp c) _ _ => if c = dj then some ([], o, rest) else (groupTo dj rest).map fun (g, p, r) => (o :: g, p, r)
    | _ => (groupTo dj rest).map fun (g, p, r) => (o :: g, p, r)

/-- The operations that a guard guards. -/
def guarded (j : Nat) (l : List Oper) : List Oper := l.filter fun q => match q.guard with | some (i, _) => i == j | none => false

/-- Does an operand not name one of these operations' names? -/
def aside (g : List Oper) (x : Operand) : Bool :=
  match x with
  | .tmp u => g.all fun q => q.dst != some u
  | _ => true

/-- The operations of a guard that only compute, the choice that they serve, and what comes behind. -/
def fused (ops : List Oper) (dj j : Nat) (w : Bool) (l : List Oper) : Option (List Oper × Operand × Operand × Option Nat × List Oper) :=
  match groupTo dj l with
  | some (g, p, r) =>
    match p.op, p.guard with
    | .pick (.tmp c) x y, none =>
      if c = dj ∧ g.all (fun q => safeOp q && q.guard == some (j, w) && q.dst != some dj) = true ∧ (guarded j ops).length = (guarded j g).length ∧ aside g (cond w y x) = true then some (g, x, y, p.dst, r) else none
    | _, _ => none
  | _ => none

/-- Such operations, one by one: no object turns. -/
def evalGroup (P : Program) (ops : List Oper) : List Oper → Fr → Heap → Option Fr
  | [], fr, _ => some fr
  | o :: g, fr, σ =>
    match evalStill P ops fr σ o with
    | some (true, v) => evalGroup P ops g (put fr o.dst v) σ
    | _ => none

/-- Room for the new objects of an operation. -/
def room (P : Program) (ops : List Oper) (o : Oper) (σ : Heap) : Heap := σ ++ List.replicate (needs P ops o) .hole

def denOps (C : Ctx) (ops : List Oper) : Nat → List Oper → Fr → Heap → (Fr → Heap → T) → (E → Fr → Heap → T) → T
  | 0, _, _, _, _, _ => .fail
  | _ + 1, [], fr, σ, K, _ => K fr σ
  | n + 1, o :: rest, fr, σ, K, Kp =>
    match o.guard with
    | none => denGo C (C.sp ops) o fr (room C.P (C.sp ops) o σ) σ.length (fun fr' σ' => denOps C ops n rest fr' σ' K Kp) (fun x σ' => Kp x fr σ')
    | some (j, w) =>
      match dstOf ops j with
      | none => .fail
      | some dj =>
        match fr[dj]? with
        | some (.e (.bool b)) =>
          match fused ops dj j w (o :: rest) with
          | some (g, x, y, d, r) =>
            match evalGroup C.P ops g fr σ with
            | some fr1 =>
              match evalO fr1 x, evalO fr1 y with
              | some (.e (.bool bx)), some (.e (.bool by')) => denOps C ops n r (put (g.foldl (fun a q => put a q.dst .undef) fr) d (.e (.bool (cond b bx by')))) σ K Kp
              | _, _ => .fail
            | none => .fail
          | none => .br (b == w) (denGo C (C.sp ops) o (fr.set dj (.e (.bool w))) (room C.P (C.sp ops) o σ) σ.length (fun fr' σ' => denOps C ops n rest fr' σ' K Kp) (fun x σ' => Kp x fr σ'))
              (denOps C ops n rest (put (fr.set dj (.e (.bool (!w)))) o.dst (.tup [])) σ K Kp)
        | some (.tup []) => denOps C ops n rest (put fr o.dst (.tup [])) σ K Kp
        | _ => .fail

/-! ### Regions that draw their order -/

/-- Does an operation wait for number j? -/
def waits (o : Oper) (j : Nat) : Bool := o.after.toList.any fun e => e.on == j && Region.binds .any e

/-- Those that come ahead of each operation in every order, as bits. -/
def ancs : List Oper → List Nat → List Nat
  | [], acc => acc
  | o :: l, acc => ancs l (acc ++ [o.after.toList.foldl (fun s e => if Region.binds .any e then s ||| 2 ^ e.on ||| acc.getD e.on 0 else s) 0])

/-- An operation that neither calls nor writes. -/
def quiet (o : Oper) : Bool :=
  match o.op with
  | .call { callee := .builtin .append, .. } => false
  | .call { callee := .builtin _, .. } => true
  | .call _ | .store .. | .panic _ | .defer _ => false
  | _ => true

/-- An order in which calls and writes come late. -/
def sorted (ops : List Oper) : Nat → Nat → List Nat
  | 0, _ => []
  | n + 1, d =>
    let av := ops.zipIdx.filter fun (o, i) => !d.testBit i && o.after.toList.all fun e => !Region.binds .any e || d.testBit e.on
    match (match av.find? (fun (o, _) => quiet o) with | some p => some p | none => av.head?) with
    | some (_, i) => i :: sorted ops n (d ||| 2 ^ i)
    | none => []

/-- The number of new objects that nil slices need. -/
def nilsOf (cs : List AV) : Nat := cs.countP fun v => match v with | .nils _ => true | _ => false

/-- What an operation reads of the objects, which it turns, whether it makes objects at the end, whether it asks how many there are. -/
structure Foot where
  rd : List Nat
  wr : List Nat
  ext : Bool
  dep : Bool

def Foot.no : Foot := ⟨[], [], false, false⟩

/-- The arrays that an append hands on. -/
def rdsOf (fr : Fr) (ys : List Operand) : List Nat := ys.flatMap fun y => match evalO fr y with | some (.mv id _ _ _ _) => [id] | _ => []

def footOf (P : Program) (ow : FuncId → Bool) (ops : List Oper) (fr : Fr) (σ : Heap) (k : Nat) (o : Oper) : Foot :=
  match o.op with
  | .call c =>
    match c.callee with
    | .builtin _ =>
      match evalPure P ops fr o, c.args.toList with
      | none, x :: ys =>
        match evalO fr x with
        | some (.own id _ _) => ⟨[], [id], false, false⟩
        | some (.mv id _ _ _ _) => ⟨rdsOf fr ys, [id], false, false⟩
        | some (.nilc _) => ⟨rdsOf fr ys, [k], false, false⟩
        | _ => ⟨[], [k], false, false⟩
      | _, _ => .no
    | _ =>
      match callOf P fr c with
      | some (f, as) => ⟨[], closure σ 6 (addNew [] ((as.map (AV.handed (ow f))).flatMap AV.ids2)), false, true⟩
      | none => .no
  | .load _ a => match evalO fr a with | some (.ptr id _) => ⟨[id], [], false, false⟩ | some (.eptr id _ _ _) => ⟨[id], [], false, false⟩ | _ => .no
  | .next x _ => match evalO fr x with | some (.itr id) => ⟨[], [id], false, false⟩ | _ => .no
  | .store t a x => match evalO fr a, evalT P t fr x with | some (.ptr id _), some v => ⟨[], id :: List.range' k (nilsOf v.cells), false, false⟩ | some (.eptr id _ _ _), _ => ⟨[], [id], false, false⟩ | _, _ => .no
  | .box t x => match evalT P t fr x with | some v => ⟨[], List.range' k (1 + nilsOf v.cells), false, false⟩ | none => .no
  | .alloc t => match zeroOf P t with | some v => ⟨[], List.range' k (1 + nilsOf v.cells), false, false⟩ | none => .no
  | .range .. | .makeSlice .. => ⟨[], [k], false, false⟩
  | .buildSlice .. => if spreads o.dst ops then .no else ⟨[], [k], false, false⟩
  | _ => .no

/-- .. with the objects that it made at the end. -/
def Foot.with (f : Foot) (n n' : Nat) : Foot := if n' = n then f else { f with wr := f.wr ++ List.range' n (n' - n), ext := true }

/-- May two operations change places? -/
def apartF (f g : Foot) : Bool :=
  f.wr.all (fun i => !g.rd.contains i && !g.wr.contains i) && g.wr.all (fun i => !f.rd.contains i) && !(f.ext && g.dep) && !(g.ext && f.dep) && !(f.ext && g.ext)

/-- One operation of a region that draws its order: itself, its number, those ahead of it, and the number of its first new object. -/
abbrev Item := Oper × Nat × Nat × Nat

/-- A region in one of its orders, where that is as good as any other. -/
def denDraw (C : Ctx) (ops : List Oper) : List Item → List (Nat × Foot) → Fr → Heap → (Fr → Heap → T) → (E → Fr → Heap → T) → T
  | [], _, fr, σ, K, _ => K fr σ
  | (o, i, an, k) :: rest, acc, fr, σ, K, Kp =>
    let go (fr : Fr) : T := denGo C (C.sp ops) o fr σ k (fun fr' σ' =>
        let ft := (footOf C.P C.H.own (C.sp ops) fr σ k o).with σ.length σ'.length
        if acc.all (fun q => an.testBit q.1 || apartF q.2 ft) then denDraw C ops rest (acc ++ [(i, ft)]) fr' σ' K Kp else .fail)
      (fun x σ' => if acc.all (fun q => an.testBit q.1 || q.2.wr.isEmpty) && rest.all (fun q => q.2.2.1.testBit i) then Kp x (ops.foldl (fun f q => put f q.dst .undef) fr) σ' else .fail)
    match o.guard with
    | none => go fr
    | some (j, w) =>
      match dstOf ops j with
      | none => .fail
      | some dj =>
        match fr[dj]? with
        | some (.e (.bool b)) => .br (b == w) (go (fr.set dj (.e (.bool w)))) (denDraw C ops rest (acc ++ [(i, .no)]) (put (fr.set dj (.e (.bool (!w)))) o.dst (.tup [])) σ K Kp)
        | some (.tup []) => denDraw C ops rest (acc ++ [(i, .no)]) (put fr o.dst (.tup [])) σ K Kp
        | _ => .fail

/-- The operations in that order, with what belongs to each. -/
def laid (P : Program) (sp ops : List Oper) (as : List Nat) : List Nat → Nat → Option (List Item)
  | [], _ => some []
  | i :: l, n =>
    match ops[i]? with
    | some o => (laid P sp ops as l (n + needs P sp o)).map fun r => (o, i, as.getD i 0, n) :: r
    | none => none

/-- Each comes once, behind those that it waits for. -/
def orderOk : List Item → Nat → Bool
  | [], _ => true
  | (o, i, _, _) :: rest, d => !d.testBit i && (o.after.toList.all fun e => !Region.binds .any e || d.testBit e.on) && orderOk rest (d ||| 2 ^ i)

/-- Two of which none comes ahead of the other name nothing in common. -/
def apartOk (arr : Array Oper) : List Item → Bool
  | [] => true
  | (o, i, _, _) :: rest => (rest.all fun q => q.2.2.1.testBit i || o.apart arr q.1) && apartOk arr rest

def noSel (ops : List Oper) : Bool := ops.all fun o => match o.op with | .select .. => false | _ => true

/-! ### Code -/

/-- The number of new objects that nil slices in slots need. -/
def nilsIn (fr : Fr) : Nat := (fr.flatMap AV.cells).countP fun v => match v with | .nils _ => true | _ => false
def promV : AV → Nat → Heap → Option (AV × Heap)
  | .agg cs, k, σ => (promote cs k σ).map fun q => (.agg q.1, q.2)
  | .nils t, k, σ => (fillAt σ k (.vec t 0)).map fun σ1 => (.own k t [], σ1)
  | v, _, σ => some (v, σ)
def promoteS : Fr → Nat → Heap → Option (Fr × Heap)
  | [], _, σ => some ([], σ)
  | v :: vs, k, σ =>
    match promV v k σ with
    | some (v1, σ1) => (promoteS vs (k + nilsIn [v]) σ1).map fun q => (v1 :: q.1, q.2)
    | none => none

/-- The slots that are kept at a loop's head, and the objects that they reach. -/
def AV.bare : AV → AV
  | .nils t => .nilc t
  | v => v
def tidy (m : Nat) (live bare : List Nat) (fr : Fr) (σ : Heap) : Option (Fr × Heap) :=
  let fr0 := fr.zipIdx.map fun (v, i) => if live.contains i then (if bare.contains i then v.bare else v) else .undef
  match promoteS fr0 σ.length (σ ++ List.replicate (nilsIn fr0) .hole) with
  | some (fr1, σ1) =>
    let ids := closure σ1 6 (addNew (List.range m) (fr1.flatMap AV.ids3))
    (subHeap σ1 ids).map fun σ2 => (fr1.map (AV.ren3 (idx ids)), σ2)
  | none => none

/-- The number of a piece of code's first region. -/
def firstRegion : Code → Option Nat
  | .region id _ _ => some id
  | .seq a b => match firstRegion a with | some i => some i | none => firstRegion b
  | .cond _ x y => match firstRegion x with | some i => some i | none => firstRegion y
  | .block _ b => firstRegion b
  | .loop b => firstRegion b
  | .scope b => firstRegion b
  | _ => none

def outW (K : Out → T) (o : Out) : List (Way × Fr × Heap) → T
  | [] => .fail
  | (w, pf, ph) :: rest => .br (o.ex.isWay w) (.br (okFr pf o.fr && okHeap ph o.hp) (K ⟨w.ex o.ex, likeFr pf o.fr, likeHeap ph o.hp, []⟩) .fail) (outW K o rest)

/-- Behind a loop: one of the ways out that are foretold; where none is, whatever it came to. -/
def outK (ws : List (Way × Fr × Heap)) (K : Out → T) (o : Out) : T :=
  match ws with
  | [] => K o
  | w :: ws => outW K o (w :: ws)

/-- The slots that a way out keeps. -/
def kept (pf : Fr) : List Nat := pf.zipIdx.filterMap fun (p, i) => match p with | .undef => none | _ => some i

/-- At a loop's way out: what is kept. -/
def trim (m : Nat) (ws : List (Way × Fr × Heap)) (o : Out) : T :=
  match ws.find? (fun w => o.ex.isWay w.1) with
  | some (_, pf, _) =>
    match tidy m (kept pf) [] o.fr o.hp with
    | some (fr, hp) => .out ⟨o.ex, fr, hp, []⟩
    | none => .fail
  | none => .out ⟨o.ex, o.fr, o.hp, []⟩

def isDefer (o : Oper) : Bool := match o.op with | .defer _ => true | _ => false

/-- A region that puts a call off. -/
def deferOf (P : Program) (fr : Fr) (l : List Oper) : Option (Option Nat × FuncId × List AV) :=
  match l with
  | [o] =>
    match o.op, o.guard with
    | .defer c, none =>
      match c.callee with
      | .value (.func _) => (callOf P fr c).map fun q => (o.dst, q.1, q.2)
      | _ => none
    | _, _ => none
  | _ => none

/-- .. of a function made there and then. -/
def deferClo (fr : Fr) (l : List Oper) : Option (Fr × FuncId × List AV) :=
  match l with
  | [o1, o2] =>
    match o1.op, o2.op with
    | .makeFunc (.func f) first captured, .defer c =>
      match o1.guard, o2.guard, c.callee, captured.toList.mapM (ptrOf fr) with
      | none, none, .value (.tmp u), some ps => if o1.dst = some u ∧ first.size = 0 ∧ c.args.size = 0 ∧ u < fr.length then some (put (put fr o1.dst (.clo f ps)) o2.dst (.tup []), f, ps.map fun p => .ptr p.1 p.2) else none
      | _, _, _, _ => none
    | _, _ => none
  | _ => none

def denCode (C : Ctx) : Code → Fr → Heap → List Df → (Out → T) → T
  | .skip, fr, σ, df, K => K ⟨.norm, fr, σ, df⟩
  | .label _, fr, σ, df, K => K ⟨.norm, fr, σ, df⟩
  | .region _ ops draw, fr, σ, df, K =>
    if draw then
      match laid C.P (C.sp ops.toList) ops.toList (ancs ops.toList []) (sorted ops.toList ops.toList.length 0) σ.length with
      | some l =>
        if l.length = ops.toList.length ∧ orderOk l 0 = true ∧ apartOk ops l = true ∧ noSel ops.toList = true then
          denDraw C ops.toList l [] fr (σ ++ List.replicate ((ops.toList.map (needs C.P (C.sp ops.toList))).foldl (· + ·) 0) .hole) (fun fr σ => K ⟨.norm, fr, σ, df⟩) (fun x fr σ => K ⟨.pan x, fr, σ, df⟩)
        else .fail
      | none => .fail
    else
      match deferOf C.P fr ops.toList with
      | some (d, f, as) => K ⟨.norm, put fr d (.tup []), σ, ⟨f, as.map AV.calm⟩ :: df⟩
      | none =>
        match deferClo fr ops.toList with
        | some (fr', f, as) => K ⟨.norm, fr', σ, ⟨f, as⟩ :: df⟩
        | none => denOps C ops.toList (ops.toList.length + 1) ops.toList fr σ (fun fr σ => K ⟨.norm, fr, σ, df⟩) (fun x fr σ => K ⟨.pan x, fr, σ, df⟩)
  | .seq a b, fr, σ, df, K => denCode C a fr σ df fun o =>
    match o.ex with
    | .norm => denCode C b o.fr o.hp o.df K
    | _ => K o
  | .cond c x y, fr, σ, df, K =>
    match evalO fr c with
    | some (.e (.bool b)) => .br b (denCode C x fr σ df K) (denCode C y fr σ df K)
    | _ => .fail
  | .block id b, fr, σ, df, K => denCode C b fr σ df fun o =>
    match o.ex with
    | .exit i => if i = id then K ⟨.norm, o.fr, o.hp, o.df⟩ else K o
    | _ => K o
  | .loop b, fr, σ, df, K =>
    match firstRegion b, df with
    | some i, [] =>
      match tidy C.m (C.H.live C.fid i) (C.H.bare C.fid i) fr σ with
      | some (fr1, σ1) =>
        .loop b fr1 σ1 (outK (C.H.outs C.fid i) fun o => K ⟨o.ex, o.fr, o.hp, []⟩)
      | none => .fail
    | _, _ => .fail
  | .scope b, fr, σ, df, K => denCode C b fr σ df K
  | .exit id, fr, σ, df, K => K ⟨.exit id, fr, σ, df⟩
  | .ret, fr, σ, df, K => K ⟨.ret, fr, σ, df⟩
  | _, _, _, _, _ => .fail

/-- Behind a loop's round. -/
def tailK (C : Ctx) (b : Code) (o : Out) : T :=
  match firstRegion b, o.df with
  | some i, [] =>
    match o.ex with
    | .norm =>
      match tidy C.m (C.H.live C.fid i) (C.H.bare C.fid i) o.fr o.hp with
      | some (fr1, σ1) => .loop b fr1 σ1 .out
      | none => .fail
    | _ => trim C.m (C.H.outs C.fid i) o
  | _, _ => .fail

/-- A loop's round. -/
def round (C : Ctx) (b : Code) (fr : Fr) (σ : Heap) : T := denCode C b fr σ [] (tailK C b)

/-! ### Calls that are put off, and that recover -/

def isRecover (o : Oper) : Bool := match o.op with | .call { callee := .builtin .recover, .. } => true | _ => false

/-- The operations of a region that recovers; 'pv' is the caller's panic while nobody has recovered it. -/
def denOpsR (C : Ctx) (ops : List Oper) : List Oper → Fr → Heap → Option E → (Fr → Heap → Option E → T) → T
  | [], fr, σ, pv, K => K fr σ pv
  | o :: rest, fr, σ, pv, K =>
    match o.guard with
    | some _ => .fail
    | none =>
      if isRecover o then
        match pv with
        | some x => denOpsR C ops rest (put fr o.dst (.e x)) σ none K
        | none => denOpsR C ops rest (put fr o.dst (.e .nili)) σ none K
      else
        match evalPure C.P ops fr o with
        | some (ok, v) => .br ok (denOpsR C ops rest (put fr o.dst v) σ pv K) .fail
        | none => .fail

def denCodeR (C : Ctx) : Code → Fr → Heap → Option E → (Out → Option E → T) → T
  | .seq a b, fr, σ, pv, K => denCodeR C a fr σ pv fun o pv =>
    match o.ex with
    | .norm => denCodeR C b o.fr o.hp pv K
    | _ => K o pv
  | .region id ops draw, fr, σ, pv, K =>
    if ops.toList.any isRecover then
      if draw then .fail else denOpsR C ops.toList ops.toList fr σ pv fun fr σ pv => K ⟨.norm, fr, σ, []⟩ pv
    else denCode C (.region id ops draw) fr σ [] fun o => match o.df with | [] => K o pv | _ => .fail
  | c, fr, σ, pv, K => denCode C c fr σ [] fun o => match o.df with | [] => K o pv | _ => .fail

/-! ### Whole functions -/

def readRes (fr : Fr) (σ : Heap) (P : Program) : ResultVar → Option AV
  | .tmp t => fr[t]?
  | .cell a t =>
    match fr[a]?, sizeB P t with
    | some (.ptr id off), some n =>
      match σ[id]? with
      | some (.box cs) =>
        if off + n ≤ cs.length then
          if isAggB P t then some (.agg ((cs.drop off).take n)) else if n = 1 then cs[off]? else none
        else none
      | _ => none
    | _, _ => none

/-- The objects that were there, and those that a value reaches. -/
def leave (m : Nat) (v : AV) (σ : Heap) : Option (AV × Heap) :=
  let ids := closure σ 6 (addNew (List.range m) v.ids3)
  (subHeap σ ids).map fun σ' => (v.ren3 (idx ids), σ')

def retOf (ow : Bool) : List AV → AV
  | [v] => v.handed ow
  | vs => .tup (vs.map (AV.handed ow))

/-- Is this cell among those? -/
def shadT : List (Nat × Nat) → Nat → Nat → (Bool → T) → T
  | [], _, _, K => K false
  | (i0, j0) :: r, i, j, K => if (j0 == j) = true then .br (i0 == i) (K true) (shadT r i j K) else shadT r i j K
/-- What lies over an array's cells, as data, the newest first. -/
def meltOvW (f : AV → Heap → (AV → Heap → T) → T) : List (Nat × Nat) → List (Nat × Nat × AV) → Heap → (List (Nat × Nat × AV) → Heap → T) → T
  | _, [], σ, K => K [] σ
  | seen, (i, j, a) :: r, σ, K => shadT seen i j fun s =>
    bif s then meltOvW f seen r σ K else f a σ fun a' σ1 => meltOvW f ((i, j) :: seen) r σ1 fun r' σ2 => K ((i, j, a') :: r') σ2
/-- An array whose elements nobody writes any more, as data; those that it holds likewise. -/
def meltV (P : Program) (m : Nat) : Nat → AV → Heap → (AV → Heap → T) → T
  | 0, v, σ, K => K v σ
  | k + 1, v, σ, K =>
    match v with
    | .mv id et n off len =>
      match σ[id]? with
      | some (.raw (.arr et' xs ov)) =>
        if et = et' ∧ m ≤ id then
          meltOvW (meltV P m k) [] ov σ fun ov1 σ1 =>
            match σ1[id]?, meltA P et ov1 xs with
            | some (.raw _), some ys => .br (decide (n = xs.length)) (K (.e (.sl et ((ys.drop off).take len))) (σ1.set id .dead)) .fail
            | _, _ => .fail
        else .fail
      | _ => .fail
    | v => K v σ
def meltL (P : Program) (m : Nat) : List AV → Heap → (List AV → Heap → T) → T
  | [], σ, K => K [] σ
  | v :: vs, σ, K => meltV P m 3 v σ fun v σ => meltL P m vs σ fun vs σ => K (v :: vs) σ

/-- The result, in the caller's numbers. -/
def leaveT (ow : Bool) (m : Nat) (rcv : Bool) (vs : List AV) (σ : Heap) : T :=
  match leave m (retOf ow vs) σ with
  | some (v, σ) => .res (if rcv then .rcv v else .ret v) σ
  | none => .fail

/-- What a call comes to that returns. -/
def finishV (P : Program) (ow ml : Bool) (fn : Func) (m : Nat) (rcv : Bool) (o : Out) : T :=
  match fn.results.toList.mapM (readRes o.fr o.hp P) with
  | some vs => if ml = true then meltL P m vs o.hp (leaveT ow m rcv) else leaveT ow m rcv vs o.hp
  | none => .fail

/-- What a call comes to. -/
def finish (P : Program) (ow ml : Bool) (fn : Func) (m : Nat) (rcv : Bool) (o : Out) : T :=
  match o.ex with
  | .norm => finishV P ow ml fn m rcv o
  | .ret => finishV P ow ml fn m rcv o
  | .pan x =>
    match leave m (.tup []) o.hp with
    | some (_, σ) => .res (.pan x) σ
    | none => .fail
  | _ => .fail

/-- Objects without rights to grow in their cells. -/
def Ob.weak : Ob → Ob
  | .box cs => .box (cs.map AV.calm1)
  | o => o
def weakH (σ : Heap) : Heap := σ.map Ob.weak

/-- The calls that were put off, the last one first. -/
def leaving (C : Ctx) (fn : Func) (o : Out) : List Df → Heap → Ex → T
  | [], σ, ex => finish C.P (C.H.give C.fid) (C.H.melt C.fid) fn C.m false ⟨ex, o.fr, σ, []⟩
  | d :: ds, σ0, ex =>
    let σ := weakH σ0
    let ids := closure σ 6 (addNew [] (d.args.flatMap AV.ids2))
    match subHeap σ ids with
    | none => .fail
    | some σc =>
      match ex with
      | .pan x =>
        let ph := (C.H.rcvd d.f).getD σc
        if σc.length ≤ ph.length then
        .call (some (some x)) d.f (d.args.map (AV.ren2 (idx ids))) σc fun rh =>
          .br rh.1.isRcv (.br (okHeap ph rh.2) (leaving C fn o ds (backTo ids (likeHeap ph rh.2) σ) .ret) .fail)
            (.br rh.1.isRet (.br (okHeap σc rh.2) (leaving C fn o ds (backTo ids (likeHeap σc rh.2) σ) (.pan x)) .fail) .fail)
        else .fail
      | .exit _ => .fail
      | _ =>
        .call (some none) d.f (d.args.map (AV.ren2 (idx ids))) σc fun rh =>
          .br rh.1.isRet (.br (okHeap σc rh.2) (leaving C fn o ds (backTo ids (likeHeap σc rh.2) σ) .ret) .fail) .fail

def startFr (fn : Func) (args : List AV) : Fr := args ++ List.replicate (fn.ntmps - args.length) (.tup [])

/-- A call's body. -/
def bodyT (P : Program) (H : Hints) (md : Mode) (f : FuncId) (args : List AV) (σ : Heap) : T :=
  match H.prim md f with
  | some g => (g args σ).splice fun rh => .res rh.1 rh.2
  | none =>
    match P.funcs[f]? with
    | none => .fail
    | some fn =>
      match fn.body with
      | none => .fail
      | some c =>
        let C : Ctx := { P, m := σ.length, fid := f, H, md }
        match md with
        | none => denCode C c (startFr fn args) σ [] fun o => match o.df with | [] => finish P (H.give f) (H.melt f) fn σ.length false o | ds => leaving C fn o ds o.hp o.ex
        | some pv => denCodeR C c (startFr fn args) σ pv fun o pv' =>
            if o.ex.isWay .pan then .fail else finish P (H.give f) (H.melt f) fn σ.length (pv.isSome && pv'.isNone) o

def loopT (P : Program) (H : Hints) (f : FuncId) (m : Nat) (b : Code) (fr : Fr) (σ : Heap) : T :=
  round { P, m, fid := f, H, md := none } b fr σ

def bodyRun (P : Program) (H : Hints) (run : RunF) (loop : LoopF) (md : Mode) (f : FuncId) (args : List AV) (σ : Heap) : Option (Res × Heap) :=
  (bodyT P H md f args σ).runs run (loop f σ.length)
def bodyLoop (P : Program) (H : Hints) (run : RunF) (loop : LoopF) (f : FuncId) (m : Nat) (b : Code) (fr : Fr) (σ : Heap) : Option Out :=
  (loopT P H f m b fr σ).outs run (loop f m)

mutual
def runK (P : Program) (H : Hints) : Nat → Mode → FuncId → List AV → Heap → Option (Res × Heap)
  | 0, _, _, _, _ => none
  | k + 1, md, f, args, σ => bodyRun P H (runK P H k) (loopK P H k) md f args σ
def loopK (P : Program) (H : Hints) : Nat → FuncId → Nat → Code → Fr → Heap → Option Out
  | 0, _, _, _, _, _ => none
  | k + 1, f, m, b, fr, σ => bodyLoop P H (runK P H k) (loopK P H k) f m b fr σ
end

end Go.Den

/- What the interpreter's values say of the model's memory, and that it stays said while the memory grows. -/
namespace Go.Den
open Go

abbrev Gr := List (Option (Nat × Nat))
abbrev Cells := Nat → Nat → Prop

/-- A value in memory reads as a datum, by cells of S alone. -/
inductive VE (P : Program) (w : World) (S : Cells) : E → Value → Prop
  | int (k : IntKind) (n : Int) : VE P w S (.int k n) (.int k n)
  | bool (b : Bool) : VE P w S (.bool b) (.bool b)
  | str (s : List UInt8) (b : ByteArray) (h : b.data.toList = s) : VE P w S (.str s) (.string b)
  | sl (et : TypeId) (xs : List E) (A : Option Addr) (c : Nat) (fs : List TypeId) (b o : Nat) (f : Nat → Nat → Value)
      (hfs : flat P depth et = some fs) (hc : xs.length ≤ c)
      (hlen : ∀ (i : Nat) (y : E), xs[i]? = some y → y.cells.length = fs.length)
      (hok : ∀ (i : Nat) (y : E) (j : Nat) (ct : TypeId) (x : E), xs[i]? = some y → fs[j]? = some ct → y.cells[j]? = some x → okCell P ct x = true)
      (hA : ∀ (i : Nat) (y : E) (j : Nat) (x : E), xs[i]? = some y → y.cells[j]? = some x → A = some ⟨b, o, none⟩ ∧ S b (o + i * fs.length + j) ∧ w.cell? ⟨b, o + i * fs.length + j, none⟩ = some (f i j))
      (hE : ∀ (i : Nat) (y : E) (j : Nat) (x : E), xs[i]? = some y → y.cells[j]? = some x → VE P w S x (f i j)) :
      VE P w S (.sl et xs) (.slice A xs.length c)
  | agg (cs : List E) (arr : Array Value) (f : Nat → Value) (h1 : arr.size = cs.length)
      (h2 : ∀ (j : Nat) (x : E), cs[j]? = some x → arr[j]? = some (f j)) (h3 : ∀ (j : Nat) (x : E), cs[j]? = some x → VE P w S x (f j)) : VE P w S (.agg cs) (.agg arr)
  | ifc (t : TypeId) (x : E) (v : Value) (h : VE P w S x v) : VE P w S (.ifc t x) (.iface t v)
  | nili : VE P w S .nili .nilIface

theorem VE.mono {P : Program} {w w' : World} {S S' : Cells} (hm : ∀ b o, S b o → S' b o ∧ w'.cell? ⟨b, o, none⟩ = w.cell? ⟨b, o, none⟩) {x : E} {v : Value}
    (h : VE P w S x v) : VE P w' S' x v := by
  induction h with
  | int k n => exact .int k n
  | bool b => exact .bool b
  | str s b h => exact .str s b h
  | sl et xs A c fs b o f hfs hc hlen hok hA _ ih =>
    exact .sl et xs A c fs b o f hfs hc hlen hok (fun i y j x h1 h2 => ⟨(hA i y j x h1 h2).1, (hm _ _ (hA i y j x h1 h2).2.1).1, by rw [(hm _ _ (hA i y j x h1 h2).2.1).2]; exact (hA i y j x h1 h2).2.2⟩) ih
  | agg cs arr f h1 h2 _ ih => exact .agg cs arr f h1 h2 ih
  | ifc t x v _ ih => exact .ifc t x v ih
  | nili => exact .nili

/-- Where a growing slice lies. -/
def place (ρ : Gr) (id n : Nat) (cv : Value) : Prop :=
  (ρ[id]? = some none ∧ cv = .slice none 0 0 ∧ n = 0) ∨ ∃ b c, ρ[id]? = some (some (b, c)) ∧ cv = .slice (some ⟨b, 0, none⟩) n c

def VA1 (P : Program) (σ : Heap) (ρ : Gr) (S : Cells) (w : World) : AV → Value → Prop
  | .e x, cv => VE P w S x cv
  | .nils et, cv => cv = .slice none 0 0 ∧ ∃ fs, flat P depth et = some fs
  | .nilc et, cv => (∃ A, cv = .slice A 0 0) ∧ ∃ fs, flat P depth et = some fs
  | .nil0 et, cv => (∃ c, cv = .slice none 0 c) ∧ ∃ fs, flat P depth et = some fs
  | .sn et xs, cv => VE P w S (.sl et xs) cv ∧ ∃ A n c, cv = .slice (some A) n c
  | .own id et xs, cv => VE P w S (.sl et xs) cv ∧ ((∃ n, σ[id]? = some (.vec et n) ∧ xs.length ≤ n ∧ (n = xs.length → place ρ id xs.length cv)) ∨ σ[id]? = some .dead)
  | .ptr id off, cv => ∃ b c, ρ[id]? = some (some (b, c)) ∧ (∃ cs, σ[id]? = some (.box cs)) ∧ cv = .pointer (some ⟨b, off, none⟩)
  | .nilp, cv => cv = .pointer none
  | .pin et y off, cv => ∃ (b o : Nat) (fs : List TypeId) (f : Nat → Value), cv = .pointer (some ⟨b, o + off, none⟩) ∧ flat P depth et = some fs ∧ y.cells.length = fs.length ∧
      (∀ (j : Nat) (ct : TypeId) (x : E), fs[j]? = some ct → y.cells[j]? = some x → okCell P ct x = true) ∧
      (∀ (j : Nat) (x : E), y.cells[j]? = some x → S b (o + j) ∧ w.cell? ⟨b, o + j, none⟩ = some (f j) ∧ VE P w S x (f j))
  | .fn f, cv => cv = .func (.func f) #[] #[]
  | .clo f ps, cv => ∃ cap : Array Value, cv = .func (.func f) #[] cap ∧ cap.size = ps.length ∧ ∀ (j : Nat) (p : Nat × Nat), ps[j]? = some p →
      ∃ b c, ρ[p.1]? = some (some (b, c)) ∧ (∃ cs, σ[p.1]? = some (.box cs)) ∧ cap[j]? = some (.pointer (some ⟨b, p.2, none⟩))
  | .itr id, cv => ∃ b c, ρ[id]? = some (some (b, c)) ∧ (∃ r, σ[id]? = some (.raw r) ∧ r.kind.1 = 0) ∧ cv = .pointer (some ⟨b, 0, none⟩)
  | .nsp id t, cv => (∃ cs, σ[id]? = some (.box cs)) ∧ ∃ b, ρ[id]? = some (some (b, t)) ∧ (cv = .pointer none ∨ cv = .pointer (some ⟨b, 0, none⟩))
  | .mv id et n off len, cv => ∃ (b o c : Nat) (fs : List TypeId), cv = .slice (some ⟨b, o, none⟩) len c ∧ (flat P depth et = some fs ∧ len ≤ c) ∧
      ((∃ xs ov, σ[id]? = some (.raw (.arr et xs ov)) ∧ n ≤ xs.length ∧ (n = xs.length → ∃ c0, ρ[id]? = some (some (b, c0)) ∧ (c ≠ 0 → o = off * fs.length) ∧ c = c0 - off ∧ off + len ≤ n)) ∨ σ[id]? = some .dead)
  | .eptr id n i j, cv => ∃ (b o : Nat), cv = .pointer (some ⟨b, o, none⟩) ∧
      ((∃ et xs ov fs, σ[id]? = some (.raw (.arr et xs ov)) ∧ flat P depth et = some fs ∧ n ≤ xs.length ∧ (n = xs.length → ∃ c0, ρ[id]? = some (some (b, c0)) ∧ o = i * fs.length + j ∧ i < n)) ∨ σ[id]? = some .dead)
  | .mp id, cv => ∃ b c, ρ[id]? = some (some (b, c)) ∧ (∃ r, σ[id]? = some (.raw r) ∧ r.kind.1 = 2) ∧ cv = .map (some b)
  | .nilm, cv => cv = .map none
  | .ni, cv => ∃ t v, cv = .iface t v
  | .undef, _ => True
  | .agg _, _ => False
  | .tup _, _ => False

def VA2 (P : Program) (σ : Heap) (ρ : Gr) (S : Cells) (w : World) : AV → Value → Prop
  | .agg cs, cv => ∃ arr : Array Value, cv = .agg arr ∧ arr.size = cs.length ∧ ∀ (j : Nat) (v : AV), cs[j]? = some v → v.one = true ∧ ∃ x, arr[j]? = some x ∧ VA1 P σ ρ S w v x
  | v, cv => VA1 P σ ρ S w v cv

def VA3 (P : Program) (σ : Heap) (ρ : Gr) (S : Cells) (w : World) : AV → Value → Prop
  | .tup vs, cv => ∃ arr : Array Value, cv = .tuple arr ∧ arr.size = vs.length ∧ ∀ (j : Nat) (v : AV), vs[j]? = some v → ∃ x, arr[j]? = some x ∧ VA2 P σ ρ S w v x
  | v, cv => VA2 P σ ρ S w v cv

/-- A cell of an array: what lies over it, or its data. -/
def CellOk (P : Program) (σ : Heap) (ρ : Gr) (S : Cells) (w : World) (a : Option AV) (x : E) (v : Value) : Prop :=
  match a with
  | some a => a.one = true ∧ VA1 P σ ρ S w a v
  | none => VE P w S x v

/-- An object that is no row of cells that data reads, as it lies in memory. -/
def RawOk (P : Program) (σ : Heap) (ρ : Gr) (S : Cells) (w : World) (c : Nat) : Raw → Obj → Prop
  | .iter s pos, o => ∃ b : ByteArray, o = .stringIter b pos ∧ b.data.toList = s
  | .arr et xs ov, o => ∃ (arr : Array Value) (fs : List TypeId), o = .cells arr et (0, 0) ∧ flat P depth et = some fs ∧ fs.length ≠ 0 ∧ xs.length ≤ c ∧ c * fs.length ≤ arr.size ∧
      (∀ p ∈ ov, p.1 < xs.length) ∧ (∀ (i : Nat) (y : E), xs[i]? = some y → y.cells.length = fs.length) ∧
      (∀ (i : Nat) (y : E) (j : Nat) (ct : TypeId) (x : E), xs[i]? = some y → fs[j]? = some ct → y.cells[j]? = some x → ovAt ov i j = none → okCell P ct x = true) ∧
      (∀ (i : Nat) (y : E) (j : Nat) (x : E), xs[i]? = some y → y.cells[j]? = some x → ∃ v, arr[i * fs.length + j]? = some v ∧ CellOk P σ ρ S w (ovAt ov i j) x v)
  | .map _ _ es, o => ∃ (ents : Array MapEntry) (clk : Nat), o = .map ents clk ∧ ents.size = es.length ∧
      ∀ (i : Nat) (k : E) (v : AV), es[i]? = some (k, v) → ∃ e, ents[i]? = some e ∧ VE P w S k e.key ∧ VA2 P σ ρ S w v e.val

/-- Tables of the library that are read; what they hold. -/
def isPow10 (a : Array Value) : Prop := a = (Lib.pow10Tab.map fun z => Value.int .u64 z).toArray
/-- .. or one interface value. -/
def isIfc (a : Array Value) : Prop := ∃ v, a = #[v] ∧ (v = .nilIface ∨ ∃ t p, v = .iface t p)
def tabs : List (String × (Array Value → Prop)) := [("internal/strconv.uint64pow10", isPow10), ("strconv.ErrSyntax", isIfc), ("strconv.ErrRange", isIfc)]

/-- The tables lie where they lay, and no object lies there. -/
def TabsOk (P : Program) (ρ : Gr) (w : World) : Prop :=
  ∀ p ∈ tabs, ∀ g, P.globalNamed p.1 = some g → (∃ a, w.var? P p.1 = some a ∧ p.2 a) ∧ g < w.heap.size ∧ ∀ (id c : Nat), ρ[id]? ≠ some (some (g, c))

/-- The objects as they lie in memory. -/
structure Rel (P : Program) (σ : Heap) (ρ : Gr) (S : Cells) (w : World) : Prop where
  len : ρ.length = σ.length
  box : ∀ (id : Nat) (cs : List AV), σ[id]? = some (.box cs) → ∃ b c arr T, ρ[id]? = some (some (b, c)) ∧ w.heap[b]? = some (.cells arr T (0, 0)) ∧ arr.size = cs.length ∧
    (∀ (j : Nat) (v : AV), cs[j]? = some v → v.one = true ∧ ∃ x, arr[j]? = some x ∧ VA1 P σ ρ S w v x) ∧ (∀ o, ¬ S b o) ∧ T = c
  vec : ∀ (id : Nat) (et : TypeId) (n b c : Nat), σ[id]? = some (.vec et n) → ρ[id]? = some (some (b, c)) → ∃ arr T fs, w.heap[b]? = some (.cells arr T (0, 0)) ∧ flat P depth et = some fs ∧
    n ≤ c ∧ c * fs.length ≤ arr.size ∧ (∀ o, S b o → o < n * fs.length) ∧ T = et
  raw : ∀ (id : Nat) (r : Raw), σ[id]? = some (.raw r) → ∃ b c o, ρ[id]? = some (some (b, c)) ∧ w.heap[b]? = some o ∧ RawOk P σ ρ S w c r o ∧ ∀ o, ¬ S b o
  hole : ∀ (id : Nat), σ[id]? = some .hole → ρ[id]? = some none
  lt : ∀ (id b c : Nat), ρ[id]? = some (some (b, c)) → b < w.heap.size
  inj : ∀ (i j b c c' : Nat), ρ[i]? = some (some (b, c)) → ρ[j]? = some (some (b, c')) → i = j
  cells : ∀ (b o : Nat), S b o → ∃ v, w.cell? ⟨b, o, none⟩ = some v
  glob : TabsOk P ρ w

/-- What was said stays said: the objects are there, the cells that data reads are as they were, nothing else that was there has turned. -/
structure Ext (σ : Heap) (ρ : Gr) (S : Cells) (w : World) (σ' : Heap) (ρ' : Gr) (S' : Cells) (w' : World) : Prop where
  cell : ∀ (b o : Nat), S b o → S' b o ∧ w'.cell? ⟨b, o, none⟩ = w.cell? ⟨b, o, none⟩
  box : ∀ (id : Nat) (cs : List AV), σ[id]? = some (.box cs) → (∃ cs', σ'[id]? = some (.box cs')) ∧ ρ'[id]? = ρ[id]?
  vec : ∀ (id : Nat) (et : TypeId) (n : Nat), σ[id]? = some (.vec et n) → (∃ n', n ≤ n' ∧ σ'[id]? = some (.vec et n') ∧ (n' = n → ρ'[id]? = ρ[id]?)) ∨ σ'[id]? = some .dead
  raw : ∀ (id : Nat) (r : Raw), σ[id]? = some (.raw r) → (∃ r', r'.kind = r.kind ∧ r.size ≤ r'.size ∧ σ'[id]? = some (.raw r') ∧ (r'.size = r.size → ρ'[id]? = ρ[id]?)) ∨ (r.kind.1 = 1 ∧ σ'[id]? = some .dead)
  dead : ∀ (id : Nat), σ[id]? = some .dead → σ'[id]? = some .dead
  old : ∀ (b : Nat), b < w.heap.size → (∀ (id c : Nat), ρ[id]? ≠ some (some (b, c))) → w'.heap[b]? = w.heap[b]?
  fresh : ∀ (id b c : Nat), ρ'[id]? = some (some (b, c)) → w.heap.size ≤ b ∨ ∃ (i c' : Nat), ρ[i]? = some (some (b, c'))
  newS : ∀ (b o : Nat), S' b o → S b o ∨ w.heap.size ≤ b ∨ ∃ (i c : Nat), ρ[i]? = some (some (b, c))
  size : w.heap.size ≤ w'.heap.size
  os : w'.os = w.os
  tape : w'.tape = w.tape
  output : w'.output = w.output

theorem TabsOk.mono {P : Program} {σ σ' : Heap} {ρ ρ' : Gr} {S S' : Cells} {w w' : World} (h : TabsOk P ρ w) (he : Ext σ ρ S w σ' ρ' S' w') : TabsOk P ρ' w' := by
  intro p hp g hg
  obtain ⟨⟨q, h1, hq⟩, h2, h3⟩ := h p hp g hg
  refine ⟨⟨q, ?_, hq⟩, Nat.lt_of_lt_of_le h2 he.size, fun id c hc => ?_⟩
  · rw [← h1]
    unfold World.var?
    rw [hg]
    simp only [Option.bind_some]
    rw [he.old g h2 h3]
  · rcases he.fresh id g c hc with h4 | ⟨i, c', h4⟩
    · omega
    · exact h3 i c' h4

theorem TabsOk.mono' {P : Program} {ρ ρ' : Gr} {w : World} (h : TabsOk P ρ w) (hs : ∀ (id b c : Nat), ρ'[id]? = some (some (b, c)) → ∃ i : Nat, ρ[i]? = some (some (b, c))) : TabsOk P ρ' w := by
  intro p hp g hg
  obtain ⟨h1, h2, h3⟩ := h p hp g hg
  refine ⟨h1, h2, fun id c hc => ?_⟩
  obtain ⟨i, h4⟩ := hs id g c hc
  exact h3 i c h4

theorem Ext.refl (σ : Heap) (ρ : Gr) (S : Cells) (w : World) : Ext σ ρ S w σ ρ S w :=
  ⟨fun _ _ h => ⟨h, rfl⟩, fun _ _ h => ⟨⟨_, h⟩, rfl⟩, fun _ _ n h => .inl ⟨n, Nat.le_refl _, h, fun _ => rfl⟩, fun _ r h => .inl ⟨r, rfl, Nat.le_refl _, h, fun _ => rfl⟩, fun _ h => h, fun _ _ _ => rfl, fun i _ c h => .inr ⟨i, c, h⟩, fun _ _ h => .inl h, Nat.le_refl _, rfl, rfl, rfl⟩

theorem Ext.trans {σ σ1 σ2 : Heap} {ρ ρ1 ρ2 : Gr} {S S1 S2 : Cells} {w w1 w2 : World} (h : Ext σ ρ S w σ1 ρ1 S1 w1) (k : Ext σ1 ρ1 S1 w1 σ2 ρ2 S2 w2) :
    Ext σ ρ S w σ2 ρ2 S2 w2 where
  cell b o hs := ⟨(k.cell b o (h.cell b o hs).1).1, (k.cell b o (h.cell b o hs).1).2.trans (h.cell b o hs).2⟩
  box id cs hb := by
    obtain ⟨⟨cs1, h1⟩, h2⟩ := h.box id cs hb
    obtain ⟨h3, h4⟩ := k.box id cs1 h1
    exact ⟨h3, h4.trans h2⟩
  vec id et n hv := by
    rcases h.vec id et n hv with ⟨n1, l1, h1, e1⟩ | h1
    · rcases k.vec id et n1 h1 with ⟨n2, l2, h2, e2⟩ | h2
      · refine .inl ⟨n2, Nat.le_trans l1 l2, h2, fun he => ?_⟩
        have hn1 : n1 = n := by omega
        subst hn1
        exact (e2 he).trans (e1 rfl)
      · exact .inr h2
    · exact .inr (k.dead id h1)
  raw id r hb := by
    rcases h.raw id r hb with ⟨r1, k1, l1, h1, e1⟩ | ⟨k1, h1⟩
    · rcases k.raw id r1 h1 with ⟨r2, k2, l2, h2, e2⟩ | ⟨k2, h2⟩
      · refine .inl ⟨r2, k2.trans k1, Nat.le_trans l1 l2, h2, fun he => ?_⟩
        rw [e2 (by omega), e1 (by omega)]
      · exact .inr ⟨k1 ▸ k2, h2⟩
    · exact .inr ⟨k1, k.dead id h1⟩
  dead id hd := k.dead id (h.dead id hd)
  old b hb hn := by
    rw [k.old b (Nat.lt_of_lt_of_le hb h.size) ?_, h.old b hb hn]
    intro id c hc
    rcases h.fresh id b c hc with h1 | ⟨i, c', h1⟩
    · omega
    · exact hn i c' h1
  fresh id b c hc := by
    rcases k.fresh id b c hc with h1 | ⟨i, c', h1⟩
    · exact .inl (Nat.le_trans h.size h1)
    · exact h.fresh i b c' h1
  newS b o hs := by
    rcases k.newS b o hs with h1 | h1 | ⟨i, c, h1⟩
    · exact h.newS b o h1
    · exact .inr (.inl (Nat.le_trans h.size h1))
    · rcases h.fresh i b c h1 with h2 | h2
      · exact .inr (.inl h2)
      · exact .inr (.inr h2)
  size := Nat.le_trans h.size k.size
  os := k.os.trans h.os
  tape := k.tape.trans h.tape
  output := k.output.trans h.output

theorem Raw.size_zero {r : Raw} (h : r.kind.1 ≠ 1) : r.size = 0 := by cases r <;> first | rfl | exact absurd rfl h
theorem Raw.arr_of_kind {r : Raw} {et : TypeId} {xs : List E} {ov : List (Nat × Nat × AV)} (h : r.kind = (Raw.arr et xs ov).kind) : ∃ xs' ov', r = .arr et xs' ov' := by
  cases r <;> simp [Raw.kind] at h
  subst h
  exact ⟨_, _, rfl⟩

section
variable {P : Program} {σ σ' : Heap} {ρ ρ' : Gr} {S S' : Cells} {w w' : World}

theorem VA1.mono (h : Ext σ ρ S w σ' ρ' S' w') {v : AV} {cv : Value} (hv : VA1 P σ ρ S w v cv) : VA1 P σ' ρ' S' w' v cv := by
  cases v with
  | e x => exact VE.mono h.cell hv
  | nils et => exact hv
  | nilc et => exact hv
  | nil0 et => exact hv
  | sn et xs => exact ⟨VE.mono h.cell hv.1, hv.2⟩
  | own id et xs =>
    obtain ⟨h1, ⟨n, h2, h3, h4⟩ | h2⟩ := hv
    · rcases h.vec id et n h2 with ⟨n', l, h5, h6⟩ | h5
      · refine ⟨VE.mono h.cell h1, .inl ⟨n', h5, by omega, fun he => ?_⟩⟩
        have hn : n = xs.length := by omega
        have := h4 hn
        unfold place at *
        rw [h6 (by omega)]
        exact this
      · exact ⟨VE.mono h.cell h1, .inr h5⟩
    · exact ⟨VE.mono h.cell h1, .inr (h.dead id h2)⟩
  | ptr id off =>
    obtain ⟨b, c, h1, ⟨cs, h2⟩, h3⟩ := hv
    obtain ⟨h4, h5⟩ := h.box id cs h2
    exact ⟨b, c, h5.trans h1, h4, h3⟩
  | nilp => exact hv
  | pin et y off =>
    obtain ⟨b, o, fs, f, h1, h2, h3, h4, h5⟩ := hv
    exact ⟨b, o, fs, f, h1, h2, h3, h4, fun j x hj => ⟨(h.cell _ _ (h5 j x hj).1).1, (h.cell _ _ (h5 j x hj).1).2.trans (h5 j x hj).2.1, VE.mono h.cell (h5 j x hj).2.2⟩⟩
  | fn f => exact hv
  | clo f ps =>
    obtain ⟨cap, h1, h2, h3⟩ := hv
    refine ⟨cap, h1, h2, fun j p hj => ?_⟩
    obtain ⟨b, c, h4, ⟨cs, h5⟩, h6⟩ := h3 j p hj
    obtain ⟨h7, h8⟩ := h.box p.1 cs h5
    exact ⟨b, c, h8.trans h4, h7, h6⟩
  | itr id =>
    obtain ⟨b, c, h1, ⟨r, h2, h2'⟩, h3⟩ := hv
    rcases h.raw id r h2 with ⟨r', h4, h5, h6, h7⟩ | ⟨h4, _⟩
    · refine ⟨b, c, (h7 ?_).trans h1, ⟨r', h6, h4 ▸ h2'⟩, h3⟩
      exact (Raw.size_zero (by rw [h4, h2']; decide)).trans (Raw.size_zero (by rw [h2']; decide)).symm
    · rw [h2'] at h4; cases h4
  | mp id =>
    obtain ⟨b, c, h1, ⟨r, h2, h2'⟩, h3⟩ := hv
    rcases h.raw id r h2 with ⟨r', h4, h5, h6, h7⟩ | ⟨h4, _⟩
    · refine ⟨b, c, (h7 ?_).trans h1, ⟨r', h6, h4 ▸ h2'⟩, h3⟩
      exact (Raw.size_zero (by rw [h4, h2']; decide)).trans (Raw.size_zero (by rw [h2']; decide)).symm
    · rw [h2'] at h4; cases h4
  | nilm => exact hv
  | mv id et n off len =>
    obtain ⟨b, o, c, fs, h1, hfs, ⟨xs, ov, h2, h3, h4⟩ | h2⟩ := hv
    · refine ⟨b, o, c, fs, h1, hfs, ?_⟩
      rcases h.raw id _ h2 with ⟨r', k1, k2, k3, k4⟩ | ⟨_, k1⟩
      · obtain ⟨xs', ov', rfl⟩ := Raw.arr_of_kind k1
        refine .inl ⟨xs', ov', k3, Nat.le_trans h3 k2, fun he => ?_⟩
        have k2' : xs.length ≤ xs'.length := k2
        obtain ⟨c0, h5, h6⟩ := h4 (by omega)
        exact ⟨c0, (k4 (show xs'.length = xs.length by omega)).trans h5, h6⟩
      · exact .inr k1
    · exact ⟨b, o, c, fs, h1, hfs, .inr (h.dead id h2)⟩
  | eptr id n i j =>
    obtain ⟨b, o, h1, ⟨et, xs, ov, fs, h2, hfs, h3, h4⟩ | h2⟩ := hv
    · refine ⟨b, o, h1, ?_⟩
      rcases h.raw id _ h2 with ⟨r', k1, k2, k3, k4⟩ | ⟨_, k1⟩
      · obtain ⟨xs', ov', rfl⟩ := Raw.arr_of_kind k1
        refine .inl ⟨et, xs', ov', fs, k3, hfs, Nat.le_trans h3 k2, fun he => ?_⟩
        have k2' : xs.length ≤ xs'.length := k2
        obtain ⟨c0, h5, h6⟩ := h4 (by omega)
        exact ⟨c0, (k4 (show xs'.length = xs.length by omega)).trans h5, h6⟩
      · exact .inr k1
    · exact ⟨b, o, h1, .inr (h.dead id h2)⟩
  | nsp id t =>
    obtain ⟨⟨cs, h1⟩, b, h2, h3⟩ := hv
    obtain ⟨h4, h5⟩ := h.box id cs h1
    exact ⟨h4, b, h5.trans h2, h3⟩
  | ni => exact hv
  | undef => trivial
  | agg cs => exact hv.elim
  | tup vs => exact hv.elim

theorem VA2_eq {v : AV} {cv : Value} (h : ∀ cs, v ≠ .agg cs) : VA2 P σ ρ S w v cv = VA1 P σ ρ S w v cv := by
  cases v <;> first | rfl | exact absurd rfl (h _)
theorem VA3_eq {v : AV} {cv : Value} (h : ∀ cs, v ≠ .tup cs) : VA3 P σ ρ S w v cv = VA2 P σ ρ S w v cv := by
  cases v <;> first | rfl | exact absurd rfl (h _)
theorem VA1.not_agg {v : AV} {cv : Value} (h : VA1 P σ ρ S w v cv) : ∀ cs, v ≠ .agg cs := by rintro cs rfl; exact h.elim
theorem VA1.not_tup {v : AV} {cv : Value} (h : VA1 P σ ρ S w v cv) : ∀ cs, v ≠ .tup cs := by rintro cs rfl; exact h.elim
theorem VA2.not_tup {v : AV} {cv : Value} (h : VA2 P σ ρ S w v cv) : ∀ cs, v ≠ .tup cs := by rintro cs rfl; exact h.elim

theorem VA2.mono (h : Ext σ ρ S w σ' ρ' S' w') {v : AV} {cv : Value} (hv : VA2 P σ ρ S w v cv) : VA2 P σ' ρ' S' w' v cv := by
  by_cases hh : ∃ cs, v = .agg cs
  · obtain ⟨cs, rfl⟩ := hh
    obtain ⟨arr, h1, h2, h3⟩ := hv
    refine ⟨arr, h1, h2, fun j v hj => ?_⟩
    obtain ⟨ho, x, h4, h5⟩ := h3 j v hj
    exact ⟨ho, x, h4, h5.mono h⟩
  · have hn : ∀ cs, v ≠ .agg cs := fun cs e => hh ⟨cs, e⟩
    rw [VA2_eq hn] at *
    exact hv.mono h

theorem VA3.mono (h : Ext σ ρ S w σ' ρ' S' w') {v : AV} {cv : Value} (hv : VA3 P σ ρ S w v cv) : VA3 P σ' ρ' S' w' v cv := by
  by_cases hh : ∃ cs, v = .tup cs
  · obtain ⟨vs, rfl⟩ := hh
    obtain ⟨arr, h1, h2, h3⟩ := hv
    refine ⟨arr, h1, h2, fun j v hj => ?_⟩
    obtain ⟨x, h4, h5⟩ := h3 j v hj
    exact ⟨x, h4, h5.mono h⟩
  · have hn : ∀ cs, v ≠ .tup cs := fun cs e => hh ⟨cs, e⟩
    rw [VA3_eq hn] at *
    exact hv.mono h

theorem CellOk.mono (h : Ext σ ρ S w σ' ρ' S' w') {a : Option AV} {x : E} {v : Value} (hv : CellOk P σ ρ S w a x v) : CellOk P σ' ρ' S' w' a x v := by
  cases a with
  | none => exact VE.mono h.cell hv
  | some a => exact ⟨hv.1, hv.2.mono h⟩
theorem RawOk.mono (h : Ext σ ρ S w σ' ρ' S' w') {c : Nat} {r : Raw} {o : Obj} (hv : RawOk P σ ρ S w c r o) : RawOk P σ' ρ' S' w' c r o := by
  cases r with
  | iter s pos => exact hv
  | arr et xs ov =>
    obtain ⟨arr, fs, h1, h2, h3, h4, h5, h6, h7, h8, h9⟩ := hv
    exact ⟨arr, fs, h1, h2, h3, h4, h5, h6, h7, h8, fun i y j x hy hj => let ⟨v, k1, k2⟩ := h9 i y j x hy hj; ⟨v, k1, k2.mono h⟩⟩
  | map kt vt es =>
    obtain ⟨ents, clk, h1, h2, h3⟩ := hv
    exact ⟨ents, clk, h1, h2, fun i k v hi => let ⟨e, k1, k2, k3⟩ := h3 i k v hi; ⟨e, k1, VE.mono h.cell k2, k3.mono h⟩⟩

theorem VA1.to2 {v : AV} {cv : Value} (h : VA1 P σ ρ S w v cv) : VA2 P σ ρ S w v cv := by rw [VA2_eq h.not_agg]; exact h
theorem VA2.to3 {v : AV} {cv : Value} (h : VA2 P σ ρ S w v cv) : VA3 P σ ρ S w v cv := by rw [VA3_eq h.not_tup]; exact h
theorem VA1.to3 {v : AV} {cv : Value} (h : VA1 P σ ρ S w v cv) : VA3 P σ ρ S w v cv := h.to2.to3
end

/-- The frame's slots. -/
def FR (P : Program) (σ : Heap) (ρ : Gr) (S : Cells) (w : World) (fr : Fr) (tm : Array Value) : Prop :=
  tm.size = fr.length ∧ ∀ (t : Nat) (v : AV), fr[t]? = some v → ∃ cv, tm[t]? = some cv ∧ VA3 P σ ρ S w v cv

theorem FR.mono {P : Program} {σ σ' : Heap} {ρ ρ' : Gr} {S S' : Cells} {w w' : World} (h : Ext σ ρ S w σ' ρ' S' w') {fr : Fr} {tm : Array Value}
    (hf : FR P σ ρ S w fr tm) : FR P σ' ρ' S' w' fr tm :=
  ⟨hf.1, fun t v ht => let ⟨cv, h1, h2⟩ := hf.2 t v ht; ⟨cv, h1, h2.mono h⟩⟩

theorem FR.set {P : Program} {σ : Heap} {ρ : Gr} {S : Cells} {w : World} {fr : Fr} {tm : Array Value} (hf : FR P σ ρ S w fr tm) (d : Nat) {v : AV} {cv : Value}
    (hv : VA3 P σ ρ S w v cv) : FR P σ ρ S w (fr.set d v) (tm.setIfInBounds d cv) := by
  refine ⟨by simp [hf.1], fun t u ht => ?_⟩
  rw [List.getElem?_set] at ht
  rw [Array.getElem?_setIfInBounds]
  split at ht
  · rename_i e
    subst e
    split at ht
    · injection ht with ht
      subst ht
      exact ⟨cv, by simp [hf.1, *], hv⟩
    · cases ht
  · rename_i e
    rw [if_neg e]
    exact hf.2 t u ht

theorem FR.put {P : Program} {σ : Heap} {ρ : Gr} {S : Cells} {w : World} {fr : Fr} {a : Act} (hf : FR P σ ρ S w fr a.tmps) (d : Option Nat) {v : AV} {cv : Value}
    (hv : VA3 P σ ρ S w v cv) : FR P σ ρ S w (put fr d v) (a.put d cv).tmps := by
  cases d with
  | none => exact hf
  | some d => exact hf.set d hv

end Go.Den

/- Each operation that the interpreter carries out is carried out so by the model. -/
namespace Go.Den
open Go

section
variable {P : Program} {σ : Heap} {ρ : Gr} {S : Cells} {w : World} {fr : Fr} {a : Act}

theorem eval_tmp {t : Nat} {cv : Value} (h : a.tmps[t]? = some cv) : a.eval (.tmp t) = cv := by
  simp [Act.eval, h]

theorem evalO_ok (hf : FR P σ ρ S w fr a.tmps) {x : Operand} {v : AV} (h : evalO fr x = some v) : VA3 P σ ρ S w v (a.eval x) := by
  unfold evalO at h
  split at h
  · obtain ⟨cv, h1, h2⟩ := hf.2 _ _ h
    rw [eval_tmp h1]; exact h2
  all_goals first | cases h | (injection h with h; subst h)
  · exact VE.int _ _
  · exact VE.bool _
  · exact VE.str _ _ rfl
  · rfl
  · exact VE.nili
  · rfl
  · rfl

theorem mapM_some_get {α β : Type} {f : α → Option β} : ∀ {l : List α} {r : List β}, l.mapM f = some r → r.length = l.length ∧ ∀ (i : Nat) (x : α), l[i]? = some x → ∃ y, f x = some y ∧ r[i]? = some y := by
  intro l
  induction l with
  | nil => intro r h; simp at h; subst h; simp
  | cons x l ih =>
    intro r h
    rw [List.mapM_cons] at h
    simp only [Option.bind_eq_bind, Option.bind_eq_some_iff] at h
    obtain ⟨y, hy, ys, hys, h⟩ := h
    injection h with h; subst h
    obtain ⟨h1, h2⟩ := ih hys
    refine ⟨by simp [h1], fun i z hz => ?_⟩
    cases i with
    | zero => simp at hz; subst hz; exact ⟨y, hy, rfl⟩
    | succ i => simpa using h2 i z (by simpa using hz)

theorem mapM_some_back {α β : Type} {f : α → Option β} {l : List α} {r : List β} (h : l.mapM f = some r) (i : Nat) (y : β) (hy : r[i]? = some y) : ∃ x, l[i]? = some x ∧ f x = some y := by
  obtain ⟨h1, h2⟩ := mapM_some_get h
  have hi : i < l.length := by rw [← h1]; exact (List.getElem?_eq_some_iff.1 hy).1
  obtain ⟨z, hz, hz'⟩ := h2 i l[i] (by simp [hi])
  rw [hz'] at hy; injection hy with hy; subst hy
  exact ⟨l[i], by simp [hi], hz⟩

theorem isZero_ok {z : Value} {v : AV} (h : isZero z v = true) (hn : ∀ et, v = .nils et → ∃ fs, flat P depth et = some fs) : VA1 P σ ρ S w v z ∧ v.one = true := by
  unfold isZero at h
  split at h
  · simp only [Bool.and_eq_true, beq_iff_eq] at h
    obtain ⟨rfl, rfl⟩ := h
    exact ⟨VE.int _ _, rfl⟩
  · simp only [beq_iff_eq] at h; subst h; exact ⟨VE.bool _, rfl⟩
  · simp only [beq_iff_eq] at h; exact ⟨VE.str _ _ h, rfl⟩
  · exact ⟨⟨rfl, hn _ rfl⟩, rfl⟩
  · exact ⟨rfl, rfl⟩
  · exact ⟨VE.nili, rfl⟩
  · exact ⟨rfl, rfl⟩
  · cases h

theorem zeroCell_nils {ct : TypeId} {v : AV} (h : zeroCell P ct = some v) : ∀ et, v = .nils et → ∃ fs, flat P depth et = some fs := by
  rintro et rfl
  unfold zeroCell at h
  split at h <;> try (simp at h; done)
  split at h
  · rename_i hs
    injection h with h; injection h with h; subst h
    exact Option.isSome_iff_exists.1 hs
  · cases h

theorem zeroOf_cells {t : TypeId} {cs : List AV} (h : zeroOf P t = some (.agg cs)) : ∃ ft : List TypeId, ft.mapM (zeroCell P) = some cs := by
  unfold zeroOf at h
  split at h
  · rename_i i ft hi hft
    split at h
    · rename_i z cs' hz hcs
      split at h
      · split at h
        · split at h
          · injection h with h; injection h with h; subst h; exact ⟨ft, hcs⟩
          · cases h
        · cases h
      · split at h
        · rename_i c
          split at h
          · injection h with h; subst h
            rename_i hzz
            cases z <;> simp [isZero] at hzz
          · cases h
        · cases h
    · cases h
  · cases h

theorem evalT_ok (hf : FR P σ ρ S w fr a.tmps) {t : TypeId} {x : Operand} {v : AV} (h : evalT P t fr x = some v) : VA3 P σ ρ S w v (a.eval x) := by
  unfold evalT at h
  split at h
  · split at h
    · split at h
      · rename_i hs
        injection h with h; subst h
        exact ⟨rfl, Option.isSome_iff_exists.1 hs⟩
      · cases h
    · cases h
  · split at h
    · rename_i arr _ cs hz
      split at h
      · rename_i hc
        injection h with h; subst h
        obtain ⟨ft, hcs⟩ := zeroOf_cells hz
        refine ⟨arr, rfl, hc.1, fun j u hj => ?_⟩
        have hlt : j < cs.length := (List.getElem?_eq_some_iff.1 hj).1
        have hx : arr.toList[j]? = some (arr.toList[j]'(by omega)) := List.getElem?_eq_getElem _
        have hp : (arr.toList.zip cs)[j]? = some (arr.toList[j]'(by omega), u) := by
          rw [List.getElem?_zip_eq_some]; exact ⟨hx, hj⟩
        obtain ⟨ct, _, hct⟩ := mapM_some_back hcs j u hj
        obtain ⟨h1, h2⟩ := isZero_ok (P := P) (σ := σ) (ρ := ρ) (S := S) (w := w) (List.all_eq_true.1 hc.2 _ (List.mem_of_getElem? hp)) (zeroCell_nils hct)
        exact ⟨h2, _, by rw [← Array.getElem?_toList]; exact hx, h1⟩
      · cases h
    · cases h
  · exact evalO_ok hf h

end

/-- An operation is carried out as the interpreter says. -/
def OpOk (P : Program) (σ : Heap) (ρ : Gr) (S : Cells) (w : World) (a : Act) (o : Oper) (v : AV) (σ' : Heap) : Prop :=
  ∃ n cv w' ρ' S', (execOp a.eval o).run P w = .ok n w' ∧ (n = .value cv ∨ (n = .skip ∧ cv = undef)) ∧ Rel P σ' ρ' S' w' ∧
    Ext σ ρ S w σ' ρ' S' w' ∧ VA3 P σ' ρ' S' w' v cv

section
variable {P : Program} {σ : Heap} {ρ : Gr} {S : Cells} {w : World} {fr : Fr} {a : Act} {o : Oper}

/-- An operation that only computes. -/
theorem OpOk.pure (hr : Rel P σ ρ S w) {v : AV} {cv : Value} (h : (execOp a.eval o).run P w = .ok (.value cv) w) (hv : VA3 P σ ρ S w v cv) : OpOk P σ ρ S w a o v σ :=
  ⟨_, cv, w, ρ, S, h, .inl rfl, hr, Ext.refl _ _ _ _, hv⟩

section
variable {ev : Operand → Value}
theorem run_move (x : Operand) (h : o.op = .move x) : (execOp ev o).run P w = .ok (.value (ev x)) w := by
  simp [execOp, h, go_sem]
theorem run_assign (x : Operand) (h : o.op = .assign x) : (execOp ev o).run P w = .ok (.value (ev x)) w := by
  simp [execOp, h, go_sem]
theorem run_pick {c x y : Operand} {b : Bool} (h : o.op = .pick c x y) (e : ev c = .bool b) : (execOp ev o).run P w = .ok (.value (cond b (ev x) (ev y))) w := by
  cases b <;> simp [execOp, h, go_sem, e, asBool]
theorem run_neg {t : TypeId} {x : Operand} {k : IntKind} {n : Int} (h : o.op = .unOp .neg t x) (e : ev x = .int k n) : (execOp ev o).run P w = .ok (.value (.int k (k.wrap (0 - n)))) w := by
  simp [execOp, h, go_sem, e, Op.unary, Op.intArith]
theorem run_not {t : TypeId} {x : Operand} {b : Bool} (h : o.op = .unOp .not t x) (e : ev x = .bool b) : (execOp ev o).run P w = .ok (.value (.bool (!b))) w := by
  simp [execOp, h, go_sem, e, Op.unary]
end


theorem getElem?_snoc_lt {α : Type} {l : List α} {x : α} {i : Nat} {y : α} (h : l[i]? = some y) : (l ++ [x])[i]? = some y := by
  rw [List.getElem?_append_left (List.getElem?_eq_some_iff.1 h).1]; exact h

theorem getElem?_snoc {α : Type} {l : List α} {x : α} {i : Nat} {y : α} (h : (l ++ [x])[i]? = some y) : l[i]? = some y ∨ (i = l.length ∧ y = x) := by
  rcases Nat.lt_or_ge i l.length with hi | hi
  · rw [List.getElem?_append_left hi] at h; exact .inl h
  · rw [List.getElem?_append_right hi] at h
    have : i - l.length = 0 := by
      rcases Nat.eq_zero_or_pos (i - l.length) with h0 | h0
      · exact h0
      · rw [List.getElem?_eq_none (by simp; omega)] at h; cases h
    rw [this] at h
    simp at h
    exact .inr ⟨by omega, h.symm⟩

theorem set_cases {α : Type} {l : List α} {i j : Nat} {x y : α} (h : (l.set i x)[j]? = some y) : (j = i ∧ y = x ∧ i < l.length) ∨ (j ≠ i ∧ l[j]? = some y) := by
  rw [List.getElem?_set] at h
  split at h
  · rename_i e; subst e
    split at h
    · rename_i hl; injection h with h; exact .inl ⟨rfl, h.symm, hl⟩
    · cases h
  · rename_i e; exact .inr ⟨fun e' => e e'.symm, h⟩

/-- Where a place was kept free, what was said of the objects stays said. -/
theorem Ext.fill {id : Nat} {ob : Ob} (hh : σ[id]? = some .hole) : Ext σ ρ S w (σ.set id ob) ρ S w := by
  have hne : ∀ {i : Nat} {q : Ob}, σ[i]? = some q → q ≠ .hole → (σ.set id ob)[i]? = some q := fun {i q} h hq => by
    rw [List.getElem?_set_ne (by rintro rfl; rw [hh] at h; injection h with h; exact hq h.symm)]; exact h
  exact ⟨fun _ _ h => ⟨h, rfl⟩, fun i cs h => ⟨⟨cs, hne h (by simp)⟩, rfl⟩, fun i t m h => .inl ⟨m, Nat.le_refl _, hne h (by simp), fun _ => rfl⟩,
    fun i r h => .inl ⟨r, rfl, Nat.le_refl _, hne h (by simp), fun _ => rfl⟩, fun i h => hne h (by simp), fun _ _ _ => rfl, fun i _ c h => .inr ⟨i, c, h⟩, fun _ _ h => .inl h, Nat.le_refl _, rfl, rfl, rfl⟩

/-- A growing slice that lies nowhere yet. -/
theorem Rel.fillVec (hr : Rel P σ ρ S w) {id : Nat} (hh : σ[id]? = some .hole) (et : TypeId) (n : Nat) : Rel P (σ.set id (.vec et n)) ρ S w ∧ Ext σ ρ S w (σ.set id (.vec et n)) ρ S w := by
  have he : Ext σ ρ S w (σ.set id (.vec et n)) ρ S w := Ext.fill hh
  refine ⟨⟨by simp [hr.len], ?_, ?_, ?_, ?_, hr.lt, hr.inj, hr.cells, hr.glob.mono he⟩, he⟩
  · intro i cs h
    rcases set_cases h with ⟨_, h, _⟩ | ⟨_, h⟩
    · cases h
    · obtain ⟨b, c, arr, T, h1, h2, h3, h4, h5⟩ := hr.box i cs h
      exact ⟨b, c, arr, T, h1, h2, h3, fun j v hj => let ⟨h6, x, h7, h8⟩ := h4 j v hj; ⟨h6, x, h7, h8.mono he⟩, h5⟩
  · intro i et' n' b c h h'
    rcases set_cases h with ⟨rfl, _, _⟩ | ⟨_, h⟩
    · rw [hr.hole _ hh] at h'; cases h'
    · exact hr.vec i et' n' b c h h'
  · intro i r h
    rcases set_cases h with ⟨_, h, _⟩ | ⟨_, h⟩
    · cases h
    · obtain ⟨b, c, q, h1, h2, h3, h4⟩ := hr.raw i r h
      exact ⟨b, c, q, h1, h2, h3.mono he, h4⟩
  · intro i h
    rcases set_cases h with ⟨_, h, _⟩ | ⟨_, h⟩
    · cases h
    · exact hr.hole i h

theorem fillAt_spec {σ σ' : Heap} {id : Nat} {ob : Ob} (h : fillAt σ id ob = some σ') : σ[id]? = some .hole ∧ σ' = σ.set id ob := by
  unfold fillAt at h
  split at h
  · rename_i hh; injection h with h; exact ⟨hh, h.symm⟩
  · cases h

theorem VE.nilSlice {et : TypeId} {fs : List TypeId} (h : flat P depth et = some fs) (A : Option Addr) (c : Nat) : VE P w S (.sl et []) (.slice A 0 c) :=
  VE.sl et [] A c fs 0 0 (fun _ _ => undef) h (by simp) (by simp) (by simp) (by simp) (by simp)

theorem op_move (hr : Rel P σ ρ S w) (hf : FR P σ ρ S w fr a.tmps) {x : Operand} {v : AV} (h : o.op = .move x) (hx : evalT P o.type fr x = some v) : OpOk P σ ρ S w a o v σ :=
  OpOk.pure hr (run_move x h) (evalT_ok hf hx)

theorem op_assign (hr : Rel P σ ρ S w) (hf : FR P σ ρ S w fr a.tmps) {x : Operand} {v : AV} (h : o.op = .assign x) (hx : evalT P o.type fr x = some v) : OpOk P σ ρ S w a o v σ :=
  OpOk.pure hr (run_assign x h) (evalT_ok hf hx)

theorem VA3_bool {b : Bool} {cv : Value} (h : VA3 P σ ρ S w (.e (.bool b)) cv) : cv = .bool b := by
  have h : VE P w S (.bool b) cv := h
  cases h; rfl
theorem VA3_int {k : IntKind} {n : Int} {cv : Value} (h : VA3 P σ ρ S w (.e (.int k n)) cv) : cv = .int k n := by
  have h : VE P w S (.int k n) cv := h
  cases h; rfl
theorem VA3_str {s : List UInt8} {cv : Value} (h : VA3 P σ ρ S w (.e (.str s)) cv) : ∃ b : ByteArray, cv = .string b ∧ b.data.toList = s := by
  have h : VE P w S (.str s) cv := h
  cases h with | str _ b h' => exact ⟨b, rfl, h'⟩

theorem op_pick (hr : Rel P σ ρ S w) (hf : FR P σ ρ S w fr a.tmps) {c x y : Operand} {b : Bool} {va vb : AV} (h : o.op = .pick c x y)
    (hc : evalO fr c = some (.e (.bool b))) (hx : evalO fr x = some va) (hy : evalO fr y = some vb) : OpOk P σ ρ S w a o (cond b va vb) σ := by
  have e := VA3_bool (evalO_ok hf hc)
  refine OpOk.pure hr (run_pick h e) ?_
  cases b
  · exact evalO_ok hf hy
  · exact evalO_ok hf hx

theorem op_unop (hr : Rel P σ ρ S w) (hf : FR P σ ρ S w fr a.tmps) {op : UnOp} {t : TypeId} {x : Operand} {u : AV} {v : E} (h : o.op = .unOp op t x)
    (hx : evalO fr x = some u) (hu : evalUn op u = some v) : OpOk P σ ρ S w a o (.e v) σ := by
  have hv := evalO_ok hf hx
  unfold evalUn at hu
  split at hu
  · injection hu with hu; subst hu
    exact OpOk.pure hr (run_neg h (VA3_int hv)) (VE.int _ _)
  · injection hu with hu; subst hu
    exact OpOk.pure hr (run_not h (VA3_bool hv)) (VE.bool _)
  · cases hu

/-! ### Binary operations -/
section
variable {ev : Operand → Value} {x y : Operand} {t t' : TypeId}
theorem run_bin {op : BinOp} {vx vy r : Value} (h : o.op = .binOp op t x y t') (e1 : ev x = vx) (e2 : ev y = vy)
    (hg : (eqGuard op t x y vx vy).run P w = .ok () w) (hb : (binOp op t vx vy).run P w = .ok r w) : (execOp ev o).run P w = .ok (.value r) w := by
  subst e1; subst e2
  simp [execOp, h, go_sem, hg, hb]
theorem guard_int {op : BinOp} {k k' : IntKind} {m n : Int} : (eqGuard op t x y (.int k m) (.int k' n)).run P w = .ok () w := by
  unfold eqGuard; split <;> rfl
theorem guard_str {op : BinOp} {m n : ByteArray} : (eqGuard op t x y (.string m) (.string n)).run P w = .ok () w := by
  unfold eqGuard; split <;> rfl
theorem guard_bool {op : BinOp} {m n : Bool} : (eqGuard op t x y (.bool m) (.bool n)).run P w = .ok () w := by
  unfold eqGuard; split <;> rfl
theorem bin_shl {t : TypeId} {k k' : IntKind} {m n : Int} (h : 0 ≤ n) : (binOp .shl t (.int k m) (.int k' n)).run P w = .ok (.int k (k.wrap (m * 2 ^ (min n.toNat k.bits)))) w := by
  simp [binOp, Op.shift, go_sem, Int.not_lt.2 h]
theorem bin_shr {t : TypeId} {k k' : IntKind} {m n : Int} (h : 0 ≤ n) : (binOp .shr t (.int k m) (.int k' n)).run P w = .ok (.int k (m.fdiv (2 ^ (min n.toNat k.bits)))) w := by
  simp [binOp, Op.shift, go_sem, Int.not_lt.2 h]
theorem bin_quo {t : TypeId} {k : IntKind} {m n : Int} (h : n ≠ 0) : (binOp .quo t (.int k m) (.int k n)).run P w = .ok (.int k (k.wrap (m.tdiv n))) w := by
  simp [binOp, Op.intDiv, go_sem, h]
theorem bin_rem {t : TypeId} {k : IntKind} {m n : Int} (h : n ≠ 0) : (binOp .rem t (.int k m) (.int k n)).run P w = .ok (.int k (m.tmod n)) w := by
  simp [binOp, Op.intDiv, go_sem, h]
theorem bin_bits {op : BinOp} {t : TypeId} {k : IntKind} {m n r : Int} (h : bitsOp op k m n = some r) : (binOp op t (.int k m) (.int k n)).run P w = .ok (.int k r) w := by
  unfold bitsOp at h
  cases op
  all_goals first
    | (cases h; done)
    | (injection h with h
       subst h
       simp only [binOp]
       rw [if_neg (not_not_intro rfl)]
       rfl)
theorem strEq_eq (m n : ByteArray) : (m.toList == n.toList) = strEq m.data.toList n.data.toList := by
  rw [ByteArray.toList_eq, ByteArray.toList_eq]; rfl

theorem bin_cat {t : TypeId} {m n : ByteArray} (h : m.data.toList.length + n.data.toList.length ≤ 9223372036854775807) : (binOp .add t (.string m) (.string n)).run P w = .ok (.string (m ++ n)) w := by
  have h' : m.size + n.size ≤ 9223372036854775807 := h
  have : ¬ (((m.size + n.size : Nat) : Int) > IntKind.i64.max) := by
    have e : IntKind.i64.max = 9223372036854775807 := by decide
    rw [e]; omega
  simp only [binOp, Op.stringOp, if_neg this]
  rfl
theorem VA3_nili {cv : Value} (h : VA3 P σ ρ S w (.e .nili) cv) : cv = .nilIface := by
  have h : VE P w S .nili cv := h
  cases h; rfl
theorem VA3_ifc {t : TypeId} {x : E} {cv : Value} (h : VA3 P σ ρ S w (.e (.ifc t x)) cv) : ∃ t v, cv = .iface t v := by
  have h : VE P w S (.ifc t x) cv := h
  cases h; exact ⟨_, _, rfl⟩
section
variable {t : TypeId}
theorem eq_bool (ht : P.underlying t = some .bool) (d : Nat) (m n : Bool) : (Op.equalIn (d + 1) t (.bool m) (.bool n)).run P w = .ok (m == n) w := by
  simp [Op.equalIn, run_underlying ht]
theorem eq_nil_nil {ms} (ht : P.underlying t = some (.interface ms)) (d : Nat) : (Op.equalIn (d + 1) t .nilIface .nilIface).run P w = .ok true w := by
  simp [Op.equalIn, run_underlying ht]
theorem guard_nil {ms} {op : BinOp} {x y : Operand} (ht : P.underlying t = some (.interface ms)) (he : ms.isEmpty = true) : (eqGuard op t x y .nilIface .nilIface).run P w = .ok () w := by
  have hq : (Op.eqGuardIn Op.maxDepth t .nilIface .nilIface).run P w = .ok false w := by
    rw [show Op.maxDepth = 9999 + 1 from rfl]
    unfold Op.eqGuardIn
    rw [Sem.run_bind, run_underlying ht]
    simp [he]
  unfold eqGuard
  cases op <;> first
    | rfl
    | (simp only [Bool.not_true, Bool.false_eq_true, if_false]
       cases x <;> cases y <;> first | rfl | (simp only [Bool.or_self, Bool.false_eq_true, if_false]; rw [Sem.run_bind, hq]; rfl))
theorem eq_nil_ifc {ms} (ht : P.underlying t = some (.interface ms)) (d : Nat) (u : TypeId) (v : Value) : (Op.equalIn (d + 1) t .nilIface (.iface u v)).run P w = .ok false w := by
  simp [Op.equalIn, run_underlying ht]
theorem eq_ifc_nil {ms} (ht : P.underlying t = some (.interface ms)) (d : Nat) (u : TypeId) (v : Value) : (Op.equalIn (d + 1) t (.iface u v) .nilIface).run P w = .ok false w := by
  simp [Op.equalIn, run_underlying ht]
theorem bin_eql {x y : Value} {r : Bool} (hb : binOp .eql t x y = (do Pure.pure (.bool (← Op.equal t x y)))) (h : (Op.equalIn 10000 t x y).run P w = .ok r w) : (binOp .eql t x y).run P w = .ok (.bool r) w := by
  rw [hb]; simp [Op.equal, Op.maxDepth, h]
theorem bin_neq {x y : Value} {r : Bool} (hb : binOp .neq t x y = (do Pure.pure (.bool (!(← Op.equal t x y))))) (h : (Op.equalIn 10000 t x y).run P w = .ok r w) : (binOp .neq t x y).run P w = .ok (.bool (!r)) w := by
  rw [hb]; simp [Op.equal, Op.maxDepth, h]
end
theorem sizeB_some {t : TypeId} {n : Nat} (h : sizeB P t = some n) : ∃ d i, P.underlying t = some d ∧ P.info? t = some i ∧ i.size = n := by
  unfold sizeB at h
  split at h
  · rename_i d i hd hi
    injection h with h
    exact ⟨d, i, hd, hi, h⟩
  · cases h
theorem run_sizeOf {t : TypeId} {n : Nat} (h : sizeB P t = some n) : (sizeOf t).run P w = .ok n w := by
  obtain ⟨d, i, hd, hi, h⟩ := sizeB_some h
  simp [sizeOf, typeInfo, go_sem, hi, h]

theorem run_isAgg {t : TypeId} {n : Nat} (hs : sizeB P t = some n) : (isAgg t).run P w = .ok (isAggB P t) w := by
  obtain ⟨d, i, hd, _⟩ := sizeB_some hs
  unfold isAgg isAggB
  rw [Sem.run_bind, run_underlying hd w, hd]
  cases d <;> rfl

theorem guard_agg {op : BinOp} {x y : Operand} {a b : Array Value} (h : P.eqGuardType P.depth t = false) : (eqGuard op t x y (.agg a) (.agg b)).run P w = .ok () w := by
  unfold eqGuard
  cases op <;> first
    | rfl
    | simp [go_sem, h]

theorem eqBy_ok : ∀ (d : Nat) (t : TypeId) (x y : AV) (r : Bool), eqBy P d t x y = some r → ∀ (vx vy : Value), VA2 P σ ρ S w x vx → VA2 P σ ρ S w y vy → ∀ D, d ≤ D → (Op.equalIn D t vx vy).run P w = .ok r w
  | 0, _, _, _, _, h => by cases h
  | d + 1, t, x, y, r, h => by
    intro vx vy hx hy D hD
    obtain ⟨D, rfl⟩ : ∃ k, D = k + 1 := ⟨D - 1, by omega⟩
    unfold eqBy at h
    split at h
    · rename_i fs as bs ht
      split at h
      · cases h
      rename_i hst
      obtain ⟨ax, rfl, ax1, ax2⟩ : ∃ arr : Array Value, vx = .agg arr ∧ arr.size = as.length ∧ ∀ (j : Nat) (v : AV), as[j]? = some v → v.one = true ∧ ∃ x, arr[j]? = some x ∧ VA1 P σ ρ S w v x := hx
      obtain ⟨ay, rfl, ay1, ay2⟩ : ∃ arr : Array Value, vy = .agg arr ∧ arr.size = bs.length ∧ ∀ (j : Nat) (v : AV), bs[j]? = some v → v.one = true ∧ ∃ x, arr[j]? = some x ∧ VA1 P σ ρ S w v x := hy
      have part_ok : ∀ (cs : List AV) (arr : Array Value), arr.size = cs.length → (∀ (j : Nat) (v : AV), cs[j]? = some v → v.one = true ∧ ∃ x, arr[j]? = some x ∧ VA1 P σ ρ S w v x) → ∀ (u : TypeId) (off n : Nat), sizeB P u = some n →
          partA (isAggB P u) cs off n ≠ .undef → ∃ v, (part u arr off).run P w = .ok v w ∧ VA2 P σ ρ S w (partA (isAggB P u) cs off n) v := by
        intro cs arr h1 h2 u off n hn hne
        have e1 := run_isAgg (w := w) hn
        have e2 := run_sizeOf (w := w) hn
        cases ha : isAggB P u with
        | true =>
          refine ⟨.agg (arr.extract off (off + n)), ?_, ?_⟩
          · simp [part, e1, ha, e2]
          · refine ⟨_, rfl, by simp; omega, fun j v hj => ?_⟩
            rw [List.getElem?_take] at hj
            split at hj
            · rename_i hjn
              rw [List.getElem?_drop] at hj
              obtain ⟨h4, y, h5, h6⟩ := h2 _ v hj
              refine ⟨h4, y, ?_, h6⟩
              rw [Array.getElem?_extract, if_pos (by have := (Array.getElem?_eq_some_iff.1 h5).1; omega)]
              exact h5
            · cases hj
        | false =>
          rw [ha] at hne
          change cs.getD off .undef ≠ .undef at hne
          show ∃ v, _ ∧ VA2 P σ ρ S w (cs.getD off .undef) v
          cases hc : cs[off]? with
          | none => rw [List.getD_eq_getElem?_getD, hc] at hne; exact absurd rfl hne
          | some v =>
            obtain ⟨_, y, h5, h6⟩ := h2 _ v hc
            rw [List.getD_eq_getElem?_getD, hc]
            exact ⟨y, by simp [part, e1, ha, h5], h6.to2⟩
      rw [Bool.not_eq_true] at hst
      have key : ∀ (l : List Field) (r : Bool), l.foldr (fun f r =>
          if f.name = "_" then none else
          match sizeB P f.type with
          | some n =>
            match eqBy P d f.type (partA (isAggB P f.type) as f.offset n) (partA (isAggB P f.type) bs f.offset n), r with
            | some b, some c => some (b && c)
            | _, _ => none
          | none => none) (some true) = some r → (forIn l ((none, ()) : Option Bool × Unit) fun f __s =>
            if f.name = "_" then (pure (ForInStep.yield (none, ())) : Sem _)
            else do
              let a ← part f.type ax f.offset
              let b ← part f.type ay f.offset
              let c ← Op.equalIn D f.type a b
              if c = false then pure (ForInStep.done (some false, ())) else pure (ForInStep.yield (none, ()))).run P w = .ok (cond r (none, ()) (some false, ())) w := by
        intro l
        induction l with
        | nil => intro r h; injection h with h; subst h; rfl
        | cons f l ih =>
          intro r h
          rw [List.foldr_cons] at h
          split at h
          · cases h
          rename_i hnm
          split at h
          case h_2 => cases h
          rename_i n hn
          split at h
          case h_2 => cases h
          rename_i b c hb hc
          injection h with h; subst h
          have ne : ∀ {x y : AV} {b : Bool}, eqBy P d f.type x y = some b → x ≠ .undef ∧ y ≠ .undef := by
            intro x y b h
            cases d with
            | zero => cases h
            | succ d =>
              unfold eqBy at h
              split at h
              all_goals first | (cases h; done) | exact ⟨by simp, by simp⟩
          obtain ⟨n1, n2⟩ := ne hb
          obtain ⟨v1, p1, q1⟩ := part_ok as ax ax1 ax2 f.type f.offset n hn n1
          obtain ⟨v2, p2, q2⟩ := part_ok bs ay ay1 ay2 f.type f.offset n hn n2
          have e := eqBy_ok d f.type _ _ b hb v1 v2 q1 q2 D (by omega)
          rw [List.forIn_cons, Sem.run_bind, if_neg hnm, Sem.run_bind, p1, Result.andThen_ok, Sem.run_bind, p2, Result.andThen_ok, Sem.run_bind, e, Result.andThen_ok]
          cases b with
          | false => rfl
          | true => exact ih c hc
      unfold Op.equalIn
      simp only [Sem.run_bind, run_underlying ht, Result.andThen_ok]
      simp [hst]
      have k := key fs.toList r h
      rw [Array.forIn_toList] at k
      rw [k]
      cases r <;> rfl
    · rename_i k k' a b ht
      split at h
      · rename_i hk
        injection h with h; subst h; subst hk
        obtain rfl : vx = .int _ _ := VA3_int hx.to3
        obtain rfl : vy = .int _ _ := VA3_int hy.to3
        simp [Op.equalIn, run_underlying ht]
      · cases h
    · rename_i a b ht
      injection h with h; subst h
      obtain rfl : vx = .bool a := VA3_bool hx.to3
      obtain rfl : vy = .bool b := VA3_bool hy.to3
      exact eq_bool ht D _ _
    · rename_i a b ht
      injection h with h; subst h
      obtain ⟨sx, rfl, d1⟩ := VA3_str (hx.to3)
      obtain ⟨sy, rfl, d2⟩ := VA3_str (hy.to3)
      simp [Op.equalIn, run_underlying ht]
      rw [← d1, ← d2, ← strEq_eq, ByteArray.toList_eq, ByteArray.toList_eq]
      have : ∀ p q : ByteArray, (p == q) = (p.data.toList == q.data.toList) := fun p q => by
        cases p with
        | mk p =>
        cases q with
        | mk q =>
        show (p == q) = (p.toList == q.toList)
        simp
      exact this sx sy
    · cases h

theorem op_bin (hr : Rel P σ ρ S w) (hf : FR P σ ρ S w fr a.tmps) {op : BinOp} {t t' : TypeId} {x y : Operand} {u v : AV} {r : E} (h : o.op = .binOp op t x y t')
    (hx : evalT P t fr x = some u) (hy : evalT P t fr y = some v) (hb : evalBin P t op u v = some (true, r)) : OpOk P σ ρ S w a o (.e r) σ := by
  have h1 := evalT_ok hf hx
  have h2 := evalT_ok hf hy
  generalize hcx : a.eval x = cx at h1
  generalize hcy : a.eval y = cy at h2
  unfold evalBin at hb
  split at hb
  · -- shl
    injection hb with hb; injection hb with hb1 hb2; subst hb2
    have e1 := VA3_int h1; have e2 := VA3_int h2; subst e1; subst e2
    exact OpOk.pure hr (run_bin h hcx hcy guard_int (bin_shl (of_decide_eq_true hb1))) (VE.int _ _)
  · injection hb with hb; injection hb with hb1 hb2; subst hb2
    have e1 := VA3_int h1; have e2 := VA3_int h2; subst e1; subst e2
    exact OpOk.pure hr (run_bin h hcx hcy guard_int (bin_shr (of_decide_eq_true hb1))) (VE.int _ _)
  · -- two integers
    have e1 := VA3_int h1; have e2 := VA3_int h2; subst e1; subst e2
    split at hb
    · rename_i hk
      subst hk
      split at hb
      all_goals first
        | (cases hb; done)
        | (injection hb with hb; injection hb with hb1 hb2; subst hb2
           refine OpOk.pure hr (cv := .int _ _) (run_bin h hcx hcy guard_int ?_) (VE.int _ _)
           first
           | (simp [binOp, Op.intArith, go_sem]; done)
           | exact bin_quo (by simpa using hb1)
           | exact bin_rem (by simpa using hb1))
        | (injection hb with hb; injection hb with hb1 hb2; subst hb2
           refine OpOk.pure hr (cv := .bool _) (run_bin h hcx hcy guard_int ?_) (VE.bool _)
           simp [binOp, Op.intCmp, go_sem, bne]; done)
        | (obtain ⟨n, hn, hb⟩ := Option.map_eq_some_iff.1 hb
           injection hb with hb1 hb2; subst hb2
           exact OpOk.pure hr (run_bin h hcx hcy guard_int (bin_bits hn)) (VE.int _ _))
    · cases hb
  · -- two strings
    obtain ⟨sx, e1, d1⟩ := VA3_str h1
    obtain ⟨sy, e2, d2⟩ := VA3_str h2
    subst e1; subst e2
    split at hb
    all_goals first
      | (cases hb; done)
      | (injection hb with hb; injection hb with hb1 hb2; subst hb2
         refine OpOk.pure hr (cv := .bool _) (run_bin h hcx hcy guard_str ?_) (VE.bool _)
         rw [← d1, ← d2]
         simp [binOp, Op.stringOp, go_sem, strEq, ByteArray.toList_eq]; done)
      | (injection hb with hb; injection hb with hb1 hb2; subst hb2
         refine OpOk.pure hr (cv := .string (sx ++ sy)) (run_bin h hcx hcy guard_str ?_) (VE.str _ _ (by simp [d1, d2]))
         rw [← d1, ← d2] at hb1
         exact bin_cat (of_decide_eq_true hb1))
  · -- two bools
    have e1 := VA3_bool h1; have e2 := VA3_bool h2; subst e1; subst e2
    split at hb
    · rename_i ht
      injection hb with hb; injection hb with hb1 hb2; subst hb2
      exact OpOk.pure hr (run_bin h hcx hcy guard_bool (bin_eql rfl (eq_bool ht 9999 _ _))) (VE.bool _)
    · rename_i ht
      injection hb with hb; injection hb with hb1 hb2; subst hb2
      exact OpOk.pure hr (run_bin h hcx hcy guard_bool (bin_neq rfl (eq_bool ht 9999 _ _))) (VE.bool _)
    · cases hb
  · -- nil and nil
    obtain rfl := VA3_nili h1
    obtain rfl := VA3_nili h2
    split at hb
    · rename_i ht
      split at hb
      · rename_i he
        injection hb with hb; injection hb with hb1 hb2; subst hb2
        exact OpOk.pure hr (run_bin h hcx hcy (guard_nil ht he) (bin_eql rfl (eq_nil_nil ht 9999))) (VE.bool _)
      · cases hb
    · rename_i ht
      split at hb
      · rename_i he
        injection hb with hb; injection hb with hb1 hb2; subst hb2
        exact OpOk.pure hr (run_bin h hcx hcy (guard_nil ht he) (bin_neq rfl (eq_nil_nil ht 9999))) (VE.bool _)
      · cases hb
    · cases hb
  · -- nil and an interface value
    obtain rfl := VA3_nili h1
    obtain ⟨tu, vu, rfl⟩ := VA3_ifc h2
    split at hb
    · rename_i ht
      injection hb with hb; injection hb with hb1 hb2; subst hb2
      exact OpOk.pure hr (run_bin h hcx hcy rfl (bin_eql rfl (eq_nil_ifc ht 9999 _ _))) (VE.bool _)
    · rename_i ht
      injection hb with hb; injection hb with hb1 hb2; subst hb2
      exact OpOk.pure hr (run_bin h hcx hcy rfl (bin_neq rfl (eq_nil_ifc ht 9999 _ _))) (VE.bool _)
    · cases hb
  · obtain rfl := VA3_nili h2
    obtain ⟨tu, vu, rfl⟩ := VA3_ifc h1
    split at hb
    · rename_i ht
      injection hb with hb; injection hb with hb1 hb2; subst hb2
      exact OpOk.pure hr (run_bin h hcx hcy rfl (bin_eql rfl (eq_ifc_nil ht 9999 _ _))) (VE.bool _)
    · rename_i ht
      injection hb with hb; injection hb with hb1 hb2; subst hb2
      exact OpOk.pure hr (run_bin h hcx hcy rfl (bin_neq rfl (eq_ifc_nil ht 9999 _ _))) (VE.bool _)
    · cases hb
  · -- two structs
    split at hb
    · cases hb
    rename_i hg
    obtain ⟨b, hb1, hb2⟩ := Option.map_eq_some_iff.1 hb
    injection hb2 with _ hb2; subst hb2
    have k1 : VA2 P σ ρ S w (.agg _) cx := h1
    have k2 : VA2 P σ ρ S w (.agg _) cy := h2
    have := eqBy_ok depth t _ _ b hb1 cx cy k1 k2 10000 (by decide)
    obtain ⟨ax, rfl, _⟩ := k1
    obtain ⟨ay, rfl, _⟩ := k2
    exact OpOk.pure hr (run_bin h hcx hcy (guard_agg (by simpa using hg)) (bin_eql rfl this)) (VE.bool _)
  · split at hb
    · cases hb
    rename_i hg
    obtain ⟨b, hb1, hb2⟩ := Option.map_eq_some_iff.1 hb
    injection hb2 with _ hb2; subst hb2
    have k1 : VA2 P σ ρ S w (.agg _) cx := h1
    have k2 : VA2 P σ ρ S w (.agg _) cy := h2
    have := eqBy_ok depth t _ _ b hb1 cx cy k1 k2 10000 (by decide)
    obtain ⟨ax, rfl, _⟩ := k1
    obtain ⟨ay, rfl, _⟩ := k2
    exact OpOk.pure hr (run_bin h hcx hcy (guard_agg (by simpa using hg)) (bin_neq rfl this)) (VE.bool _)
  · cases hb
end
theorem guard_lit {t : TypeId} {op : BinOp} {x : Operand} {c : Value} : (eqGuard op t x (.const .nilIface) c .nilIface).run P w = .ok () w := by
  unfold eqGuard
  cases op <;> first
    | rfl
    | (simp only [Bool.not_true, Bool.false_eq_true, if_false]
       cases c <;> first | rfl | (cases x <;> rfl))
theorem guard_slice {t : TypeId} {op : BinOp} {x y : Operand} {a b : Option Addr} {n c n' c' : Nat} : (eqGuard op t x y (.slice a n c) (.slice b n' c')).run P w = .ok () w := by
  unfold eqGuard; split <;> rfl
theorem eq_slice_nil (d : Nat) {t e : TypeId} (a : Option Addr) (n c n' c' : Nat) (h : P.underlying t = some (.slice e)) :
    (Op.equalIn (d + 1) t (.slice a n c) (.slice none n' c')).run P w = .ok a.isNone w := by
  cases a <;> simp [Op.equalIn, run_underlying h]
theorem nilS_ok {t : TypeId} {op : BinOp} {v : AV} {r : E} (h : evalNilS P t op v = some r) {cv : Value} (hv : VA3 P σ ρ S w v cv) : ∃ e A n c b, P.underlying t = some (.slice e) ∧ cv = .slice A n c ∧ ((op = .eql ∧ r = .bool A.isNone) ∨ (op = .neq ∧ r = .bool (!A.isNone))) ∧ b = A.isNone := by
  unfold evalNilS at h
  split at h <;> first | (cases h; done) | (injection h with h; subst h)
  · rename_i ht; obtain ⟨rfl, _⟩ : cv = .slice none 0 0 ∧ _ := hv; exact ⟨_, _, _, _, _, ht, rfl, .inl ⟨rfl, rfl⟩, rfl⟩
  · rename_i ht; obtain ⟨rfl, _⟩ : cv = .slice none 0 0 ∧ _ := hv; exact ⟨_, _, _, _, _, ht, rfl, .inr ⟨rfl, rfl⟩, rfl⟩
  · rename_i ht; obtain ⟨⟨c, rfl⟩, _⟩ : (∃ c, cv = .slice none 0 c) ∧ _ := hv; exact ⟨_, _, _, _, _, ht, rfl, .inl ⟨rfl, rfl⟩, rfl⟩
  · rename_i ht; obtain ⟨⟨c, rfl⟩, _⟩ : (∃ c, cv = .slice none 0 c) ∧ _ := hv; exact ⟨_, _, _, _, _, ht, rfl, .inr ⟨rfl, rfl⟩, rfl⟩
  · rename_i ht; obtain ⟨_, A, n, c, rfl⟩ : _ ∧ ∃ A n c, cv = .slice (some A) n c := hv; exact ⟨_, _, _, _, _, ht, rfl, .inl ⟨rfl, rfl⟩, rfl⟩
  · rename_i ht; obtain ⟨_, A, n, c, rfl⟩ : _ ∧ ∃ A n c, cv = .slice (some A) n c := hv; exact ⟨_, _, _, _, _, ht, rfl, .inr ⟨rfl, rfl⟩, rfl⟩
  · rename_i id et n off len ht
    have hv : VA1 P σ ρ S w (.mv id et n off len) cv := hv
    obtain ⟨b, o, c, fs, rfl, _⟩ := hv; exact ⟨_, _, _, _, _, ht, rfl, .inl ⟨rfl, rfl⟩, rfl⟩
  · rename_i id et n off len ht
    have hv : VA1 P σ ρ S w (.mv id et n off len) cv := hv
    obtain ⟨b, o, c, fs, rfl, _⟩ := hv; exact ⟨_, _, _, _, _, ht, rfl, .inr ⟨rfl, rfl⟩, rfl⟩
theorem op_nilS (hr : Rel P σ ρ S w) (hf : FR P σ ρ S w fr a.tmps) {op : BinOp} {t t' : TypeId} {x y : Operand} {u : AV} {r : E} (h : o.op = .binOp op t x y t')
    (hx : evalT P t fr x = some u) (hy : isNilS y = true) (hb : evalNilS P t op u = some r) : OpOk P σ ρ S w a o (.e r) σ := by
  obtain ⟨n', c', rfl⟩ : ∃ n' c', y = .const (.slice none n' c') := by
    unfold isNilS at hy
    split at hy
    · exact ⟨_, _, rfl⟩
    · cases hy
  obtain ⟨e, A, n, c, b, ht, hcx, hop, _⟩ := nilS_ok hb (evalT_ok hf hx)
  have hcy : a.eval (.const (.slice none n' c')) = .slice none n' c' := rfl
  rcases hop with ⟨rfl, rfl⟩ | ⟨rfl, rfl⟩
  · exact OpOk.pure hr (run_bin h hcx hcy guard_slice (bin_eql rfl (eq_slice_nil 9999 A n c n' c' ht))) (VE.bool _)
  · exact OpOk.pure hr (run_bin h hcx hcy guard_slice (bin_neq rfl (eq_slice_nil 9999 A n c n' c' ht))) (VE.bool _)
theorem op_cmp (hr : Rel P σ ρ S w) (hf : FR P σ ρ S w fr a.tmps) {op : BinOp} {t t' : TypeId} {x y : Operand} {u v : AV} {r : E} (h : o.op = .binOp op t x y t')
    (hx : evalT P t fr x = some u) (hy : evalT P t fr y = some v) (hb : evalCmp P t op (isNilO y) u v = some (true, r)) : OpOk P σ ρ S w a o (.e r) σ := by
  unfold evalCmp at hb
  split at hb
  · rename_i hn
    have hyc : y = .const .nilIface := by
      unfold isNilO at hn
      split at hn
      · rfl
      · cases hn
    subst hyc
    obtain ⟨e, he, hb⟩ := Option.map_eq_some_iff.1 hb
    injection hb with _ hb; subst hb
    have h1 := evalT_ok hf hx
    generalize hcx : a.eval x = cx at h1
    have hcy : a.eval (.const .nilIface) = .nilIface := rfl
    unfold evalNil at he
    split at he
    · rename_i ht
      injection he with he; subst he
      obtain rfl := VA3_nili h1
      exact OpOk.pure hr (run_bin h hcx hcy guard_lit (bin_eql rfl (eq_nil_nil ht 9999))) (VE.bool _)
    · rename_i ht
      injection he with he; subst he
      obtain rfl := VA3_nili h1
      exact OpOk.pure hr (run_bin h hcx hcy guard_lit (bin_neq rfl (eq_nil_nil ht 9999))) (VE.bool _)
    · rename_i ht
      injection he with he; subst he
      obtain ⟨tu, vu, rfl⟩ := VA3_ifc h1
      exact OpOk.pure hr (run_bin h hcx hcy guard_lit (bin_eql rfl (eq_ifc_nil ht 9999 _ _))) (VE.bool _)
    · rename_i ht
      injection he with he; subst he
      obtain ⟨tu, vu, rfl⟩ := VA3_ifc h1
      exact OpOk.pure hr (run_bin h hcx hcy guard_lit (bin_neq rfl (eq_ifc_nil ht 9999 _ _))) (VE.bool _)
    · rename_i ht
      injection he with he; subst he
      have h1 : ∃ t v, cx = .iface t v := h1
      obtain ⟨tu, vu, rfl⟩ := h1
      exact OpOk.pure hr (run_bin h hcx hcy guard_lit (bin_eql rfl (eq_ifc_nil ht 9999 _ _))) (VE.bool _)
    · rename_i ht
      injection he with he; subst he
      have h1 : ∃ t v, cx = .iface t v := h1
      obtain ⟨tu, vu, rfl⟩ := h1
      exact OpOk.pure hr (run_bin h hcx hcy guard_lit (bin_neq rfl (eq_ifc_nil ht 9999 _ _))) (VE.bool _)
    · cases he
  · exact op_bin hr hf h hx hy hb
end
end Go.Den

/- Each operation that the interpreter carries out is carried out so by the model: conversions, strings, parts of values. -/
namespace Go.Den
open Go

section
variable {P : Program} {σ : Heap} {ρ : Gr} {S : Cells} {w : World} {fr : Fr} {a : Act} {o : Oper}

section
variable {ev : Operand → Value} {x y : Operand}
theorem run_convert {src dst : TypeId} {v r : Value} (h : o.op = .convert src dst x) (e : ev x = v) (hc : (convert src dst v).run P w = .ok r w) :
    (execOp ev o).run P w = .ok (.value r) w := by
  subst e; simp [execOp, h, go_sem, hc]
theorem conv_int {src dst : TypeId} {k0 k k' : IntKind} {n : Int} (hs : P.underlying src = some (.int k0)) (hd : P.underlying dst = some (.int k)) :
    (convert src dst (.int k' n)).run P w = .ok (.int k (k.wrap n)) w := by
  simp [convert, run_underlying hs, run_underlying hd, Conv.intToInt, go_sem]
theorem conv_str {src dst : TypeId} {s : ByteArray} (hs : P.underlying src = some .string) (hd : P.underlying dst = some .string) :
    (convert src dst (.string s)).run P w = .ok (.string s) w := by
  simp [convert, run_underlying hs, run_underlying hd, go_sem]
theorem run_makeIface {t : TypeId} {d : TypeDesc} (h : o.op = .makeInterface t x) (ht : P.underlying t = some d) (hd : ∀ ms, d ≠ .interface ms) :
    (execOp ev o).run P w = .ok (.value (.iface t (ev x))) w := by
  simp only [execOp, h, Instr.makeInterface]
  cases d <;> first | exact absurd rfl (hd _) | simp [go_sem, run_underlying ht]
theorem run_extract {i : Nat} {vs : Array Value} {v : Value} (h : o.op = .extract x i) (e : ev x = .tuple vs) (hv : vs[i]? = some v) :
    (execOp ev o).run P w = .ok (.value v) w := by
  simp [execOp, h, go_sem, e, Instr.extract, hv]
theorem run_index_str {t : TypeId} {i : Operand} {k : IntKind} {n : Int} {s : ByteArray} {b : UInt8} (h : o.op = .index t x i) (ht : P.underlying t = some .string) (e1 : ev x = .string s) (e2 : ev i = .int k n)
    (h0 : 0 ≤ n) (hb : s[n.toNat]? = some b) : (execOp ev o).run P w = .ok (.value (.int .u8 b.toNat)) w := by
  simp [execOp, h, go_sem, e1, e2, Instr.index, run_underlying ht, asIntOf, h0, hb]
end

theorem op_convert (hr : Rel P σ ρ S w) (hf : FR P σ ρ S w fr a.tmps) {src dst : TypeId} {x : Operand} {k0 k k' : IntKind} {n : Int} (h : o.op = .convert src dst x)
    (hs : P.underlying src = some (.int k0)) (hd : P.underlying dst = some (.int k)) (hx : evalO fr x = some (.e (.int k' n))) : OpOk P σ ρ S w a o (.e (.int k (k.wrap n))) σ :=
  OpOk.pure hr (run_convert h (VA3_int (evalO_ok hf hx)) (conv_int hs hd)) (VE.int _ _)
theorem op_convert_str (hr : Rel P σ ρ S w) (hf : FR P σ ρ S w fr a.tmps) {src dst : TypeId} {x : Operand} {s : List UInt8} (h : o.op = .convert src dst x)
    (hs : P.underlying src = some .string) (hd : P.underlying dst = some .string) (hx : evalO fr x = some (.e (.str s))) : OpOk P σ ρ S w a o (.e (.str s)) σ := by
  obtain ⟨b, e, hb⟩ := VA3_str (evalO_ok hf hx)
  exact OpOk.pure hr (run_convert h e (conv_str hs hd)) (VE.str _ _ hb)

/-- A cell's data. -/
theorem seal1_ok {v : AV} {cv : Value} {x : E} (h : v.seal1 = some x) (hv : VA1 P σ ρ S w v cv) : VE P w S x cv := by
  unfold AV.seal1 at h
  split at h
  · injection h with h; subst h; exact hv
  · injection h with h; subst h
    obtain ⟨h1, fs, h2⟩ := hv
    subst h1
    exact VE.nilSlice h2 _ _
  · injection h with h; subst h
    obtain ⟨⟨A, h1⟩, fs, h2⟩ := hv
    subst h1
    exact VE.nilSlice h2 _ _
  · injection h with h; subst h
    obtain ⟨⟨A, h1⟩, fs, h2⟩ := hv
    subst h1
    exact VE.nilSlice h2 _ _
  · injection h with h; subst h; exact hv.1
  · injection h with h; subst h; exact hv.1
  · cases h

theorem seal1_3 {v : AV} {cv : Value} {x : E} (h : v.seal1 = some x) (hv : VA3 P σ ρ S w v cv) : VE P w S x cv := by
  unfold AV.seal1 at h
  split at h
  · injection h with h; subst h; exact hv
  · injection h with h; subst h
    obtain ⟨h1, fs, h2⟩ := hv
    subst h1
    exact VE.nilSlice h2 _ _
  · injection h with h; subst h
    obtain ⟨⟨A, h1⟩, fs, h2⟩ := hv
    subst h1
    exact VE.nilSlice h2 _ _
  · injection h with h; subst h
    obtain ⟨⟨A, h1⟩, fs, h2⟩ := hv
    subst h1
    exact VE.nilSlice h2 _ _
  · injection h with h; subst h; exact hv.1
  · injection h with h; subst h; exact hv.1
  · cases h

theorem seal_ok {v : AV} {cv : Value} {x : E} (h : v.dat = some x) (hv : VA3 P σ ρ S w v cv) : VE P w S x cv := by
  unfold AV.dat at h
  split at h
  · rename_i cs
    obtain ⟨es, he, h⟩ := Option.map_eq_some_iff.1 h
    subst h
    obtain ⟨arr, h1, h2, h3⟩ : ∃ arr : Array Value, cv = .agg arr ∧ arr.size = cs.length ∧ ∀ (j : Nat) (v : AV), cs[j]? = some v → v.one = true ∧ ∃ x, arr[j]? = some x ∧ VA1 P σ ρ S w v x := hv
    subst h1
    obtain ⟨l1, l2⟩ := mapM_some_get he
    refine VE.agg es arr (fun j => arr.getD j undef) (by rw [h2, l1]) ?_ ?_
    · intro j x hj
      obtain ⟨v, hv, hs⟩ := mapM_some_back he j x hj
      obtain ⟨_, y, hy, _⟩ := h3 j v hv
      rw [hy]; simp [hy]
    · intro j x hj
      obtain ⟨v, hv, hs⟩ := mapM_some_back he j x hj
      obtain ⟨_, y, hy, hva⟩ := h3 j v hv
      simp only [Array.getD_eq_getD_getElem?, hy, Option.getD_some]
      exact seal1_ok hs hva
  · exact seal1_3 h hv

theorem op_makeIface (hr : Rel P σ ρ S w) (hf : FR P σ ρ S w fr a.tmps) {t : TypeId} {x : Operand} {d : TypeDesc} {u : E} (h : o.op = .makeInterface t x) (ht : P.underlying t = some d) (hd : ∀ ms, d ≠ .interface ms)
    (hx : (evalO fr x).bind AV.dat = some u) : OpOk P σ ρ S w a o (.e (.ifc t u)) σ := by
  obtain ⟨v, hv, hs⟩ := Option.bind_eq_some_iff.1 hx
  exact OpOk.pure hr (run_makeIface h ht hd) (VE.ifc _ _ _ (seal_ok hs (evalO_ok hf hv)))

theorem op_extract (hr : Rel P σ ρ S w) (hf : FR P σ ρ S w fr a.tmps) {x : Operand} {i : Nat} {vs : List AV} {v : AV} (h : o.op = .extract x i)
    (hx : evalO fr x = some (.tup vs)) (hv : vs[i]? = some v) : OpOk P σ ρ S w a o v σ := by
  obtain ⟨arr, h1, h2, h3⟩ : ∃ arr : Array Value, a.eval x = .tuple arr ∧ arr.size = vs.length ∧ ∀ (j : Nat) (v : AV), vs[j]? = some v → ∃ x, arr[j]? = some x ∧ VA2 P σ ρ S w v x := evalO_ok hf hx
  obtain ⟨y, hy, hva⟩ := h3 i v hv
  exact OpOk.pure hr (run_extract h h1 hy) hva.to3

theorem op_index_str (hr : Rel P σ ρ S w) (hf : FR P σ ρ S w fr a.tmps) {t : TypeId} {x i : Operand} {s : List UInt8} {k : IntKind} {n : Int} (h : o.op = .index t x i) (ht : P.underlying t = some .string)
    (hx : evalO fr x = some (.e (.str s))) (hi : evalO fr i = some (.e (.int k n))) (h0 : 0 ≤ n) (h1 : n < s.length) : OpOk P σ ρ S w a o (.e (.int .u8 ((s.getD n.toNat 0).toNat : Int))) σ := by
  obtain ⟨b, e, hb⟩ := VA3_str (evalO_ok hf hx)
  subst hb
  have hlt : n.toNat < b.data.toList.length := by omega
  have hlt' : n.toNat < b.size := hlt
  have hbb : b[n.toNat]? = some (b.data.toList.getD n.toNat 0) := by
    rw [List.getD_eq_getElem?_getD, List.getElem?_eq_getElem hlt]
    simp only [Option.getD_some]
    rw [getElem?_pos b n.toNat hlt']
    rfl
  refine OpOk.pure hr (run_index_str h ht e (VA3_int (evalO_ok hf hi)) h0 hbb) (VE.int _ _)
end
end Go.Den

/- Each operation that the interpreter carries out is carried out so by the model: pieces of strings and slices, lengths. -/
namespace Go.Den
open Go

section
variable {P : Program} {σ : Heap} {ρ : Gr} {S : Cells} {w : World} {fr : Fr} {a : Act} {o : Oper}

section
variable {ev : Operand → Value} {x : Operand}
theorem bound_ok {v : Value} {k : IntKind} {n : Int} {y : Nat} {code : BoundsCode} (e : v = .int k n) (h0 : 0 ≤ n) (h1 : n ≤ y) : (Instr.sliceBound v y code).run P w = .ok n.toNat w := by
  subst e; simp [Instr.sliceBound, go_sem, asIntOf, h0, h1]
/-- How a bound stands in the operation. -/
def BL (ev : Operand → Value) (lo : Option Operand) (l : Int) : Prop := (lo = none ∧ l = 0) ∨ ∃ x k, lo = some x ∧ ev x = .int k l
def BH (ev : Operand → Value) (hi : Option Operand) (len : Nat) (h : Int) : Prop := (hi = none ∧ h = len) ∨ ∃ x k, hi = some x ∧ ev x = .int k h
theorem run_slice_str {t : TypeId} {lo hi : Option Operand} {s : ByteArray} {l h : Int} (hop : o.op = .slice t x lo hi none) (ht : P.underlying t = some .string) (e : ev x = .string s)
    (hl : BL ev lo l) (hh : BH ev hi s.size h) (h0 : 0 ≤ l) (h1 : l ≤ h) (h2 : h ≤ s.size) :
    (execOp ev o).run P w = .ok (.value (.string (s.extract l.toNat h.toNat))) w := by
  have h5 : l ≤ ((h.toNat : Nat) : Int) := by omega
  rcases hl with ⟨rfl, rfl⟩ | ⟨x1, k1, rfl, ex⟩ <;> rcases hh with ⟨rfl, rfl⟩ | ⟨y1, k2, rfl, ey⟩
  · simp [execOp, hop, go_sem, Instr.sliceAt, Instr.slice, run_underlying ht, e]
  · simp [execOp, hop, go_sem, Instr.sliceAt, Instr.slice, run_underlying ht, e, bound_ok ey (by omega) h2]
  · simp [execOp, hop, go_sem, Instr.sliceAt, Instr.slice, run_underlying ht, e, bound_ok ex h0 h1]
  · simp [execOp, hop, go_sem, Instr.sliceAt, Instr.slice, run_underlying ht, e, bound_ok ey (by omega) h2, bound_ok ex h0 h5]
theorem run_slice_sl {t et : TypeId} {lo hi : Option Operand} {A : Option Addr} {n c sz : Nat} {l h : Int} (hop : o.op = .slice t x lo hi none) (ht : P.underlying t = some (.slice et)) (e : ev x = .slice A n c)
    (hs : (sizeOf et).run P w = .ok sz w) (hl : BL ev lo l) (hh : BH ev hi n h) (h0 : 0 ≤ l) (h1 : l ≤ h) (h2 : h ≤ n) (h3 : n ≤ c) :
    (execOp ev o).run P w = .ok (.value (.slice (if c = l.toNat then A else A.map (·.add (l.toNat * sz))) (h.toNat - l.toNat) (c - l.toNat))) w := by
  have h5 : l ≤ ((h.toNat : Nat) : Int) := by omega
  have h4 : h ≤ (c : Int) := by omega
  rcases hl with ⟨rfl, rfl⟩ | ⟨x1, k1, rfl, ex⟩ <;> rcases hh with ⟨rfl, rfl⟩ | ⟨y1, k2, rfl, ey⟩
  · simp [execOp, hop, go_sem, Instr.sliceAt, Instr.slice, run_underlying ht, e, hs]
  · simp [execOp, hop, go_sem, Instr.sliceAt, Instr.slice, run_underlying ht, e, bound_ok ey (by omega) h4, hs]
  · simp [execOp, hop, go_sem, Instr.sliceAt, Instr.slice, run_underlying ht, e, bound_ok ex h0 h1, hs]
  · simp [execOp, hop, go_sem, Instr.sliceAt, Instr.slice, run_underlying ht, e, bound_ok ey (by omega) h4, bound_ok ex h0 h5, hs]
theorem len_str {ats : Array TypeId} {T t : TypeId} {b : ByteArray} (h1 : ats[0]? = some t) (h2 : P.underlying t = some .string) (e : ev x = .string b) :
    (Builtin.len_ ats T #[ev x]).run P w = .ok (.int .i64 b.data.toList.length) w := by
  rw [e]
  simp [Builtin.len_, h1, run_underlying h2, goInt]
theorem len_sl {ats : Array TypeId} {T t et : TypeId} {A : Option Addr} {n c : Nat} (h1 : ats[0]? = some t) (h2 : P.underlying t = some (.slice et)) (e : ev x = .slice A n c) :
    (Builtin.len_ ats T #[ev x]).run P w = .ok (.int .i64 n) w := by
  rw [e]
  simp [Builtin.len_, h1, run_underlying h2, goInt]
theorem run_len {args : Array Operand} {ats : Array TypeId} {r : Value} (h : o.op = .call { callee := .builtin .len, args := args, argTypes := ats })
    (hr : (Builtin.len_ ats o.type (args.map ev)).run P w = .ok r w) : (execOp ev o).run P w = .ok (.value r) w := by
  simp [execOp, h, go_sem, resolve, invoke, builtin, hr]
end

theorem sliceL_ok (hf : FR P σ ρ S w fr a.tmps) {lo : Option Operand} {l : Int} (h : sliceL fr lo = some l) : BL a.eval lo l := by
  unfold sliceL at h
  split at h
  · injection h with h; exact .inl ⟨rfl, h.symm⟩
  · rename_i x
    split at h
    · rename_i k n hx
      injection h with h; subst h
      exact .inr ⟨x, k, rfl, VA3_int (evalO_ok hf hx)⟩
    · cases h
theorem sliceH_ok (hf : FR P σ ρ S w fr a.tmps) {hi : Option Operand} {len : Nat} {l : Int} (h : sliceH fr len hi = some l) : BH a.eval hi len l := by
  unfold sliceH at h
  split at h
  · injection h with h; exact .inl ⟨rfl, h.symm⟩
  · rename_i x
    split at h
    · rename_i k n hx
      injection h with h; subst h
      exact .inr ⟨x, k, rfl, VA3_int (evalO_ok hf hx)⟩
    · cases h

theorem take_drop_extract (b : ByteArray) (l h : Nat) : (b.extract l h).data.toList = (b.data.toList.take h).drop l := by
  simp [List.extract_eq_take_drop, List.drop_take]

theorem op_slice_str (hr : Rel P σ ρ S w) (hf : FR P σ ρ S w fr a.tmps) {t : TypeId} {x : Operand} {lo hi : Option Operand} {s : List UInt8} {l h : Int} (hop : o.op = .slice t x lo hi none) (ht : P.underlying t = some .string)
    (hx : evalO fr x = some (.e (.str s))) (hl : sliceL fr lo = some l) (hh : sliceH fr s.length hi = some h) (h0 : 0 ≤ l) (h1 : l ≤ h) (h2 : h ≤ s.length) :
    OpOk P σ ρ S w a o (.e (.str ((s.take h.toNat).drop l.toNat))) σ := by
  obtain ⟨b, e, hb⟩ := VA3_str (evalO_ok hf hx)
  subst hb
  exact OpOk.pure hr (run_slice_str hop ht e (sliceL_ok hf hl) (sliceH_ok hf hh) h0 h1 h2) (VE.str _ _ (take_drop_extract _ _ _))

theorem VE_sl_inv {et : TypeId} {xs : List E} {cv : Value} (h : VE P w S (.sl et xs) cv) : ∃ (A : Option Addr) (c : Nat) (fs : List TypeId) (b o : Nat) (f : Nat → Nat → Value), cv = .slice A xs.length c ∧ flat P depth et = some fs ∧ xs.length ≤ c ∧
    (∀ (i : Nat) (y : E), xs[i]? = some y → y.cells.length = fs.length) ∧
    (∀ (i : Nat) (y : E) (j : Nat) (ct : TypeId) (x : E), xs[i]? = some y → fs[j]? = some ct → y.cells[j]? = some x → okCell P ct x = true) ∧
    (∀ (i : Nat) (y : E) (j : Nat) (x : E), xs[i]? = some y → y.cells[j]? = some x → A = some ⟨b, o, none⟩ ∧ S b (o + i * fs.length + j) ∧ w.cell? ⟨b, o + i * fs.length + j, none⟩ = some (f i j)) ∧
    (∀ (i : Nat) (y : E) (j : Nat) (x : E), xs[i]? = some y → y.cells[j]? = some x → VE P w S x (f i j)) := by
  cases h with
  | sl _ _ A c fs b o f h1 h2 h3 h4 h5 h6 => exact ⟨A, c, fs, b, o, f, rfl, h1, h2, h3, h4, h5, h6⟩

theorem strOfNums_bytes : ∀ (xs : List E), (Go.strOfNums (xs.map E.toInt)).data.toList = unbytes xs := by
  intro xs
  simp [Go.strOfNums, unbytes]

/-- Bytes as a string. -/
theorem op_convert_bytes (hr : Rel P σ ρ S w) (hf : FR P σ ρ S w fr a.tmps) {src dst et : TypeId} {x : Operand} {v u : AV} {b : Bool} (h : o.op = .convert src dst x)
    (hs : P.underlying src = some (.slice et)) (hd : P.underlying dst = some .string) (hx : evalO fr x = some v) (hb : bytesTo P et v = some (b, u)) (hbt : b = true) : OpOk P σ ρ S w a o u σ := by
  unfold bytesTo at hb
  split at hb
  · rename_i et' xs he hv
    split at hb
    · rename_i hee
      subst hee
      injection hb with hb
      injection hb with hb1 hb2
      subst hb2
      rw [hbt] at hb1
      have hve := seal1_3 hv (evalO_ok hf hx)
      obtain ⟨A, c, fs, bk, of, f, e1, hfs, hc, h2, h3, h4, h5⟩ := VE_sl_inv hve
      have hfl : fs = [et] := by
        have : flat P depth et = some [et] := by simp [flat, depth, he]
        rw [this] at hfs; injection hfs with hfs; exact hfs.symm
      subst hfl
      have hall := List.all_eq_true.1 hb1
      have hcell : ∀ (i : Nat) (y : E), xs[i]? = some y → A = some ⟨bk, of, none⟩ ∧ w.cell? ⟨bk, of + i, none⟩ = some (.int .u8 y.toInt) := fun i y hy => by
        have hb := hall y (List.mem_of_getElem? hy)
        cases y with
        | int k n =>
          cases k <;> first | (simp [isByte] at hb; done) | skip
          obtain ⟨k1, _, k2⟩ := h4 i _ 0 _ hy rfl
          have k3 := h5 i _ 0 _ hy rfl
          simp only [List.length_cons, List.length_nil, Nat.zero_add, Nat.mul_one, Nat.add_zero] at k2
          rw [k2]
          generalize f i 0 = q at k3
          cases k3
          exact ⟨k1, rfl⟩
        | _ => simp [isByte] at hb
      cases hxs : xs with
      | nil =>
        subst hxs
        have hconv : (convert src dst (.slice A 0 c)).run P w = .ok (.string ByteArray.empty) w := by
          cases A with
          | none => exact run_convert_bytes_nil w src et hs he 0 c dst hd
          | some A =>
            rw [run_convert_bytes_string w src dst et (some A) 0 c hs he hd, run_bytesToString w A 0 c [] (by simp [loadCells, go_sem])]
            rfl
        exact OpOk.pure hr (run_convert h e1 hconv) (VE.str _ _ rfl)
      | cons y0 ys =>
        obtain ⟨hA, _⟩ := hcell 0 y0 (by rw [hxs]; rfl)
        subst hA
        have hconv := run_convert_bytes_arg w src et hs he bk of xs.length c (xs.map E.toInt) (by simp) (fun i hi => by
          have hy : xs[i]? = some xs[i] := List.getElem?_eq_getElem hi
          rw [(hcell i _ hy).2]
          simp [List.getD_eq_getElem?_getD, hi]) dst hd
        rw [hxs] at hconv e1
        exact OpOk.pure hr (run_convert h e1 hconv) (VE.str _ _ (by rw [strOfNums_bytes]))
    · cases hb
  · cases hb

theorem VE_piece {et : TypeId} {xs : List E} {A : Option Addr} {n c : Nat} (h : VE P w S (.sl et xs) (.slice A n c)) {fs : List TypeId} (hfs : flat P depth et = some fs) (l h' : Nat) (h1 : l ≤ h') (h2 : h' ≤ xs.length) :
    VE P w S (.sl et ((xs.take h').drop l)) (.slice (if c = l then A else A.map (·.add (l * fs.length))) (h' - l) (c - l)) := by
  obtain ⟨A', c', fs', b, o, f, e, hfs', hc, hlen, hok, hA, hE⟩ := VE_sl_inv h
  injection e with e1 e2 e3
  subst e1; subst e2; subst e3
  rw [hfs] at hfs'; injection hfs' with hfs'; subst hfs'
  have hget : ∀ (i : Nat) (y : E), ((xs.take h').drop l)[i]? = some y → xs[l + i]? = some y := by
    intro i y hy
    rw [List.getElem?_drop] at hy
    rw [List.getElem?_take] at hy
    split at hy
    · exact hy
    · cases hy
  have hl : ((xs.take h').drop l).length = h' - l := by simp; omega
  rw [← hl]
  refine VE.sl et _ _ _ fs b (o + l * fs.length) (fun i j => f (l + i) j) hfs (by rw [hl]; omega) (fun i y hy => hlen _ y (hget i y hy)) (fun i y j ct x hy => hok _ y j ct x (hget i y hy)) ?_ (fun i y j x hy => hE _ y j x (hget i y hy))
  intro i y j x hy hj
  obtain ⟨h3, h4, h5⟩ := hA _ y j x (hget i y hy) hj
  subst h3
  have hne : c ≠ l := by
    have := (List.getElem?_eq_some_iff.1 (hget i y hy)).1
    omega
  rw [if_neg hne]
  have e : o + (l + i) * fs.length + j = o + l * fs.length + i * fs.length + j := by rw [Nat.add_mul]; omega
  rw [e] at h4 h5
  refine ⟨?_, h4, h5⟩
  simp only [Option.map_some, Addr.add]
  split
  · rename_i hz; rw [hz]; rfl
  · rfl

theorem op_slice_sl (hr : Rel P σ ρ S w) (hf : FR P σ ρ S w fr a.tmps) {t et : TypeId} {x : Operand} {lo hi : Option Operand} {v : AV} {xs : List E} {l h : Int} (hop : o.op = .slice t x lo hi none) (ht : P.underlying t = some (.slice et))
    (hx : evalO fr x = some v) (hv : v.seal1 = some (.sl et xs)) (hsz : (flat P depth et).map List.length = sizeB P et) (hl : sliceL fr lo = some l) (hh : sliceH fr xs.length hi = some h) (h0 : 0 ≤ l) (h1 : l ≤ h) (h2 : h ≤ xs.length) :
    OpOk P σ ρ S w a o (.e (.sl et ((xs.take h.toNat).drop l.toNat))) σ := by
  have hve := seal1_3 hv (evalO_ok hf hx)
  obtain ⟨A, c, fs, b, o', f, e, hfs, hc, _⟩ := VE_sl_inv hve
  rw [hfs] at hsz
  rw [e] at hve
  exact OpOk.pure hr (run_slice_sl hop ht e (run_sizeOf hsz.symm) (sliceL_ok hf hl) (sliceH_ok hf hh) h0 h1 h2 hc) (VE_piece hve hfs l.toNat h.toNat (by omega) (by omega))

theorem args_one {α : Type} {f : Operand → α} {args : Array Operand} {r : α} (h : args.toList.map f = [r]) : ∃ x, args = #[x] ∧ f x = r := by
  obtain ⟨l⟩ := args
  cases l with
  | nil => simp at h
  | cons x l =>
    cases l with
    | nil => simp at h; exact ⟨x, rfl, h⟩
    | cons y l => simp at h
theorem args_two {α : Type} {f : Operand → α} {args : Array Operand} {r r' : α} (h : args.toList.map f = [r, r']) : ∃ x y, args = #[x, y] ∧ f x = r ∧ f y = r' := by
  obtain ⟨l⟩ := args
  match l with
  | [] => simp at h
  | [x] => simp at h
  | [x, y] => simp at h; exact ⟨x, y, rfl, h⟩
  | x :: y :: z :: l => simp at h

theorem op_len_str (hr : Rel P σ ρ S w) (hf : FR P σ ρ S w fr a.tmps) {args : Array Operand} {ats : Array TypeId} {s : List UInt8} (h : o.op = .call { callee := .builtin .len, args := args, argTypes := ats })
    (hx : args.toList.map (evalO fr) = [some (.e (.str s))]) (ht : (ats[0]?).bind P.underlying = some .string) : OpOk P σ ρ S w a o (.e (.int .i64 s.length)) σ := by
  obtain ⟨t, ht1, ht2⟩ := Option.bind_eq_some_iff.1 ht
  obtain ⟨x, rfl, hx'⟩ := args_one hx
  obtain ⟨b, e, hb⟩ := VA3_str (evalO_ok hf hx')
  subst hb
  exact OpOk.pure hr (run_len h (by simpa using len_str ht1 ht2 e)) (VE.int _ _)

theorem op_len_sl (hr : Rel P σ ρ S w) (hf : FR P σ ρ S w fr a.tmps) {args : Array Operand} {ats : Array TypeId} {v : AV} {et et' : TypeId} {xs : List E} (h : o.op = .call { callee := .builtin .len, args := args, argTypes := ats })
    (hx : args.toList.map (evalO fr) = [some v]) (hv : v.seal1 = some (.sl et xs)) (ht : (ats[0]?).bind P.underlying = some (.slice et')) : OpOk P σ ρ S w a o (.e (.int .i64 xs.length)) σ := by
  obtain ⟨t, ht1, ht2⟩ := Option.bind_eq_some_iff.1 ht
  obtain ⟨x, rfl, hx'⟩ := args_one hx
  obtain ⟨A, c, fs, b, o', f, e, _⟩ := VE_sl_inv (seal1_3 hv (evalO_ok hf hx'))
  exact OpOk.pure hr (run_len h (by simpa using len_sl ht1 ht2 e)) (VE.int _ _)
end
end Go.Den

